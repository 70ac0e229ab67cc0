/- A part of the proof: W77, W78, W43, W44, W45, W46. -/
import Derived.Test.YtjjmefieegcddaaDoorA31
import Derived.Test.YtjjmefieegcddaaDoorA27
import Derived.Test.YtjjmefieegcddaaDoorA14
import Derived.Maps.Own
import Derived.Maps.Views
set_option linter.unusedVariables false
set_option linter.unusedSimpArgs false
namespace Go.Proofs.YtjjmefieegcddaaDoor
open Go.RowKit Go.Wg Go.Mm
variable {w:World} {V:View}
theorem two_one {a b:Value} (h1:a.oneCell'=true) (h2:b.oneCell'=true):∀ v∈[a,b],v.oneCell'=true:=fun v hv=>by
 rcases List.mem_cons.1 hv with rfl | hv
 ·exact h1
 ·rw [List.mem_singleton] at hv;subst hv;exact h2
theorem rdg_upd (l:List Rdg) (pad:List Value) (q:Nat) (hq:q < l.length) (sh:Int):(rdgC l ++ pad).set (q * 4+2) (.int .i64 sh)=rdgC (l.set q ⟨(l.getD q default).vessel,(l.getD q default).scale,sh,(l.getD q default).err⟩) ++ pad:=by
 induction l generalizing q with
 | nil=>simp at hq
 | cons v l ih =>
  cases q with
  | zero=>simp [rdgC,Rdg.cells]
  | succ q =>
   have h:=ih q (by simpa using hq)
   rw [show (q+1) * 4+2=q * 4+2+1+1+1+1 by omega]
   simp only [rdgC,List.flatMap_cons,Rdg.cells,List.cons_append,List.nil_append,List.set_cons_succ,List.getD_cons_succ] at h ⊢
   rw [h]
theorem rdg_at (l:List Rdg) (pad:List Value) (q:Nat) (hq:q < l.length):(rdgC l ++ pad)[q * 4+2]? = some (.int .i64 (l.getD q default).shown):=by
 have:=flat4 Rdg.cells (fun _=>rfl) l q (l.getD q default) (by simp [List.getD_eq_getElem?_getD,List.getElem?_eq_getElem hq]) 2 (by decide)
 rw [List.getElem?_append_left (by rw [rdgC,flat4_len _ (fun _=>rfl)];omega)]
 exact this
set_option maxRecDepth 40000 in
set_option maxHeartbeats 8000000 in
theorem WorksOf_ok {bh:Nat} {lv:Value} {cn st:Int} (hh:HatOf V bh lv cn) (hc9:cn≤900000) {vessels room:Int} (hv:1≤vessels∧vessels≤6) (hr:1≤room∧room≤40) (hV:V.In w) (hVb:V bh=none) (hg:w.heap[bh]? = some (.cells (hatC lv cn st).toArray 90 (0,0))) :
  Calls Tryd.prog 33 #[.pointer (some ⟨bh,0,none⟩),.int .i64 vessels,.int .i64 room] w fun e w'=>∃ (k:Wk) (vv rv:Value) (cn' st':Int),e=.returned (.agg #[vv,rv])∧k.Ok∧(k.n:Int)≤vessels∧k.rdg.length≤4∧cn≤cn'∧cn'≤cn+120 ∧
   St w [bh] V [.row vv 29 4 k.n (vesC k.ves),.row rv 59 4 k.rdg.length (rdgC k.rdg),.blk bh 90 (hatC lv cn' st')] w':=by
 have hS:=St.start1 w V hV hg hVb
 have hto:=fun (c:Int) (h1:cn≤c) (h2:c≤1000000)=>hh.to h1 h2
 clear hg
 go_enter Tryd.func33,Tryd.ntmps33
 go_wp2_with (first | (first | (((with_reducible refine gS ?_);refine qsall hS rfl rfl rfl ?_);refine ⟨_,zd,?_⟩;clear hS;(try clear w');intro a' hp;(try simp only [fr] at hp);subst hp;intro w' hS;(try simp only [sE] at hS)) | ((with_reducible refine gA ?_);refine qallocd 6 rfl hS rfl rfl ?_;clear hS;(try clear w');intro b6;intro a' hp;(try simp only [fr] at hp);subst hp;intro w' hS) | ((with_reducible refine gA ?_);refine qallocd 7 rfl hS rfl rfl ?_;clear hS;(try clear w');intro b7;intro a' hp;(try simp only [fr] at hp);subst hp;intro w' hS)) | (go_at_call 38;refine (MeltOf_ok hh hc9 hv hr (St.view hS) hVb (St.has1 hS)).mono ?_;rintro _ w1 ⟨k,ws,vv,rv,mv,c1,s1,rfl,hok,hkn,hrl,htr,k1,k2,hS1⟩;replace hS:St w [bh] V [.row mv 3 1 k.n (intsC ws),.row vv 29 4 k.n (vesC k.ves),.row rv 59 4 k.rdg.length (rdgC k.rdg),.blk b6 25 [.slice none 0 0,.slice none 0 0],.blk bh 90 (hatC lv c1 s1)] w1:=hS.comp (j:=1) rfl (hS1.perm (List.perm_append_comm (l₁:=[_,_,_]) (l₂:=[_])));clear hS1;have hvv:=rowOne hS vv;have hrv:=rowOne hS rv;have hone2:∀ v∈[vv,rv],v.oneCell'=true:=two_one hvv hrv))
 have hS3:=hS.perm (List.perm_middle (l₁:=[_,_,_]))
 have hrd:∀ j,j < k.rdg.length→(k.rdg.getD j default).shown≤49:=fun j hj=>by
  obtain ⟨o1,o2,_,_,_,_,o7,o8⟩:=hok.rdg j hj
  have hm:k.rdg.getD j default∈k.rdg:=by
   rw [List.getD_eq_getElem?_getD,List.getElem?_eq_getElem hj]
   exact List.getElem_mem hj
  have h1:=(htr.rdg _ hm).1
  have h2:=(htr.room (k.rdg.getD j default).vessel.toNat (by omega)).2
  have h3:=(hok.ves (k.rdg.getD j default).vessel.toNat (by omega)).2.2.2.1
  omega
 generalize hro:k.rdg=ro at hS hS3 hrd hrl
 have hrok:∀ j,j < ro.length→(ro.getD j default).Ok k.n:=fun j hj=>by subst hro;exact hok.rdg j hj
 replace hro:=mkHid hro
 rcases row_cases hS3 with ⟨hrv0,hr0⟩ | ⟨gr,cap,pad,hrv0,q1,q2,q3,q4,q5,hS4⟩
 ·subst hrv0
  rw [hr0] at hS
  clear hS3 hrd hrok
  go_loopw [9] (fun iv wr=>iv=.int .i64 0∧St w [bh] V [.blk b7 25 [vv,.slice none 0 0],.row vv 29 4 k.n (vesC k.ves),.row (.slice none 0 0) 59 4 0 (rdgC ro),.blk b6 25 [.slice none 0 0,.slice none 0 0],.blk bh 90 (hatC lv c1 s1)] wr) (fun _ _=>0)
  case atStart=>exact ⟨rfl,hS.subI⟩
  case round =>
   clear hS
   obtain ⟨rfl,hS⟩:=hrel
   go_wp2_with ((first | ((with_reducible refine gL ?_);first | refine ql1 hS rfl rfl rfl ?_ | refine qln hS rfl rfl rfl ?_) | ((with_reducible refine gS ?_);refine qsall hS rfl rfl rfl ?_));refine ⟨_,zd,?_⟩;clear hS;(try clear w');intro a' hp;(try simp only [fr] at hp);subst hp;intro w' hS;(try simp only [sE] at hS))
   ((try simp only [Exit.inBlock,Exit.then]);(try refine bodyPost_norm ?_);refine ret_by ⟨_,by exact results1 (r1:=.cell 6 25) (by kernel_rfl) (by exact rs_n hS rfl zd),?_⟩ rfl)
   exact ⟨k,vv,_,c1,s1,rfl,hok,hkn,(by rw [hro.out];exact hrl),by omega,by omega,by rw [hro.out,hr0];exact hS.subI⟩
 ·subst hrv0
  replace hS:St w [bh] V [.blk gr 59 (rdgC ro ++ pad),.blk b7 25 [vv,.slice (some ⟨gr,0,none⟩) ro.length cap],.row mv 3 1 k.n (intsC ws),.row vv 29 4 k.n (vesC k.ves),.blk b6 25 [.slice none 0 0,.slice none 0 0],.blk bh 90 (hatC lv c1 s1)] _:=hS4
  clear hS3 hS4
  have hpl:ro.length * 4+pad.length=cap * 4:=by rw [List.length_append,q3] at q4;exact q4
  clear q3 q4
  have hkl:0≤k.n:=by omega
  go_loopw [9] (fun iv wr=>∃ (i:Nat) (r:List Rdg) (c2 s2:Int),iv=.int .i64 (i:Int)∧i≤ro.length∧r.length=ro.length∧(∀ j,j < ro.length→(r.getD j default).Ok k.n∧(i≤j→(r.getD j default).shown≤49))∧cn≤c2∧c2≤cn+100+2 * i ∧
   St w [bh] V [.blk gr 59 (rdgC r ++ pad),.blk b7 25 [vv,.slice (some ⟨gr,0,none⟩) ro.length cap],.row vv 29 4 k.n (vesC k.ves),.blk b6 25 [.slice none 0 0,.slice none 0 0],.blk bh 90 (hatC lv c2 s2)] wr) (fun iv _=>ro.length - (intOf iv).toNat)
  case atStart=>exact ⟨0,ro,c1,s1,rfl,by omega,rfl,fun j hj=>⟨hrok j hj,fun _=>hrd j hj⟩,by omega,by omega,hS.subI⟩
  case round =>
   clear hS
   obtain ⟨i,r,c2,s2,rfl,hi,hrl2,hall,k3,k4,hS⟩:=hrel
   by_cases hlt:i < ro.length
   ·have hlt':(i:Int) < ro.length:=by omega
    have h0i:(0:Int)≤i:=by omega
    obtain ⟨⟨o1,o2,o3,o4,o5,o6,o7,o8⟩,o9⟩:=hall i hlt
    have o10:=o9 (Nat.le_refl _)
    have hcell:=rdg_at r pad i (by omega)
    have hlr:(rdgC r).length+pad.length ≥ ro.length * 4:=by rw [rdgC,flat4_len _ (fun _=>rfl),hrl2];omega
    have hup:=rdg_upd r pad i (by omega)
    have hnx:∀ sh,0≤sh→sh≤60→∀ j,j < ro.length→((r.set i ⟨(r.getD i default).vessel,(r.getD i default).scale,sh,(r.getD i default).err⟩).getD j default).Ok k.n∧(i+1≤j→((r.set i ⟨(r.getD i default).vessel,(r.getD i default).scale,sh,(r.getD i default).err⟩).getD j default).shown≤49):=fun sh h1 h2 j hj=>by
     rw [getD_set _ _ _ _ _ (by omega)]
     by_cases e:i=j
     ·subst e
      rw [if_pos rfl]
      exact ⟨⟨o1,o2,o3,o4,h1,h2,o7,o8⟩,fun h=>by omega⟩
     ·rw [if_neg e]
      exact ⟨(hall j hj).1,fun h=>(hall j hj).2 (by omega)⟩
    have hno:∀ j,j < ro.length→(r.getD j default).Ok k.n∧(i+1≤j→(r.getD j default).shown≤49):=fun j hj=>⟨(hall j hj).1,fun h=>(hall j hj).2 (by omega)⟩
    generalize (r.getD i default).shown=sh0 at hcell o5 o10
    clear o1 o2 o3 o4 o6 o7 o8 o9
    replace hnx:=mkHid hnx;replace hno:=mkHid hno;replace hup:=mkHid hup
    clear hall hrd hrok
    go_wp2_with (first | (((with_reducible refine gL ?_);refine ql1 hS rfl rfl rfl ?_);refine ⟨_,zd,?_⟩;clear hS;(try clear w');intro a' hp;(try simp only [fr] at hp);subst hp;intro w' hS;(try simp only [sE] at hS)) | (go_at_call 72;refine calls_hat hS ⟨1,_,fun _ hg=>Seldom_ok (hto _ (by omega) (by omega)) (by omega) (St.view hS) hVb hg,?_⟩;clear hS;(try clear w');intro v c3 s3 w' hp k5 k6 hS;(try simp only [sE] at hS);obtain ⟨x,rfl⟩:=hp))
    focus
     (refine held_start (S:=(St w [bh] V [.blk b7 25 [vv,.slice (some ⟨gr,0,none⟩) ro.length cap]])) [false,false,false,false,false,false,false,false,false,false,false,false,false,false,false,false,false] rfl (by kernel_rfl) ?_;replace hS:=St.drew1 hS;(iterate 9 ((first | refine hxp 0 rfl ?_ | refine hxa 1 rfl ?_ | refine hxm 2 rfl ?_ | refine hxp 3 rfl ?_ | refine hxa 4 rfl ?_ | refine hxm 5 rfl ?_ | refine hxp 6 rfl ?_ | refine hxp 7 rfl ?_ | refine hxm 9 rfl ?_);intro a' l' hp hl;(try simp only [fr] at hp);(try simp only [sB] at hl);subst hp;subst hl));(focus (refine he_two 8 10 (by kernel_rfl) ?_ ?_;rotate_left;(refine we_bsl 10 rfl hS rfl  rfl ?_;refine ⟨_,zq,zd,?_⟩;clear hS;(try clear w');intro b36;intro a' l' hp hl;(try simp only [fr] at hp);(try simp only [sB] at hl);subst hp;subst hl;intro w' hS;refine ⟨(St.subI hS),?_⟩);(focus (refine he_two 8 11 (by kernel_rfl) ?_ ?_;rotate_left;(refine we_hat (bh:=bh) 11 rfl hS rfl  ?_;refine ⟨_,_,zo,?_⟩;refine ⟨1,_,(fun _ hg=>One_ok (b:=b36) (hto _ (by omega) (by omega)) hS.has1 ⟨rfl,by decide,by decide⟩ (St.view hS) hVb (hs_ne hS (by decide)) hg),?_⟩;clear hS;(try clear w');intro v c37 s37 a' l' hpr hc37 hd37 hp hl;obtain ⟨x37,rfl,hx37⟩:=hpr;replace hx37:-6≤x37∧x37≤6:=(by simp only [List.mem_cons,List.not_mem_nil,or_false] at hx37;omega);(try simp only [fr] at hp);(try simp only [sB] at hl);subst hp;subst hl;intro w' hS;(try simp only [sE] at hS);refine ⟨(St.subI hS),?_⟩);(refine he_l1 8 (by kernel_rfl) rfl hS rfl rfl rfl ?_;refine ⟨_,zd,?_⟩;clear hS;(try clear w');intro a' l' hp hl;(try simp only [fr] at hp);(try simp only [sB] at hl);subst hp;subst hl;intro w' hS;refine ⟨(St.subI hS),?_⟩);(refine ht_pure 12 rfl (by kernel_rfl) (by kernel_rfl) (by kernel_rfl) (fun _ _ _ _ h=>h) rfl (St.subI hS) ?_;refine ⟨_,zp,?_⟩;intro a' l' hp hl;(try simp only [fr] at hp);(try simp only [sB] at hl);subst hp;subst hl);(refine ht_pure 13 rfl (by kernel_rfl) (by kernel_rfl) (by kernel_rfl) (fun _ _ _ _ h=>h) rfl (St.subI hS) ?_;refine ⟨_,(fun w=>run_maxI rfl rfl rfl w),?_⟩;intro a' l' hp hl;(try simp only [fr] at hp);(try simp only [sB] at hl);subst hp;subst hl);(refine ht_pure 14 rfl (by kernel_rfl) (by kernel_rfl) (by kernel_rfl) (fun _ _ _ _ h=>h) rfl (St.subI hS) ?_;refine ⟨_,zp,?_⟩;intro a' l' hp hl;(try simp only [fr] at hp);(try simp only [sB] at hl);subst hp;subst hl);(refine ht_pure 15 rfl (by kernel_rfl) (by kernel_rfl) (by kernel_rfl) (fun _ _ _ _ h=>h) rfl (St.subI hS) ?_;refine ⟨_,zp,?_⟩;intro a' l' hp hl;(try simp only [fr] at hp);(try simp only [sB] at hl);subst hp;subst hl);((refine he_s1 16 (by kernel_rfl) rfl hS rfl  rfl rfl ?_;refine ⟨_,zd,?_⟩);clear hS;(try clear w');intro a' l' hp hl;(try simp only [fr] at hp);(try simp only [sB] at hl);subst hp;subst hl;intro w' hS;(try simp only [sE] at hS);refine ⟨(St.subI hS),?_⟩);refine wpAnyH_done (by kernel_rfl) ?_ _;rotate_left;(refine we_l1 8 rfl hS rfl  rfl rfl ?_;refine ⟨_,zd,?_⟩;clear hS;(try clear w');intro a' l' hp hl;(try simp only [fr] at hp);(try simp only [sB] at hl);subst hp;subst hl;intro w' hS;refine ⟨(St.subI hS),?_⟩);(refine he_hat (bh:=bh) 11 (by kernel_rfl) rfl hS rfl  ?_;refine ⟨_,_,zo,?_⟩;refine ⟨1,_,(fun _ hg=>One_ok (b:=b36) (hto _ (by omega) (by omega)) hS.has1 ⟨rfl,by decide,by decide⟩ (St.view hS) hVb (hs_ne hS (by decide)) hg),?_⟩;clear hS;(try clear w');intro v c37 s37 a' l' hpr hc37 hd37 hp hl;obtain ⟨x37,rfl,hx37⟩:=hpr;replace hx37:-6≤x37∧x37≤6:=(by simp only [List.mem_cons,List.not_mem_nil,or_false] at hx37;omega);(try simp only [fr] at hp);(try simp only [sB] at hl);subst hp;subst hl;intro w' hS;(try simp only [sE] at hS);refine ⟨(St.subI hS),?_⟩);(refine ht_pure 12 rfl (by kernel_rfl) (by kernel_rfl) (by kernel_rfl) (fun _ _ _ _ h=>h) rfl (St.subI hS) ?_;refine ⟨_,zp,?_⟩;intro a' l' hp hl;(try simp only [fr] at hp);(try simp only [sB] at hl);subst hp;subst hl);(refine ht_pure 13 rfl (by kernel_rfl) (by kernel_rfl) (by kernel_rfl) (fun _ _ _ _ h=>h) rfl (St.subI hS) ?_;refine ⟨_,(fun w=>run_maxI rfl rfl rfl w),?_⟩;intro a' l' hp hl;(try simp only [fr] at hp);(try simp only [sB] at hl);subst hp;subst hl);(refine ht_pure 14 rfl (by kernel_rfl) (by kernel_rfl) (by kernel_rfl) (fun _ _ _ _ h=>h) rfl (St.subI hS) ?_;refine ⟨_,zp,?_⟩;intro a' l' hp hl;(try simp only [fr] at hp);(try simp only [sB] at hl);subst hp;subst hl);(refine ht_pure 15 rfl (by kernel_rfl) (by kernel_rfl) (by kernel_rfl) (fun _ _ _ _ h=>h) rfl (St.subI hS) ?_;refine ⟨_,zp,?_⟩;intro a' l' hp hl;(try simp only [fr] at hp);(try simp only [sB] at hl);subst hp;subst hl);((refine he_s1 16 (by kernel_rfl) rfl hS rfl  rfl rfl ?_;refine ⟨_,zd,?_⟩);clear hS;(try clear w');intro a' l' hp hl;(try simp only [fr] at hp);(try simp only [sB] at hl);subst hp;subst hl;intro w' hS;(try simp only [sE] at hS);refine ⟨(St.subI hS),?_⟩);refine wpAnyH_done (by kernel_rfl) ?_ _));rotate_left 2;(refine we_l1 8 rfl hS rfl  rfl rfl ?_;refine ⟨_,zd,?_⟩;clear hS;(try clear w');intro a' l' hp hl;(try simp only [fr] at hp);(try simp only [sB] at hl);subst hp;subst hl;intro w' hS;refine ⟨(St.subI hS),?_⟩);(refine he_bsl 10 (by kernel_rfl) rfl hS rfl  rfl ?_;refine ⟨_,zq,zd,?_⟩;clear hS;(try clear w');intro b36;intro a' l' hp hl;(try simp only [fr] at hp);(try simp only [sB] at hl);subst hp;subst hl;intro w' hS;refine ⟨(St.subI hS),?_⟩);(refine he_hat (bh:=bh) 11 (by kernel_rfl) rfl hS rfl  ?_;refine ⟨_,_,zo,?_⟩;refine ⟨1,_,(fun _ hg=>One_ok (b:=b36) (hto _ (by omega) (by omega)) hS.has1 ⟨rfl,by decide,by decide⟩ (St.view hS) hVb (hs_ne hS (by decide)) hg),?_⟩;clear hS;(try clear w');intro v c37 s37 a' l' hpr hc37 hd37 hp hl;obtain ⟨x37,rfl,hx37⟩:=hpr;replace hx37:-6≤x37∧x37≤6:=(by simp only [List.mem_cons,List.not_mem_nil,or_false] at hx37;omega);(try simp only [fr] at hp);(try simp only [sB] at hl);subst hp;subst hl;intro w' hS;(try simp only [sE] at hS);refine ⟨(St.subI hS),?_⟩);(refine ht_pure 12 rfl (by kernel_rfl) (by kernel_rfl) (by kernel_rfl) (fun _ _ _ _ h=>h) rfl (St.subI hS) ?_;refine ⟨_,zp,?_⟩;intro a' l' hp hl;(try simp only [fr] at hp);(try simp only [sB] at hl);subst hp;subst hl);(refine ht_pure 13 rfl (by kernel_rfl) (by kernel_rfl) (by kernel_rfl) (fun _ _ _ _ h=>h) rfl (St.subI hS) ?_;refine ⟨_,(fun w=>run_maxI rfl rfl rfl w),?_⟩;intro a' l' hp hl;(try simp only [fr] at hp);(try simp only [sB] at hl);subst hp;subst hl);(refine ht_pure 14 rfl (by kernel_rfl) (by kernel_rfl) (by kernel_rfl) (fun _ _ _ _ h=>h) rfl (St.subI hS) ?_;refine ⟨_,zp,?_⟩;intro a' l' hp hl;(try simp only [fr] at hp);(try simp only [sB] at hl);subst hp;subst hl);(refine ht_pure 15 rfl (by kernel_rfl) (by kernel_rfl) (by kernel_rfl) (fun _ _ _ _ h=>h) rfl (St.subI hS) ?_;refine ⟨_,zp,?_⟩;intro a' l' hp hl;(try simp only [fr] at hp);(try simp only [sB] at hl);subst hp;subst hl);((refine he_s1 16 (by kernel_rfl) rfl hS rfl  rfl rfl ?_;refine ⟨_,zd,?_⟩);clear hS;(try clear w');intro a' l' hp hl;(try simp only [fr] at hp);(try simp only [sB] at hl);subst hp;subst hl;intro w' hS;(try simp only [sE] at hS);refine ⟨(St.subI hS),?_⟩);refine wpAnyH_done (by kernel_rfl) ?_ _)))
     all_goals (
      rw [hup.out] at hS
      go_wp2_with (fail)
      go_roundw
      case rel=>exact ⟨i+1,_,c37,s37,by go_num,by omega,by rw [List.length_set];exact hrl2,hnx.out (max 0 (sh0+x37)) (by omega) (by omega),by omega,by omega,hS.subI⟩
      case measure=>simp only [intOf];omega)
    go_roundw
    case rel=>exact ⟨i+1,r,c3,s3,by go_num,by omega,hrl2,hno.out,by omega,by omega,hS.subI⟩
    case measure=>simp only [intOf];omega
   ·obtain rfl:i=ro.length:=by omega
    have hone3:∀ v∈[vv,Value.slice (some ⟨gr,0,none⟩) ro.length cap],v.oneCell'=true:=two_one hvv rfl
    clear hone2
    go_wp2_with ((first | ((with_reducible refine gL ?_);first | refine ql1 hS rfl rfl rfl ?_ | refine qln hS rfl rfl rfl ?_) | ((with_reducible refine gS ?_);refine qsall hS rfl rfl rfl ?_));refine ⟨_,zd,?_⟩;clear hS;(try clear w');intro a' hp;(try simp only [fr] at hp);subst hp;intro w' hS;(try simp only [sE] at hS))
    ((try simp only [Exit.inBlock,Exit.then]);(try refine bodyPost_norm ?_);refine ret_by ⟨_,by exact results1 (r1:=.cell 6 25) (by kernel_rfl) (by exact rs_n hS rfl zd),?_⟩ rfl)
    have hK:(⟨k.ves,r⟩:Wk).Ok:=⟨hok.pos,hok.le,hok.ves,by show r.length≤6;omega,fun j hj=>(hall j (by have hj':j < r.length:=hj;omega)).1⟩
    refine ⟨⟨k.ves,r⟩,vv,_,c2,s2,rfl,hK,hkn,by show r.length≤4;omega,by omega,by omega,?_⟩
    have h1:St w [bh] V [.blk gr 59 (rdgC r ++ pad),.row vv 29 4 k.n (vesC k.ves),.blk bh 90 (hatC lv c2 s2)] _:=hS.subI
    have el:(rdgC r).length=ro.length * 4:=by rw [rdgC,flat4_len _ (fun _=>rfl),hrl2]
    have h2:=(blk_row (n:=ro.length) (s:=4) (cap:=cap) h1 q1 q2 el (by rw [List.length_append,el];exact hpl) q5).perm (List.Perm.swap _ _ _)
    show St w [bh] V [.row vv 29 4 k.n (vesC k.ves),.row _ 59 4 r.length (rdgC r),.blk bh 90 (hatC lv c2 s2)] _
    rw [hrl2]
    exact h2
end Go.Proofs.YtjjmefieegcddaaDoor
namespace Go.Proofs.YtjjmefieegcddaaDoor
open Go.RowKit Go.Wg Go.Mm
variable {w:World} {V:View}
set_option maxHeartbeats 1000000 in
theorem Find_ok {v:Value} {l:List Int} (hl:VI V v l) (hn:l.length≤100) (n:Int) (hV:V.In w) :
  Calls Tryd.prog 37 #[v,.int .i64 n] w fun e w'=>∃ x:Int,e=.returned (.int .i64 x)∧(0≤x↔n∈l)∧Kp w w':=by
 obtain ⟨la,lcap,rfl,hlc,hlm,hle⟩:=hl.is
 have hS:=St.start w V hV
 clear hl
 go_enter Tryd.func37,Tryd.ntmps37
 go_wp2_with (fail)
 go_loopw [5] (fun iv wr=>∃ i:Nat,i≤l.length∧iv=.int .i64 (i:Int)∧(∀ j,j < i→l.getD j 0≠n)∧St w [] V [] wr) (fun iv _=>l.length - (intOf iv).toNat)
 case atStart=>exact ⟨0,by omega,rfl,(fun j hj=>absurd hj (by omega)),hS⟩
 case round =>
  clear hS
  obtain ⟨i,hi,rfl,hno,hS⟩:=hrel
  have h0:(0:Int)≤i:=by omega
  by_cases hlt:i < l.length
  ·have hlt':(i:Int) < l.length:=by omega
   obtain ⟨lg,lo,rfl,hlr⟩:=hle (by omega)
   have hcell:=hlr i hlt 0 _ rfl
   simp only [Nat.mul_one,Nat.add_zero] at hcell
   have hmem:l.getD i 0∈l:=by
    rw [List.getD_eq_getElem?_getD,List.getElem?_eq_getElem hlt]
    exact List.getElem_mem hlt
   have hnx:l.getD i 0≠n→∀ j,j < i+1→l.getD j 0≠n:=fun h j hj=>by
    rcases Nat.lt_succ_iff_lt_or_eq.1 hj with hj | rfl
    ·exact hno j hj
    ·exact h
   generalize l.getD i 0=y at hcell hmem hnx
   clear hle hlr hno
   by_cases he:y=n
   ·subst he
    replace hmem:=mkHid hmem
    clear hnx
    go_wp2_with (((with_reducible refine gL ?_);refine qv1 hS rfl rfl rfl ?_);refine ⟨_,zd,?_⟩;clear hS;(try clear w');intro a' hp;(try simp only [fr] at hp);subst hp;intro w' hS;(try simp only [sE] at hS))
    ((try simp only [Exit.inBlock,Exit.then]);(try refine bodyPost_norm ?_);refine ret_by ⟨_,by exact results1 (r1:=.tmp 4) (by kernel_rfl) (by exact rs_tmp rfl),?_⟩ rfl)
    exact ⟨_,rfl,⟨fun _=>hmem.out,fun _=>by omega⟩,hS.toKp⟩
   ·have hnx':=hnx he
    replace hnx':=mkHid hnx'
    clear hnx hmem
    go_wp2_with (((with_reducible refine gL ?_);refine qv1 hS rfl rfl rfl ?_);refine ⟨_,zd,?_⟩;clear hS;(try clear w');intro a' hp;(try simp only [fr] at hp);subst hp;intro w' hS;(try simp only [sE] at hS))
    go_roundw
    case rel=>exact ⟨i+1,by omega,by go_num,hnx'.out,hS⟩
    case measure=>simp only [intOf];omega
  ·obtain rfl:i=l.length:=by omega
   have hnm:¬ n∈l:=fun h=>by
    obtain ⟨j,hj,hjn⟩:=List.getElem_of_mem h
    exact hno j hj (by rw [List.getD_eq_getElem?_getD,List.getElem?_eq_getElem hj];exact hjn)
   replace hnm:=mkHid hnm
   clear hno hle
   go_wp2_with (fail)
   ((try simp only [Exit.inBlock,Exit.then]);(try refine bodyPost_norm ?_);refine ret_by ⟨_,by exact results1 (r1:=.tmp 4) (by kernel_rfl) (by exact rs_tmp rfl),?_⟩ rfl)
   exact ⟨_,rfl,⟨fun h=>absurd h (by decide),fun h=>absurd h hnm.out⟩,hS.toKp⟩
theorem run_append_vo {P:Program} {w0:World} {X:List Nat} {L:List Ent} (hS:St w0 X V L w) {o:Oper} {ρ:Operand→Value} {sl x:Operand} {t e:TypeId} {size:Nat} (ho:o.op=.call { callee:=.builtin .append,args:=#[sl,x],argTypes:=#[t,t] })
  (ht:slB P t e size=true) {j n:Nat} {v:Value} {xs:List Value} (hj:L[j]? = some (.row v e size n xs)) (hv:ρ sl=v)
  {b off m c:Nat} {news:List Value} (hjb:V.Range b off news) (hx:ρ x=.slice (some ⟨b,off,none⟩) m c) (hm:news.length=m * size) (h1:∀ u∈news,u.oneCell'=true) (hn:n+m≤1000) :
  ∃ v' w',(execOp ρ o).run P w=.ok (.value v') w'∧St w0 X V (L.set j (.row v' e size (n+m) (xs ++ news))) w':=by
 have hcell:∀ i u,news[i]? = some u→w.cell? ⟨b,off+i,none⟩=some u:=fun i u hi=>(hjb i u hi).cell hS.view
 unfold slB at ht
 simp only [Bool.and_eq_true] at ht
 obtain ⟨⟨ht1,ht2⟩,ht3⟩:=ht
 have hu:P.underlying t=some (.slice e):=by
  cases hd:P.underlying t with
  | none=>rw [hd] at ht1;cases ht1
  | some d=>rw [hd] at ht1;cases d <;> simp_all
 cases hq:P.info? e with
 | none=>rw [hq] at ht2;cases ht2
 | some q =>
  rw [hq] at ht2
  simp only [Option.any_some,Bool.and_eq_true,beq_iff_eq,decide_eq_true_eq] at ht2
  obtain ⟨⟨hqs,hqz⟩,hqb⟩:=ht2
  cases hz:q.zero with
  | none=>rw [hz] at hqz;cases hqz
  | some z =>
   rw [hz] at hqz
   simp only [Option.any_some,Bool.and_eq_true,beq_iff_eq] at hqz
   obtain ⟨hqz,hqf⟩:=hqz
   have hsz:0 < size:=by simpa using ht3
   obtain ⟨v',w',hr,h2,h3,_,h5⟩:=run_append_own_at (P:=P) w 0 t o.type e q z size q.bytes hu hq hz hqs rfl hqz hsz v n xs (hS.atRow hj) ⟨b,off,none⟩ m c news hm
    (fun i u hi=>by rw [Addr.add_mid];exact hcell i u hi) h1 (by unfold maxLen;omega) (by
     have:(n+m) * q.bytes≤1000 * 1000:=Nat.mul_le_mul hn hqb
     omega) (Nat.zero_le _)
   refine ⟨v',w',?_,hS.grow hj h3 h2 (hqs ▸ append_pad (P:=P) hu hq hz hqf (hqs ▸ hS.atRow hj) (hqs ▸ hS.atPad hj) (a:=⟨b,off,none⟩) (hqs ▸ hm) (fun i u hi=>by rw [Addr.add_mid];exact hcell i u hi) h1 (by unfold maxLen;omega) (by
     have:(n+m) * q.bytes≤1000 * 1000:=Nat.mul_le_mul hn hqb
     omega) hr) h5⟩
   unfold execOp
   simp only [ho,resolve,invoke,builtin,Sem.run_bind,Sem.run_pure,Result.andThen_ok,List.map_toArray,List.map_cons,List.map_nil,hv,hx,hr]
theorem run_bs22_0 {o:Oper} {ρ:Operand→Value} (ho:o.op=.buildSlice 22 0 #[]) (w:World) :
  (execOp ρ o).run Tryd.prog w=.ok (.value (.slice (some ⟨w.heap.size,0,none⟩) 0 0)) (w.alloc (.cells (vesC []).toArray 29)):=by
 unfold execOp
 simp only [ho]
 kernel_rfl
theorem range_ves {l:List Ves} {g off:Nat} (h:∀ i,i < l.length→V.Range g (off+i * 4) (l.getD i default).cells):V.Range g off (vesC l):=fun j v hj=>by
 have hlen:j < l.length * 4:=by
  have:=(List.getElem?_eq_some_iff.1 hj).1
  rwa [vesC,flat4_len _ (fun _=>rfl)] at this
 have hi:j / 4 < l.length:=by omega
 have h1:=flat4 Ves.cells (fun _=>rfl) l (j / 4) (l.getD (j / 4) default) (by simp [List.getD_eq_getElem?_getD,List.getElem?_eq_getElem hi]) (j % 4) (by omega)
 rw [show j / 4 * 4+j % 4=j by omega] at h1
 have h2:=h (j / 4) hi (j % 4) v (by rw [← h1];exact hj)
 rwa [show off+j / 4 * 4+j % 4=off+j by omega] at h2
theorem hi_upd (l:List Ves) (pad:List Value) (q:Nat) (hq:q < l.length) (hi:Int):(vesC l ++ pad).set (q * 4+2+1) (.int .i64 hi)=vesC (l.set q ⟨(l.getD q default).from_,(l.getD q default).room,(l.getD q default).lo,hi⟩) ++ pad:=by
 induction l generalizing q with
 | nil=>simp at hq
 | cons v l ih =>
  cases q with
  | zero=>simp [vesC,Ves.cells]
  | succ q =>
   have h:=ih q (by simpa using hq)
   rw [show (q+1) * 4+2+1=q * 4+2+1+1+1+1+1 by omega]
   simp only [vesC,List.flatMap_cons,Ves.cells,List.cons_append,List.nil_append,List.set_cons_succ,List.getD_cons_succ] at h ⊢
   rw [h]
theorem hi_at (l:List Ves) (pad:List Value) (q:Nat) (hq:q < l.length):(vesC l ++ pad)[q * 4+2+1]? = some (.int .i64 (l.getD q default).hi):=by
 have:=flat4 Ves.cells (fun _=>rfl) l q (l.getD q default) (by simp [List.getD_eq_getElem?_getD,List.getElem?_eq_getElem hq]) 3 (by decide)
 rw [List.getElem?_append_left (by rw [vesC,flat4_len _ (fun _=>rfl)];omega)]
 exact this
theorem qapv {w0:World} {X:List Nat} {L:List Ent} {ops:Array Oper} {o:Oper} {rest:List Oper} {a:Act} {Q:Exit→Act→World→Prop} {g b off m c:Nat} {news:List Value} (hS:St w0 X V (.blk g 29 (vesC []) :: L) w) (hgd:Region.wanted o (yielded ops a.tmps)=true)
  {x y:Operand} (ho:o.op=.call { callee:=.builtin .append,args:=#[x,y],argTypes:=#[22,22] }) (hx:a.eval x=.slice (some ⟨g,0,none⟩) 0 0) (hy:a.eval y=.slice (some ⟨b,off,none⟩) m c) (hm:V.Range b off news) (hlm:news.length=m * 4) (h1:∀ u∈news,u.oneCell'=true) (hn:m≤1000)
  (h:∀ v a',a.put o.dst v=a'→∀ w',St w0 X V (.row v 29 4 m news :: L) w'→wpList Tryd.prog ops Q rest a' w'):wpList Tryd.prog ops Q (o :: rest) a w:=by
 have hS1:=st_row (n:=0) (s:=4) hS rfl (by decide)
 obtain ⟨v',w',hr,hS2⟩:=run_append_vo (P:=Tryd.prog) hS1 ho (by kernel_rfl) (j:=0) rfl hx hm hy hlm h1 (by omega)
 rw [List.set_cons_zero,Nat.zero_add,show vesC [] ++ news=news from rfl] at hS2
 exact wpl_value hgd hr (h v' _ rfl w' hS2)
set_option maxRecDepth 20000 in
set_option maxHeartbeats 4000000 in
theorem More_ok {vv rv:Value} {k:Wk} (hk:WkIn V vv rv k) {v b:Nat} (hv:v < k.n) (h6:k.n≤6) (hb:0≤(k.v v).hi∧(k.v v).hi+b≤20) (hV:V.In w) :
  Calls Tryd.prog 56 #[.agg #[vv,rv],.int .i64 (v:Int),.int .i64 (b:Int)] w fun e w'=>∃ vv',e=.returned (.agg #[vv',rv])∧St w [] V [.row vv' 29 4 k.n (vesC (k.more v b).ves)] w':=by
 obtain ⟨va,vcap,rfl,hvc,hvm,hve⟩:=hk.ves.is
 obtain ⟨ra,rcap,rfl,hrc,hrm,hre⟩:=hk.rdg.is
 obtain ⟨vg,vo,rfl,hvr⟩:=hve (by omega)
 have hrng:V.Range vg vo (vesC k.ves):=range_ves hvr
 have hnl:(vesC k.ves).length=k.n * 4:=by rw [vesC,flat4_len _ (fun _=>rfl)];rfl
 have hS:=St.start w V hV
 have hvi:(v:Int) < k.n:=by omega
 have h0v:(0:Int)≤v:=by omega
 clear hk hve hre hvr
 go_enter Tryd.func56,Tryd.ntmps56
 go_wp2_with (first | (first | ((first | ((with_reducible refine gL ?_);refine ql1 hS rfl rfl rfl ?_) | ((with_reducible refine gS ?_);refine qs1 hS rfl rfl rfl ?_));refine ⟨_,zd,?_⟩;clear hS;(try clear w');intro a' hp;(try simp only [fr] at hp);subst hp;intro w' hS;(try simp only [sE] at hS)) | ((with_reducible refine gB ?_);refine qboxd 3 rfl hS rfl rfl rfl ?_;refine ⟨_,za,?_⟩;clear hS;(try clear w');intro b3;intro a' hp;(try simp only [fr] at hp);subst hp;intro w' hS) | (((with_reducible refine gA ?_);refine qalloc hS rfl rfl ?_);clear hS;(try clear w');intro _;intro a' hp;(try simp only [fr] at hp);subst hp;intro w' hS)) | ((with_reducible refine gSl ?_);refine qraw hS rfl (run_bs22_0 rfl) ?_;clear hS;(try clear w');intro b7 a' hp;(try simp only [fr] at hp);subst hp;intro w' hS) |
  ((with_reducible refine gAp ?_);refine qapv hS rfl rfl rfl rfl hrng hnl (vesC_one _) (by omega) ?_;clear hS;(try clear w');intro va a' hp;(try simp only [fr] at hp);subst hp;intro w' hS;have hva:=rowOne hS va))
 obtain ⟨gv,cap,pad,rfl,q1,q2,q3,q4,q5,hS2⟩:=row_blk hS (by omega)
 replace hS:=hS2
 clear hS2
 have hql:v < k.ves.length:=hv
 have hcell:=hi_at k.ves pad v hql
 have hlv2:(vesC k.ves).length+pad.length ≥ k.n * 4:=by rw [hnl];omega
 have hpl:k.n * 4+pad.length=cap * 4:=by rw [List.length_append,q3] at q4;exact q4
 have hup:=hi_upd k.ves pad v hql
 have hkv:k.ves.getD v default=k.v v:=rfl
 rw [hkv] at hcell hup
 generalize hhi:(k.v v).hi=h0 at hcell hb
 clear q3 q4 hrng hnl
 replace hup:=mkHid hup;replace hhi:=mkHid hhi
 (refine held_start (S:=(St w [] V [.blk b3 25 [.slice (some ⟨gv,0,none⟩) k.n cap,.slice ra k.rdg.length rcap]])) [false,false,false,false,false,false,false,false,false,false,false,false,false,false,false,false] rfl (by kernel_rfl) ?_;replace hS:=St.drew1 hS;(iterate 10 ((first | refine hxp 0 rfl ?_ | refine hxa 1 rfl ?_ | refine hxm 2 rfl ?_ | refine hxp 3 rfl ?_ | refine hxa 4 rfl ?_ | refine hxm 5 rfl ?_ | refine hxp 6 rfl ?_ | refine hxp 7 rfl ?_ | refine hxp 8 rfl ?_ | refine hxm 10 rfl ?_);intro a' l' hp hl;(try simp only [fr] at hp);(try simp only [sB] at hl);subst hp;subst hl));(refine he_l1 9 (by kernel_rfl) rfl hS rfl rfl rfl ?_;refine ⟨_,zd,?_⟩;clear hS;(try clear w');intro a' l' hp hl;(try simp only [fr] at hp);(try simp only [sB] at hl);subst hp;subst hl;intro w' hS;refine ⟨(St.subI hS),?_⟩);(iterate 4 ((first | refine hxp 11 rfl ?_ | refine hxp 12 rfl ?_ | refine hxp 13 rfl ?_ | refine hxp 14 rfl ?_);intro a' l' hp hl;(try simp only [fr] at hp);(try simp only [sB] at hl);subst hp;subst hl));((refine he_s1 15 (by kernel_rfl) rfl hS rfl  rfl rfl ?_;refine ⟨_,zd,?_⟩);clear hS;(try clear w');intro a' l' hp hl;(try simp only [fr] at hp);(try simp only [sB] at hl);subst hp;subst hl;intro w' hS;(try simp only [sE] at hS);refine ⟨(St.subI hS),?_⟩);refine wpAnyH_done (by kernel_rfl) ?_ _)
 rw [hup.out] at hS
 have hone3:∀ v∈[Value.slice (some ⟨gv,0,none⟩) k.n cap,Value.slice ra k.rdg.length rcap],v.oneCell'=true:=two_one rfl rfl
 go_wp2_with ((first | ((with_reducible refine gL ?_);refine qln hS rfl rfl rfl ?_) | ((with_reducible refine gS ?_);refine qsall hS rfl rfl rfl ?_));refine ⟨_,zd,?_⟩;clear hS;(try clear w');intro a' hp;(try simp only [fr] at hp);subst hp;intro w' hS;(try simp only [sE] at hS))
 ((try simp only [Exit.inBlock,Exit.then]);(try refine bodyPost_norm ?_);refine ret_by ⟨_,by exact results1 (r1:=.cell 6 25) (by kernel_rfl) (by exact rs_n hS rfl zd),?_⟩ rfl)
 refine ⟨_,rfl,?_⟩
 have h1:St w [] V [.blk gv 29 (vesC (k.ves.set v ⟨(k.v v).from_,(k.v v).room,(k.v v).lo,h0+b⟩) ++ pad)] _:=hS.subI
 have el:(vesC (k.ves.set v ⟨(k.v v).from_,(k.v v).room,(k.v v).lo,h0+b⟩)).length=k.n * 4:=by rw [vesC,flat4_len _ (fun _=>rfl),List.length_set];rfl
 have h2:=blk_row (n:=k.n) (s:=4) (cap:=cap) h1 q1 q2 el (by rw [List.length_append,el];exact hpl) q5
 rw [← hhi.out] at h2
 exact h2
end Go.Proofs.YtjjmefieegcddaaDoor
namespace Go.Proofs.YtjjmefieegcddaaDoor
open Go.RowKit Go.Wg Go.Mm Go.Wk
open Go Go.Sr Go.Ph Go.Tm Go.Conc
variable {w:World} {V:View}
end Go.Proofs.YtjjmefieegcddaaDoor
namespace Go.Proofs.YtjjmefieegcddaaDoor
open Go.RowKit Go.Wg Go.Mm Go.Wk
open Go Go.Sr Go.Ph Go.Tm Go.Conc
variable {w:World} {V:View}
def MapS (w:World) (b n:Nat) (l:List Nat):Prop :=
 ∃ D:DataW Nat,Go.Maps.IsMap D∧w.ownsMap Tryd.prog 95 (plainElem Tryd.prog 4) b n D∧∀ m:Nat,m < 18446744073709551616→D.atKey (.int .u64 (m:Int)) (.lit (.bool false))=.lit (.bool (l.contains m))
theorem u64_wf {m:Nat} (h:m < 18446744073709551616):(Lit.int .u64 (m:Int)).wf=true:=by
 simp [Lit.wf,IntKind.min,IntKind.max,IntKind.bits,IntKind.signed]
 omega
theorem key95 {m:Nat} (h:m < 18446744073709551616):keyOf Tryd.prog 95 (.int .u64 (m:Int))=some (.int .u64 (m:Int)):=Go.Maps.keyOf_int_mk Tryd.underlying95 (u64_wf h)
theorem MapS.made (w:World):MapS (w.alloc (.map #[] 0)) w.heap.size 0 [] :=
 ⟨.map [],Go.Maps.isMap_empty,World.ownsMap_made w _ _ _,fun m _=>rfl⟩
theorem MapS.of_heap {w w':World} {b n:Nat} {l:List Nat} (h:MapS w b n l) (hb:w'.heap[b]? = w.heap[b]?):MapS w' b n l:=by
 obtain ⟨D,h1,⟨es,clock,h2,h3,h4,h5⟩,h6⟩:=h
 exact ⟨D,h1,⟨es,clock,hb.trans h2,h3,h4,h5⟩,h6⟩
theorem MapS.lt {b n:Nat} {l:List Nat} (h:MapS w b n l):b < w.heap.size:=by
 obtain ⟨D,_,h,_⟩:=h
 exact h.lt
theorem MapS.obj {b n:Nat} {l:List Nat} (h:MapS w b n l):∃ es clock,w.heap[b]? = some (.map es clock):=by
 obtain ⟨D,_,⟨es,clock,h,_⟩,_⟩:=h
 exact ⟨es,clock,h⟩
theorem zero4 (w:World):(zeroValue 4).run Tryd.prog w=.ok (.bool false) w:=by
 have hi:(Tryd.prog.info? 4).bind (·.zero)=some (.bool false):=by kernel_rfl
 cases hq:Tryd.prog.info? 4 with
 | none=>rw [hq] at hi;cases hi
 | some i =>
  rw [hq] at hi
  have hz:i.zero=some (.bool false):=by simpa using hi
  simp [Go.zeroValue,Go.typeInfo,hq,hz]
theorem bool_inv {P:Program} {e:TypeId} (he:P.underlying e=some .bool) {v:Value} {x:Bool} {ps:List MemPlace} (h:plainElem (H:=Nat) P e v=some (.lit (.bool x),ps)):v=.bool x:=by
 unfold plainElem at h
 rw [he] at h
 cases v <;> simp at h
 rw [h.1]
theorem MapS.look {b n:Nat} {l:List Nat} (h:MapS w b n l) {m:Nat} (hm:m < 18446744073709551616):(Instr.lookup 134 (.map (some b)) (.int .u64 (m:Int)) false).run Tryd.prog w=.ok (.bool (l.contains m)) w:=by
 obtain ⟨D,h1,h2,h3⟩:=h
 obtain ⟨v,ps,hr,hv⟩:=h2.lookup (Go.Maps.int_keyed Tryd.underlying95) Tryd.underlying134 (zero4 w) (plainElem_bool Tryd.underlying4 false) (key95 hm)
 rw [h3 m hm] at hv
 have e:v=.bool (l.contains m):=bool_inv Tryd.underlying4 hv
 subst e
 exact hr
theorem MapS.put {b n:Nat} {l:List Nat} (h:MapS w b n l) {m:Nat} (hm:m < 18446744073709551616) (hn:n < 1000000):∃ w',(Instr.mapUpdate 134 (.map (some b)) (.int .u64 (m:Int)) (.bool true)).run Tryd.prog w=.ok () w'∧MapS w' b (n+1) (m :: l)∧w.grownBy w' (some b):=by
 obtain ⟨D,h1,h2,h3⟩:=h
 obtain ⟨w',hr,ho,hg⟩:=h2.update (Go.Maps.int_keyed Tryd.underlying95) Tryd.underlying134 (Nat.lt_trans hn (by decide)) (key95 hm) (plainElem_bool Tryd.underlying4 true)
 refine ⟨w',hr,⟨D.put (.int .u64 (m:Int)) (.lit (.bool true)),?_,ho,fun m' hm'=>?_⟩,hg⟩
 ·obtain ⟨es,rfl⟩:=h1
  exact ⟨_,rfl⟩
 ·by_cases e:m'=m
  ·subst e
   rw [Go.Maps.atKey_put_same h1 (by simp [Go.WideAt.IsKeyLit])]
   simp
  ·rw [Go.Maps.atKey_put_other (by
    intro h
    simp only [Lit.int.injEq,true_and] at h
    exact e (by omega)),h3 m' hm']
   simp [e]
theorem run_makeMap134 {o:Oper} {ρ:Operand→Value} (ho:o.op=.makeMap 134 none) (w:World):(execOp ρ o).run Tryd.prog w=.ok (.value (.map (some w.heap.size))) (w.alloc (.map #[] 0)):=by
 unfold execOp
 simp [ho,Instr.makeMap,Tryd.underlying134]
set_option maxRecDepth 20000 in
theorem size_ok' (a:Int × Int) (h:Pb 100000000000 a) (w:World) :
  Calls Tryd.prog 98 #[spanV a] w fun r w'=>r=.returned (.int .i64 (sizeS a))∧Kp w w':=by
 unfold Pb at h
 unfold sizeS
 obtain ⟨a1,a2⟩:=a
 simp only at h
 obtain ⟨h1,h2,h3,h4⟩:=h
 have hS:=St.start w (fun _=>none) (fun k o h=>by cases h)
 unfold spanV
 go_enter Tryd.func98,Tryd.ntmps98
 go_wp2_with (first | (((with_reducible refine gL ?_);refine ql1 hS rfl rfl rfl ?_);refine ⟨_,zd,?_⟩;clear hS;(try clear w');intro a' hp;(try simp only [fr] at hp);subst hp;intro w' hS;(try simp only [sE] at hS)) | (((with_reducible refine gB ?_);refine qbox hS rfl rfl rfl ?_;refine ⟨_,za,?_⟩);clear hS;(try clear w');intro _;intro a' hp;(try simp only [fr] at hp);subst hp;intro w' hS))
 go_ret
 exact ⟨rfl,hS.toKp⟩
theorem totalS_bd (k:Wk) (hk:k.n≤6) (s:SS) (st:Bool) (hlo:∀ i,0≤(s.losAt i).1):Pb 70589400 (totalS k s st):=by
 rw [totalS_sum]
 have h:=sumS_bd (l:=k.sources.map (foundS k s st)) (c:=11764900) (fun x hx=>by
  obtain ⟨i,_,rfl⟩:=List.mem_map.1 hx
  exact foundS_bd k hk s st hlo i)
 refine h.mono ?_
 have:=Nat.le_trans (srcTo_len k k.n) hk
 rw [List.length_map]
 have e:k.sources.length≤6:=this
 omega
end Go.Proofs.YtjjmefieegcddaaDoor
namespace Go.Proofs.YtjjmefieegcddaaDoor
open Go.RowKit Go.Wg Go.Mm Go.Wk
open Go Go.Sr Go.Ph Go.Tm Go.Conc
variable {w:World} {V:View} {DS:List Deferred}
noncomputable def B43:Code:=match Tryd.f43.body with | some c=>c | none=>.skip
noncomputable def N5:Code:=match B43 with | .seq _ (.seq _ (.seq _ (.seq _ r)))=>r | _=>.skip
noncomputable def N8:Code:=match N5 with | .seq _ (.seq _ r)=>r | _=>.skip
noncomputable def ops8:Array Oper:=match N8 with | .seq (.region _ o _) _=>o | _=>#[]
noncomputable def N9:Code:=match N8 with | .seq _ r=>r | _=>.skip
noncomputable def NL1:Code:=match N9 with | .seq (.seq _ (.block _ (.loop l))) _=>l | _=>.skip
noncomputable def NK:Code:=match N9 with | .seq _ r=>r | _=>.skip
noncomputable def NB1:Code:=match NL1 with | .seq _ (.seq _ (.seq (.block _ b) _))=>b | _=>.skip
noncomputable def NR25:Code:=match NL1 with | .seq _ (.seq _ (.seq _ r))=>r | _=>.skip
noncomputable def N15:Code:=match NB1 with | .seq _ (.seq _ (.seq _ (.seq _ r)))=>r | _=>.skip
noncomputable def NL2:Code:=match N15 with | .seq (.seq _ (.block _ (.loop l))) _=>l | _=>.skip
noncomputable def NQ:Code:=match N15 with | .seq _ r=>r | _=>.skip
noncomputable def NR17:Code:=match NL2 with | .seq _ (.seq _ r)=>r | _=>.skip
noncomputable def ops22:Array Oper:=match NL2 with | .seq _ (.seq (.block _ (.seq _ (.seq _ (.seq _ (.seq _ (.region _ o _)))))) _)=>o | _=>#[]
noncomputable def nat8 (l:List Nat):List Item:=[.inRegion ops8 l,.code N9]
noncomputable def nhead1:List Item:=[.code NL1,.inLoop NL1,.inBlock 0,.code NK]
noncomputable def ntail:List Item:=[.inBlock 2,.code NQ,.inBlock 1,.code NR25,.inLoop NL1,.inBlock 0,.code NK]
noncomputable def nhead2:List Item:=.code NL2 :: .inLoop NL2 :: ntail
noncomputable def nat22 (l:List Nat):List Item:=.inRegion ops22 l :: .inBlock 3 :: .code NR17 :: .inLoop NL2 :: ntail
def tmN (v1 v6 v7 v8 v9 v10 v11 v12 v13 v14 v15 v37 v38:Value) (f:Nat→Value):Array Value :=
 #[f 0,v1,f 2,f 3,f 4,f 5,v6,v7,v8,v9,v10,v11,v12,v13,v14,v15,f 16,f 17,f 18,f 19,f 20,f 21,f 22,f 23,f 24,f 25,f 26,f 27,f 28,f 29,f 30,f 31,f 32,f 33,f 34,f 35,f 36,v37,v38,f 39,f 40,f 41,f 42,f 43,f 44,f 45,f 46,f 47,f 48,f 49,f 50,f 51,f 52,f 53,f 54,f 55,f 56,f 57,f 58,f 59,f 60,f 61,f 62,f 63,f 64,f 65,f 66,f 67,f 68,f 69,f 70,f 71,f 72,f 73,f 74,f 75,f 76,f 77,f 78,f 79,f 80,f 81,f 82,f 83,f 84,f 85,f 86,f 87,f 88,f 89,f 90,f 91,f 92,f 93,f 94,f 95,f 96,f 97,f 98,f 99,f 100,f 101,f 102,f 103,f 104,f 105]
theorem tmN_of {a:Act} {v1 v6 v7 v8 v9 v10 v11 v12 v13 v14 v15 v37 v38:Value} {ds:List Deferred} (h:a=⟨tmN v1 v6 v7 v8 v9 v10 v11 v12 v13 v14 v15 v37 v38 (fun j=>a.tmps.getD j undef),ds⟩):∃ f,a=⟨tmN v1 v6 v7 v8 v9 v10 v11 v12 v13 v14 v15 v37 v38 f,ds⟩:=⟨_,h⟩
structure NX (V:View) (p:Nat) (k:Wk) (D:List Nat) (b8:Nat) (s:SS):Prop where
 cel:Cellar V p k
 gv:GV V
 cl:Closed V D
 pD:p∈D
 s8:V.Range b8 0 (stC s)
set_option maxRecDepth 20000 in
set_option maxHeartbeats 4000000 in
theorem next_start (vv rv:Value) (k:Wk) (hk:WkIn V vv rv k) (hG:GV V) (hV:V.In w) (err:Int) (hb:beginE k []=0) (ho:outB err 0 9=false) (hst:Go.Wg.settle k (nowS k noneB)=none) :
  Rch Tryd.prog (nat8 [2,3,4,5]) (fun a w'=>∃ p V' D b6 b8,((∃ f,a=⟨tmN (.int .i64 err) (ptr b6) (ptr p) (ptr b8) undef undef undef undef undef undef undef undef undef f,[dC b6]⟩)∧a.tmps[29]? = some (ptr p)∧a.tmps[30]? = some (.agg (stC (nowS k noneB)).toArray)) ∧
    NX V' p k D b8 (nowS k noneB)∧St w [] V' [.blk b6 38 [.int .i64 0]] w')
   [.code B43] { tmps:=#[.agg #[vv,rv],.int .i64 err] ++ Array.replicate 104 undef,defers:=[] } w:=by
 have hk0:=hk
 obtain ⟨va,vcap,rfl,hvc,hvm,hve⟩:=hk0.ves.is
 obtain ⟨ra,rcap,rfl,hrc,hrm,hre⟩:=hk0.rdg.is
 have hS:=St.start w V hV
 clear hk0 hve hre
 have hok:=beginE_check hb
 have hcan:can k (nowS k noneB)=true:=by unfold can;rw [hst];rfl
 have HL:(stC (nowS k noneB)).length=18:=stC_len (nowS_wf _ _)
 replace hst:=mkHid hst;replace hcan:=mkHid hcan;replace hb:=mkHid hb
 simp only [Array.replicate_succ,Array.replicate_zero,List.push_toArray,List.append_toArray,List.nil_append,List.cons_append]
 unfold ptr
 refine rch_seq (rch_code ?_)
 go_wp2_with (first | ((with_reducible refine gA ?_);refine qallocd 6 rfl hS rfl rfl ?_;clear hS;(try clear w');intro b6;intro a' hp;(try simp only [fr] at hp);subst hp;intro w' hS) | (((with_reducible refine gB ?_);refine qbox hS rfl rfl rfl ?_;refine ⟨_,za,?_⟩);clear hS;(try clear w');intro _;intro a' hp;(try simp only [fr] at hp);subst hp;intro w' hS))
 refine rch_seq (rch_code ?_)
 go_wp2_with (fail)
 refine rch_seq (rch_code ?_)
 go_wp2_with (first | ((first | ((with_reducible refine gL ?_);refine qln hS rfl rfl rfl ?_) | ((with_reducible refine gS ?_);refine qs1 hS rfl rfl rfl ?_));refine ⟨_,zd,?_⟩;clear hS;(try clear w');intro a' hp;(try simp only [fr] at hp);subst hp;intro w' hS;(try simp only [sE] at hS)) | (go_at_call 77;refine calls_beginD hS hk nilSl (by simp) hb.out ?_;clear hS;(try clear w');intro p V' w' D hVV hcel hD hpD hS;have hG':GV V':=hG.mono hVV))
 refine rch_seq (rch_seq (rch_code ?_))
 go_wp2_with (((with_reducible refine gL ?_);refine ql1 hS rfl rfl rfl ?_);refine ⟨_,zd,?_⟩;clear hS;(try clear w');intro a' hp;(try simp only [fr] at hp);subst hp;intro w' hS;(try simp only [sE] at hS))
 refine rch_cond (t:=false) rfl (rch_skip ?_)
 refine rch_seq (rch_seq (rch_code ?_))
 go_wp2_with (go_at_call 88;refine calls_by hS ⟨_,outside_ok' _ _ _ _,?_⟩;rw [ho];clear hS;(try clear w');intro w' hS)
 refine rch_cond (t:=false) rfl (rch_skip ?_)
 refine rch_seq (rch_code ?_)
 go_wp2_with (first | (first | (((with_reducible refine gS ?_);refine qsall hS rfl rfl rfl ?_);refine ⟨_,zd,?_⟩;clear hS;(try clear w');intro a' hp;(try simp only [fr] at hp);subst hp;intro w' hS;(try simp only [sE] at hS)) | ((with_reducible refine gA ?_);refine qallocd 8 rfl hS rfl rfl ?_;clear hS;(try clear w');intro b8;intro a' hp;(try simp only [fr] at hp);subst hp;intro w' hS)) | (go_at_call 83;refine calls_by hS ⟨_,must_ok V' p k hcel hok hcan.out _ (St.view hS),?_⟩;clear hS;(try clear w');intro w' hS))
 obtain ⟨V1,hV1,hcell,hS'⟩:=pin hS
 clear hS
 have hS:=hS'
 clear hS'
 have hr8:V1.Range b8 0 (stC (nowS k noneB)):=fun j v hj=>by rw [Nat.zero_add];exact hcell j v hj
 refine rch_seq (rch_region ?_)
 refine rch_op (i:=0) (v:=.pointer (some ⟨p,0,none⟩)) (w':=w') rfl rfl rfl ?_
 refine rch_op (i:=1) rfl rfl (run_loadn (n:=18) rfl rfl RowT.ok HL (hr8.range hS.view)) ?_
 exact rch_here (tgt:=nat8 [2,3,4,5]) ⟨p,V1,D,b6,b8,⟨tmN_of rfl,rfl,rfl⟩,⟨by obtain ⟨ts,x,y,hc⟩:=hcel;exact ⟨ts,x,y,hc.mono hV1⟩,hG'.mono hV1,closed_mono hD hV1,hpD,hr8⟩,hS.sub (List.Sublist.cons_cons _ (List.Sublist.cons _ (List.Sublist.refl _)))⟩
set_option maxRecDepth 20000 in
set_option maxHeartbeats 4000000 in
theorem next1 {p:Nat} {k:Wk} {D:List Nat} {b8:Nat} {s:SS} (hX:NX V p k D b8 s) (v1 v6 v8 v9 v10 v11 v12 v13 v14 v15 v37 v38:Value) (f:Nat→Value) (r:Int × Int) (hr:Pb 100000000000 r) (h31:f 31=spanV r) (hV:V.In w) :
  Rch Tryd.prog nhead1 (fun a w'=>(∃ f,a=⟨tmN v1 v6 (ptr p) v8 (.int .i64 (-1)) (.int .i64 (sizeS r)) v11 v12 v13 v14 v15 (.int .i64 k.n) (.int .i64 0) f,DS⟩)∧Kp w w')
   (nat8 [3,4,5]) ⟨tmN v1 v6 (ptr p) v8 v9 v10 v11 v12 v13 v14 v15 v37 v38 f,DS⟩ w:=by
 obtain ⟨ts,vv,rv,hC⟩:=hX.cel
 obtain ⟨g,cap,hc2,hts⟩:=hC.c2
 have hn0:=hC.pos
 have hn6:=hC.le
 have hS:=St.start w V hV
 rw [show tmN v1 v6 (ptr p) v8 v9 v10 v11 v12 v13 v14 v15 v37 v38 f=#[f 0,v1,f 2,f 3,f 4,f 5,v6,.pointer (some ⟨p,0,none⟩),v8,v9,v10,v11,v12,v13,v14,v15,f 16,f 17,f 18,f 19,f 20,f 21,f 22,f 23,f 24,f 25,f 26,f 27,f 28,f 29,f 30,spanV r,f 32,f 33,f 34,f 35,f 36,v37,v38,f 39,f 40,f 41,f 42,f 43,f 44,f 45,f 46,f 47,f 48,f 49,f 50,f 51,f 52,f 53,f 54,f 55,f 56,f 57,f 58,f 59,f 60,f 61,f 62,f 63,f 64,f 65,f 66,f 67,f 68,f 69,f 70,f 71,f 72,f 73,f 74,f 75,f 76,f 77,f 78,f 79,f 80,f 81,f 82,f 83,f 84,f 85,f 86,f 87,f 88,f 89,f 90,f 91,f 92,f 93,f 94,f 95,f 96,f 97,f 98,f 99,f 100,f 101,f 102,f 103,f 104,f 105] from by unfold tmN ptr;rw [h31]]
 refine rch_call (i:=3) rfl rfl (run_call_body rfl Tryd.func98 (by kernel_rfl) rfl) ?_
 simp only [List.map_toArray,List.map_cons,List.map_nil]
 show Calls Tryd.prog 98 #[spanV r] w _
 refine (size_ok' r hr w).mono ?_
 rintro e w2 ⟨rfl,hkp⟩
 refine ⟨_,rfl,?_⟩
 replace hS:=hS.kp hkp
 refine rch_op (i:=4) (v:=.int .i64 (-1)) (w':=w2) rfl rfl rfl ?_
 refine rch_op (i:=5) (v:=.int .i64 (sizeS r)) (w':=w2) rfl rfl rfl ?_
 refine rch_region_end ?_
 show Rch Tryd.prog nhead1 _ _ ⟨#[f 0,v1,f 2,f 3,f 4,f 5,v6,.pointer (some ⟨p,0,none⟩),v8,.int .i64 (-1),.int .i64 (sizeS r),v11,v12,v13,v14,v15,f 16,f 17,f 18,f 19,f 20,f 21,f 22,f 23,f 24,f 25,f 26,f 27,f 28,f 29,f 30,spanV r,.int .i64 (sizeS r),f 33,f 34,f 35,f 36,v37,v38,f 39,f 40,f 41,f 42,f 43,f 44,f 45,f 46,f 47,f 48,f 49,f 50,f 51,f 52,f 53,f 54,f 55,f 56,f 57,f 58,f 59,f 60,f 61,f 62,f 63,f 64,f 65,f 66,f 67,f 68,f 69,f 70,f 71,f 72,f 73,f 74,f 75,f 76,f 77,f 78,f 79,f 80,f 81,f 82,f 83,f 84,f 85,f 86,f 87,f 88,f 89,f 90,f 91,f 92,f 93,f 94,f 95,f 96,f 97,f 98,f 99,f 100,f 101,f 102,f 103,f 104,f 105],DS⟩ w2
 generalize sizeS r=sz
 generalize spanV r=sv
 refine rch_seq (rch_seq (rch_code ?_))
 go_wp2_with (((with_reducible refine gL ?_);refine qv1 hS rfl rfl rfl ?_);refine ⟨_,zd,?_⟩;clear hS;(try clear w');intro a' hp;(try simp only [fr] at hp);subst hp;intro w' hS;(try simp only [sE] at hS))
 refine rch_block (rch_loop ?_)
 exact rch_here (tgt:=nhead1) ⟨tmN_of rfl,hS.toKp⟩
end Go.Proofs.YtjjmefieegcddaaDoor
namespace Go.Proofs.YtjjmefieegcddaaDoor
open Go.RowKit Go.Wg Go.Mm Go.Wk
open Go Go.Sr Go.Ph Go.Tm Go.Conc
variable {w:World} {V:View} {DS:List Deferred}
set_option maxRecDepth 20000 in
set_option maxHeartbeats 4000000 in
theorem next2 {p:Nat} {k:Wk} {D:List Nat} {b8:Nat} {s:SS} (hX:NX V p k D b8 s) (hs:s.WF) (err:Int) (he0:0≤err) (he9:err≤9) (i:Nat) (hi:i < k.n) (v6 v9 v10 v11 v12 v13 v14 v15:Value) (f:Nat→Value) (hV:V.In w) :
  Rch Tryd.prog nhead2 (fun a w'=>∃ mb b14,(∃ f,a=⟨tmN (.int .i64 err) v6 (ptr p) (ptr b8) v9 v10 (.int .i64 i) (.int .i64 0) (.map (some mb)) (ptr b14) (.int .i64 ((weightS k s i).1 - err)) (.int .i64 k.n) (.int .i64 i) f,DS⟩) ∧
    Kp w w'∧MapS w' mb 0 []∧w.heap.size≤mb∧w.heap.size≤b14∧w'.heap[b14]? = some (.cells #[.int .i64 (weightS k s i).1,.int .i64 (weightS k s i).2] 27 (0,0)))
   nhead1 ⟨tmN (.int .i64 err) v6 (ptr p) (ptr b8) v9 v10 v11 v12 v13 v14 v15 (.int .i64 k.n) (.int .i64 i) f,DS⟩ w:=by
 have hn6:k.n≤6:=by obtain ⟨ts,x,y,hc⟩:=hX.cel;exact hc.le
 have HL:(stC s).length=18:=stC_len hs
 have h0:(0:Int)≤i:=by omega
 have h1:(i:Int) < k.n:=by omega
 have h6:i < 6:=by omega
 have hr8:=hX.s8
 have hwb:=weightTo_bd k s i 41 (Nat.le_refl _)
 have hwk:=fun (w1:World) (hV1:V.In w1)=>weight_ok V p k hX.cel hX.gv s hs i h6 w1 hV1
 rw [show weightTo k s i 41=weightS k s i from rfl] at hwb
 generalize weightS k s i=r at hwb hwk ⊢
 have hS:=St.start w V hV
 rw [show tmN (.int .i64 err) v6 (ptr p) (ptr b8) v9 v10 v11 v12 v13 v14 v15 (.int .i64 k.n) (.int .i64 i) f=#[f 0,.int .i64 err,f 2,f 3,f 4,f 5,v6,.pointer (some ⟨p,0,none⟩),.pointer (some ⟨b8,0,none⟩),v9,v10,v11,v12,v13,v14,v15,f 16,f 17,f 18,f 19,f 20,f 21,f 22,f 23,f 24,f 25,f 26,f 27,f 28,f 29,f 30,f 31,f 32,f 33,f 34,f 35,f 36,.int .i64 k.n,.int .i64 i,f 39,f 40,f 41,f 42,f 43,f 44,f 45,f 46,f 47,f 48,f 49,f 50,f 51,f 52,f 53,f 54,f 55,f 56,f 57,f 58,f 59,f 60,f 61,f 62,f 63,f 64,f 65,f 66,f 67,f 68,f 69,f 70,f 71,f 72,f 73,f 74,f 75,f 76,f 77,f 78,f 79,f 80,f 81,f 82,f 83,f 84,f 85,f 86,f 87,f 88,f 89,f 90,f 91,f 92,f 93,f 94,f 95,f 96,f 97,f 98,f 99,f 100,f 101,f 102,f 103,f 104,f 105] from by unfold tmN ptr;rfl]
 refine rch_seq (rch_code ?_)
 go_wp2_with (fail)
 refine rch_seq (rch_cond (t:=true) rfl (rch_skip ?_))
 refine rch_seq (rch_block (rch_seq (rch_code ?_)))
 go_wp2_with (fail)
 refine rch_seq (rch_code ?_)
 go_wp2_with (fail)
 refine rch_seq (rch_region ?_)
 refine rch_op (i:=0) rfl rfl (run_makeMap134 rfl w) ?_
 refine rch_op (i:=1) (v:=.map (some w.heap.size)) rfl rfl rfl (rch_region_end ?_)
 have hk1:Kp w (w.alloc (.map #[] 0)):=⟨rfl,rfl,by show _≤(w.heap.push _).size;simp,fun k hk=>heap_alloc_old w _ hk⟩
 have hm1:=MapS.made w
 have hlm:w.heap.size≤w.heap.size:=Nat.le_refl _
 have hin:=(hS.kp hk1).view
 clear hS
 generalize w.alloc (.map #[] 0)=w1 at *
 obtain ⟨mb,hmb⟩:∃ mb,w.heap.size=mb:=⟨_,rfl⟩
 rw [hmb] at hm1
 have hlm:w.heap.size≤mb:=by omega
 rw [hmb]
 have hS:=St.start w1 V hin
 show Rch Tryd.prog nhead2 _ _ ⟨#[f 0,.int .i64 err,f 2,f 3,f 4,f 5,v6,.pointer (some ⟨p,0,none⟩),.pointer (some ⟨b8,0,none⟩),v9,v10,.int .i64 i,.int .i64 0,.map (some mb),v14,v15,f 16,f 17,f 18,f 19,f 20,f 21,f 22,f 23,f 24,f 25,f 26,f 27,f 28,f 29,f 30,f 31,f 32,f 33,f 34,f 35,f 36,.int .i64 k.n,.int .i64 i,.bool true,.int .i64 i,.map (some mb),f 42,f 43,f 44,f 45,f 46,f 47,f 48,f 49,f 50,f 51,f 52,f 53,f 54,f 55,f 56,f 57,f 58,f 59,f 60,f 61,f 62,f 63,f 64,f 65,f 66,f 67,f 68,f 69,f 70,f 71,f 72,f 73,f 74,f 75,f 76,f 77,f 78,f 79,f 80,f 81,f 82,f 83,f 84,f 85,f 86,f 87,f 88,f 89,f 90,f 91,f 92,f 93,f 94,f 95,f 96,f 97,f 98,f 99,f 100,f 101,f 102,f 103,f 104,f 105],DS⟩ w1
 refine rch_seq (rch_code ?_)
 go_wp2_with (first | (first | ((first | ((with_reducible refine gL ?_);refine qvn hS rfl rfl rfl ?_) | ((with_reducible refine gS ?_);refine qsall hS rfl rfl rfl ?_));refine ⟨_,zd,?_⟩;clear hS;(try clear w');intro a' hp;(try simp only [fr] at hp);subst hp;intro w' hS;(try simp only [sE] at hS)) | ((with_reducible refine gA ?_);refine qallocd 14 rfl hS rfl rfl ?_;clear hS;(try clear w');intro b14;intro a' hp;(try simp only [fr] at hp);subst hp;intro w' hS)) | (go_at_call 99;refine calls_by hS ⟨_,hwk _ (St.view hS),?_⟩;clear hS;(try clear w');intro w' hS))
 obtain ⟨q1,q2,q3,q4⟩:=hwb
 refine rch_seq (rch_seq (rch_code ?_))
 go_wp2_with (((with_reducible refine gL ?_);refine ql1 hS rfl rfl rfl ?_);refine ⟨_,zd,?_⟩;clear hS;(try clear w');intro a' hp;(try simp only [fr] at hp);subst hp;intro w' hS;(try simp only [sE] at hS))
 refine rch_block (rch_loop ?_)
 have hm2:MapS w' mb 0 []:=hm1.of_heap (hS.toKp.old mb hm1.lt)
 have hl14:=(hS.new (.blk b14 27 [.int .i64 r.1,.int .i64 r.2]) (by simp) b14 rfl).elim id (fun h=>nomatch h)
 have hsz:=hk1.size
 exact rch_here (tgt:=nhead2) ⟨mb,b14,tmN_of rfl,hk1.trans hS.toKp,hm2,Nat.le_refl _,by omega,hS.has1⟩
end Go.Proofs.YtjjmefieegcddaaDoor
