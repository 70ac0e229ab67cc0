/- A part of the proof: W77, W78, S26, W81, W43, W44, W45, W46, W47, W48, W49. -/
import Derived.Test.YtjjmefieegcddaaDoorB17
import Derived.Test.YtjjmefieegcddaaDoorB16
import Derived.Test.YtjjmefieegcddaaDoorB12
import Derived.Test.YtjjmefieegcddaaDoorB15
import Derived.Test.YtjjmefieegcddaaDoorB07
import Derived.Maps.Own
import Derived.Maps.Views
import Derived.Maps.OwnOps
set_option linter.unusedVariables false
set_option linter.unusedSimpArgs false
namespace Go.Proofs.YtjjmefieegcddaaDoor
open Go.RowKit Go.Wg Go.Mm
variable {w:World} {V:View}
theorem two_one {a b:Value} (h1:a.oneCell'=true) (h2:b.oneCell'=true):∀ v∈[a,b],v.oneCell'=true:=fun v hv=>by
 rcases List.mem_cons.1 hv with rfl | hv
 ·exact h1
 ·rw [List.mem_singleton] at hv;subst hv;exact h2
theorem rdg_upd (l:List Rdg) (pad:List Value) (q:Nat) (hq:q < l.length) (sh:Int):(rdgC l ++ pad).set (q * 4+2) (.int .i64 sh)=rdgC (l.set q ⟨(l.getD q default).vessel,(l.getD q default).scale,sh,(l.getD q default).err⟩) ++ pad:=by
 induction l generalizing q with
 | nil=>simp at hq
 | cons v l ih =>
  cases q with
  | zero=>simp [rdgC,Rdg.cells]
  | succ q =>
   have h:=ih q (by simpa using hq)
   rw [show (q+1) * 4+2=q * 4+2+1+1+1+1 by omega]
   simp only [rdgC,List.flatMap_cons,Rdg.cells,List.cons_append,List.nil_append,List.set_cons_succ,List.getD_cons_succ] at h ⊢
   rw [h]
theorem rdg_at (l:List Rdg) (pad:List Value) (q:Nat) (hq:q < l.length):(rdgC l ++ pad)[q * 4+2]? = some (.int .i64 (l.getD q default).shown):=by
 have:=flat4 Rdg.cells (fun _=>rfl) l q (l.getD q default) (by simp [List.getD_eq_getElem?_getD,List.getElem?_eq_getElem hq]) 2 (by decide)
 rw [List.getElem?_append_left (by rw [rdgC,flat4_len _ (fun _=>rfl)];omega)]
 exact this
set_option maxRecDepth 40000 in
set_option maxHeartbeats 8000000 in
theorem WorksOf_ok {bh:Nat} {lv:Value} {cn st:Int} (hh:HatOf V bh lv cn) (hc9:cn≤900000) {vessels room:Int} (hv:1≤vessels∧vessels≤6) (hr:1≤room∧room≤40) (hV:V.In w) (hVb:V bh=none) (hg:w.heap[bh]? = some (.cells (hatC lv cn st).toArray 90 (0,0))) :
  Calls Tryd.prog 33 #[.pointer (some ⟨bh,0,none⟩),.int .i64 vessels,.int .i64 room] w fun e w'=>∃ (k:Wk) (vv rv:Value) (cn' st':Int),e=.returned (.agg #[vv,rv])∧k.Ok∧(k.n:Int)≤vessels∧k.rdg.length≤4∧cn≤cn'∧cn'≤cn+120 ∧
   St w [bh] V [.row vv 29 4 k.n (vesC k.ves),.row rv 59 4 k.rdg.length (rdgC k.rdg),.blk bh 90 (hatC lv cn' st')] w':=by
 have hS:=St.start1 w V hV hg hVb
 have hto:=fun (c:Int) (h1:cn≤c) (h2:c≤1000000)=>hh.to h1 h2
 clear hg
 go_enter Tryd.func33,Tryd.ntmps33
 go_wp2_with (first | (first | (((with_reducible refine gS ?_);refine qsall hS rfl rfl rfl ?_);refine ⟨_,zd,?_⟩;clear hS;(try clear w');intro a' hp;(try simp only [fr] at hp);subst hp;intro w' hS;(try simp only [sE] at hS)) | ((with_reducible refine gA ?_);refine qallocd 6 rfl hS rfl rfl ?_;clear hS;(try clear w');intro b6;intro a' hp;(try simp only [fr] at hp);subst hp;intro w' hS) | ((with_reducible refine gA ?_);refine qallocd 7 rfl hS rfl rfl ?_;clear hS;(try clear w');intro b7;intro a' hp;(try simp only [fr] at hp);subst hp;intro w' hS)) | (go_at_call 38;refine (MeltOf_ok hh hc9 hv hr (St.view hS) hVb (St.has1 hS)).mono ?_;rintro _ w1 ⟨k,ws,vv,rv,mv,c1,s1,rfl,hok,hkn,hrl,htr,k1,k2,hS1⟩;replace hS:St w [bh] V [.row mv 3 1 k.n (intsC ws),.row vv 29 4 k.n (vesC k.ves),.row rv 59 4 k.rdg.length (rdgC k.rdg),.blk b6 25 [.slice none 0 0,.slice none 0 0],.blk bh 90 (hatC lv c1 s1)] w1:=hS.comp (j:=1) rfl (hS1.perm (List.perm_append_comm (l₁:=[_,_,_]) (l₂:=[_])));clear hS1;have hvv:=rowOne hS vv;have hrv:=rowOne hS rv;have hone2:∀ v∈[vv,rv],v.oneCell'=true:=two_one hvv hrv))
 have hS3:=hS.perm (List.perm_middle (l₁:=[_,_,_]))
 have hrd:∀ j,j < k.rdg.length→(k.rdg.getD j default).shown≤49:=fun j hj=>by
  obtain ⟨o1,o2,_,_,_,_,o7,o8⟩:=hok.rdg j hj
  have hm:k.rdg.getD j default∈k.rdg:=by
   rw [List.getD_eq_getElem?_getD,List.getElem?_eq_getElem hj]
   exact List.getElem_mem hj
  have h1:=(htr.rdg _ hm).1
  have h2:=(htr.room (k.rdg.getD j default).vessel.toNat (by omega)).2
  have h3:=(hok.ves (k.rdg.getD j default).vessel.toNat (by omega)).2.2.2.1
  omega
 generalize hro:k.rdg=ro at hS hS3 hrd hrl
 have hrok:∀ j,j < ro.length→(ro.getD j default).Ok k.n:=fun j hj=>by subst hro;exact hok.rdg j hj
 replace hro:=mkHid hro
 rcases row_cases hS3 with ⟨hrv0,hr0⟩ | ⟨gr,cap,pad,hrv0,q1,q2,q3,q4,q5,hS4⟩
 ·subst hrv0
  rw [hr0] at hS
  clear hS3 hrd hrok
  go_loopw [9] (fun iv wr=>iv=.int .i64 0∧St w [bh] V [.blk b7 25 [vv,.slice none 0 0],.row vv 29 4 k.n (vesC k.ves),.row (.slice none 0 0) 59 4 0 (rdgC ro),.blk b6 25 [.slice none 0 0,.slice none 0 0],.blk bh 90 (hatC lv c1 s1)] wr) (fun _ _=>0)
  case atStart=>exact ⟨rfl,hS.subI⟩
  case round =>
   clear hS
   obtain ⟨rfl,hS⟩:=hrel
   go_wp2_with ((first | ((with_reducible refine gL ?_);first | refine ql1 hS rfl rfl rfl ?_ | refine qln hS rfl rfl rfl ?_) | ((with_reducible refine gS ?_);refine qsall hS rfl rfl rfl ?_));refine ⟨_,zd,?_⟩;clear hS;(try clear w');intro a' hp;(try simp only [fr] at hp);subst hp;intro w' hS;(try simp only [sE] at hS))
   ((try simp only [Exit.inBlock,Exit.then]);(try refine bodyPost_norm ?_);refine ret_by ⟨_,by exact results1 (r1:=.cell 6 25) (by kernel_rfl) (by exact rs_n hS rfl zd),?_⟩ rfl)
   exact ⟨k,vv,_,c1,s1,rfl,hok,hkn,(by rw [hro.out];exact hrl),by omega,by omega,by rw [hro.out,hr0];exact hS.subI⟩
 ·subst hrv0
  replace hS:St w [bh] V [.blk gr 59 (rdgC ro ++ pad),.blk b7 25 [vv,.slice (some ⟨gr,0,none⟩) ro.length cap],.row mv 3 1 k.n (intsC ws),.row vv 29 4 k.n (vesC k.ves),.blk b6 25 [.slice none 0 0,.slice none 0 0],.blk bh 90 (hatC lv c1 s1)] _:=hS4
  clear hS3 hS4
  have hpl:ro.length * 4+pad.length=cap * 4:=by rw [List.length_append,q3] at q4;exact q4
  clear q3 q4
  have hkl:0≤k.n:=by omega
  go_loopw [9] (fun iv wr=>∃ (i:Nat) (r:List Rdg) (c2 s2:Int),iv=.int .i64 (i:Int)∧i≤ro.length∧r.length=ro.length∧(∀ j,j < ro.length→(r.getD j default).Ok k.n∧(i≤j→(r.getD j default).shown≤49))∧cn≤c2∧c2≤cn+100+2 * i ∧
   St w [bh] V [.blk gr 59 (rdgC r ++ pad),.blk b7 25 [vv,.slice (some ⟨gr,0,none⟩) ro.length cap],.row vv 29 4 k.n (vesC k.ves),.blk b6 25 [.slice none 0 0,.slice none 0 0],.blk bh 90 (hatC lv c2 s2)] wr) (fun iv _=>ro.length - (intOf iv).toNat)
  case atStart=>exact ⟨0,ro,c1,s1,rfl,by omega,rfl,fun j hj=>⟨hrok j hj,fun _=>hrd j hj⟩,by omega,by omega,hS.subI⟩
  case round =>
   clear hS
   obtain ⟨i,r,c2,s2,rfl,hi,hrl2,hall,k3,k4,hS⟩:=hrel
   by_cases hlt:i < ro.length
   ·have hlt':(i:Int) < ro.length:=by omega
    have h0i:(0:Int)≤i:=by omega
    obtain ⟨⟨o1,o2,o3,o4,o5,o6,o7,o8⟩,o9⟩:=hall i hlt
    have o10:=o9 (Nat.le_refl _)
    have hcell:=rdg_at r pad i (by omega)
    have hlr:(rdgC r).length+pad.length ≥ ro.length * 4:=by rw [rdgC,flat4_len _ (fun _=>rfl),hrl2];omega
    have hup:=rdg_upd r pad i (by omega)
    have hnx:∀ sh,0≤sh→sh≤60→∀ j,j < ro.length→((r.set i ⟨(r.getD i default).vessel,(r.getD i default).scale,sh,(r.getD i default).err⟩).getD j default).Ok k.n∧(i+1≤j→((r.set i ⟨(r.getD i default).vessel,(r.getD i default).scale,sh,(r.getD i default).err⟩).getD j default).shown≤49):=fun sh h1 h2 j hj=>by
     rw [getD_set _ _ _ _ _ (by omega)]
     by_cases e:i=j
     ·subst e
      rw [if_pos rfl]
      exact ⟨⟨o1,o2,o3,o4,h1,h2,o7,o8⟩,fun h=>by omega⟩
     ·rw [if_neg e]
      exact ⟨(hall j hj).1,fun h=>(hall j hj).2 (by omega)⟩
    have hno:∀ j,j < ro.length→(r.getD j default).Ok k.n∧(i+1≤j→(r.getD j default).shown≤49):=fun j hj=>⟨(hall j hj).1,fun h=>(hall j hj).2 (by omega)⟩
    generalize (r.getD i default).shown=sh0 at hcell o5 o10
    clear o1 o2 o3 o4 o6 o7 o8 o9
    replace hnx:=mkHid hnx;replace hno:=mkHid hno;replace hup:=mkHid hup
    clear hall hrd hrok
    go_wp2_with (first | (((with_reducible refine gL ?_);refine ql1 hS rfl rfl rfl ?_);refine ⟨_,zd,?_⟩;clear hS;(try clear w');intro a' hp;(try simp only [fr] at hp);subst hp;intro w' hS;(try simp only [sE] at hS)) | (go_at_call 72;refine calls_hat hS ⟨1,_,fun _ hg=>Seldom_ok (hto _ (by omega) (by omega)) (by omega) (St.view hS) hVb hg,?_⟩;clear hS;(try clear w');intro v c3 s3 w' hp k5 k6 hS;(try simp only [sE] at hS);obtain ⟨x,rfl⟩:=hp))
    focus
     (refine held_start (S:=(St w [bh] V [.blk b7 25 [vv,.slice (some ⟨gr,0,none⟩) ro.length cap]])) [false,false,false,false,false,false,false,false,false,false,false,false,false,false,false,false,false] rfl (by kernel_rfl) ?_;replace hS:=St.drew1 hS;(iterate 9 ((first | refine hxp 0 rfl ?_ | refine hxa 1 rfl ?_ | refine hxm 2 rfl ?_ | refine hxp 3 rfl ?_ | refine hxa 4 rfl ?_ | refine hxm 5 rfl ?_ | refine hxp 6 rfl ?_ | refine hxp 7 rfl ?_ | refine hxm 9 rfl ?_);intro a' l' hp hl;(try simp only [fr] at hp);(try simp only [sB] at hl);subst hp;subst hl));(focus (refine he_two 8 10 (by kernel_rfl) ?_ ?_;rotate_left;(refine we_bsl 10 rfl hS rfl  rfl ?_;refine ⟨_,zq,zd,?_⟩;clear hS;(try clear w');intro b36;intro a' l' hp hl;(try simp only [fr] at hp);(try simp only [sB] at hl);subst hp;subst hl;intro w' hS;refine ⟨(St.subI hS),?_⟩);(focus (refine he_two 8 11 (by kernel_rfl) ?_ ?_;rotate_left;(refine we_hat (bh:=bh) 11 rfl hS rfl  ?_;refine ⟨_,_,zo,?_⟩;refine ⟨1,_,(fun _ hg=>One_ok (b:=b36) (hto _ (by omega) (by omega)) hS.has1 ⟨rfl,by decide,by decide⟩ (St.view hS) hVb (hs_ne hS (by decide)) hg),?_⟩;clear hS;(try clear w');intro v c37 s37 a' l' hpr hc37 hd37 hp hl;obtain ⟨x37,rfl,hx37⟩:=hpr;replace hx37:-6≤x37∧x37≤6:=(by simp only [List.mem_cons,List.not_mem_nil,or_false] at hx37;omega);(try simp only [fr] at hp);(try simp only [sB] at hl);subst hp;subst hl;intro w' hS;(try simp only [sE] at hS);refine ⟨(St.subI hS),?_⟩);(refine he_l1 8 (by kernel_rfl) rfl hS rfl rfl rfl ?_;refine ⟨_,zd,?_⟩;clear hS;(try clear w');intro a' l' hp hl;(try simp only [fr] at hp);(try simp only [sB] at hl);subst hp;subst hl;intro w' hS;refine ⟨(St.subI hS),?_⟩);(refine ht_pure 12 rfl (by kernel_rfl) (by kernel_rfl) (by kernel_rfl) (fun _ _ _ _ h=>h) rfl (St.subI hS) ?_;refine ⟨_,zp,?_⟩;intro a' l' hp hl;(try simp only [fr] at hp);(try simp only [sB] at hl);subst hp;subst hl);(refine ht_pure 13 rfl (by kernel_rfl) (by kernel_rfl) (by kernel_rfl) (fun _ _ _ _ h=>h) rfl (St.subI hS) ?_;refine ⟨_,(fun w=>run_maxI rfl rfl rfl w),?_⟩;intro a' l' hp hl;(try simp only [fr] at hp);(try simp only [sB] at hl);subst hp;subst hl);(refine ht_pure 14 rfl (by kernel_rfl) (by kernel_rfl) (by kernel_rfl) (fun _ _ _ _ h=>h) rfl (St.subI hS) ?_;refine ⟨_,zp,?_⟩;intro a' l' hp hl;(try simp only [fr] at hp);(try simp only [sB] at hl);subst hp;subst hl);(refine ht_pure 15 rfl (by kernel_rfl) (by kernel_rfl) (by kernel_rfl) (fun _ _ _ _ h=>h) rfl (St.subI hS) ?_;refine ⟨_,zp,?_⟩;intro a' l' hp hl;(try simp only [fr] at hp);(try simp only [sB] at hl);subst hp;subst hl);((refine he_s1 16 (by kernel_rfl) rfl hS rfl  rfl rfl ?_;refine ⟨_,zd,?_⟩);clear hS;(try clear w');intro a' l' hp hl;(try simp only [fr] at hp);(try simp only [sB] at hl);subst hp;subst hl;intro w' hS;(try simp only [sE] at hS);refine ⟨(St.subI hS),?_⟩);refine wpAnyH_done (by kernel_rfl) ?_ _;rotate_left;(refine we_l1 8 rfl hS rfl  rfl rfl ?_;refine ⟨_,zd,?_⟩;clear hS;(try clear w');intro a' l' hp hl;(try simp only [fr] at hp);(try simp only [sB] at hl);subst hp;subst hl;intro w' hS;refine ⟨(St.subI hS),?_⟩);(refine he_hat (bh:=bh) 11 (by kernel_rfl) rfl hS rfl  ?_;refine ⟨_,_,zo,?_⟩;refine ⟨1,_,(fun _ hg=>One_ok (b:=b36) (hto _ (by omega) (by omega)) hS.has1 ⟨rfl,by decide,by decide⟩ (St.view hS) hVb (hs_ne hS (by decide)) hg),?_⟩;clear hS;(try clear w');intro v c37 s37 a' l' hpr hc37 hd37 hp hl;obtain ⟨x37,rfl,hx37⟩:=hpr;replace hx37:-6≤x37∧x37≤6:=(by simp only [List.mem_cons,List.not_mem_nil,or_false] at hx37;omega);(try simp only [fr] at hp);(try simp only [sB] at hl);subst hp;subst hl;intro w' hS;(try simp only [sE] at hS);refine ⟨(St.subI hS),?_⟩);(refine ht_pure 12 rfl (by kernel_rfl) (by kernel_rfl) (by kernel_rfl) (fun _ _ _ _ h=>h) rfl (St.subI hS) ?_;refine ⟨_,zp,?_⟩;intro a' l' hp hl;(try simp only [fr] at hp);(try simp only [sB] at hl);subst hp;subst hl);(refine ht_pure 13 rfl (by kernel_rfl) (by kernel_rfl) (by kernel_rfl) (fun _ _ _ _ h=>h) rfl (St.subI hS) ?_;refine ⟨_,(fun w=>run_maxI rfl rfl rfl w),?_⟩;intro a' l' hp hl;(try simp only [fr] at hp);(try simp only [sB] at hl);subst hp;subst hl);(refine ht_pure 14 rfl (by kernel_rfl) (by kernel_rfl) (by kernel_rfl) (fun _ _ _ _ h=>h) rfl (St.subI hS) ?_;refine ⟨_,zp,?_⟩;intro a' l' hp hl;(try simp only [fr] at hp);(try simp only [sB] at hl);subst hp;subst hl);(refine ht_pure 15 rfl (by kernel_rfl) (by kernel_rfl) (by kernel_rfl) (fun _ _ _ _ h=>h) rfl (St.subI hS) ?_;refine ⟨_,zp,?_⟩;intro a' l' hp hl;(try simp only [fr] at hp);(try simp only [sB] at hl);subst hp;subst hl);((refine he_s1 16 (by kernel_rfl) rfl hS rfl  rfl rfl ?_;refine ⟨_,zd,?_⟩);clear hS;(try clear w');intro a' l' hp hl;(try simp only [fr] at hp);(try simp only [sB] at hl);subst hp;subst hl;intro w' hS;(try simp only [sE] at hS);refine ⟨(St.subI hS),?_⟩);refine wpAnyH_done (by kernel_rfl) ?_ _));rotate_left 2;(refine we_l1 8 rfl hS rfl  rfl rfl ?_;refine ⟨_,zd,?_⟩;clear hS;(try clear w');intro a' l' hp hl;(try simp only [fr] at hp);(try simp only [sB] at hl);subst hp;subst hl;intro w' hS;refine ⟨(St.subI hS),?_⟩);(refine he_bsl 10 (by kernel_rfl) rfl hS rfl  rfl ?_;refine ⟨_,zq,zd,?_⟩;clear hS;(try clear w');intro b36;intro a' l' hp hl;(try simp only [fr] at hp);(try simp only [sB] at hl);subst hp;subst hl;intro w' hS;refine ⟨(St.subI hS),?_⟩);(refine he_hat (bh:=bh) 11 (by kernel_rfl) rfl hS rfl  ?_;refine ⟨_,_,zo,?_⟩;refine ⟨1,_,(fun _ hg=>One_ok (b:=b36) (hto _ (by omega) (by omega)) hS.has1 ⟨rfl,by decide,by decide⟩ (St.view hS) hVb (hs_ne hS (by decide)) hg),?_⟩;clear hS;(try clear w');intro v c37 s37 a' l' hpr hc37 hd37 hp hl;obtain ⟨x37,rfl,hx37⟩:=hpr;replace hx37:-6≤x37∧x37≤6:=(by simp only [List.mem_cons,List.not_mem_nil,or_false] at hx37;omega);(try simp only [fr] at hp);(try simp only [sB] at hl);subst hp;subst hl;intro w' hS;(try simp only [sE] at hS);refine ⟨(St.subI hS),?_⟩);(refine ht_pure 12 rfl (by kernel_rfl) (by kernel_rfl) (by kernel_rfl) (fun _ _ _ _ h=>h) rfl (St.subI hS) ?_;refine ⟨_,zp,?_⟩;intro a' l' hp hl;(try simp only [fr] at hp);(try simp only [sB] at hl);subst hp;subst hl);(refine ht_pure 13 rfl (by kernel_rfl) (by kernel_rfl) (by kernel_rfl) (fun _ _ _ _ h=>h) rfl (St.subI hS) ?_;refine ⟨_,(fun w=>run_maxI rfl rfl rfl w),?_⟩;intro a' l' hp hl;(try simp only [fr] at hp);(try simp only [sB] at hl);subst hp;subst hl);(refine ht_pure 14 rfl (by kernel_rfl) (by kernel_rfl) (by kernel_rfl) (fun _ _ _ _ h=>h) rfl (St.subI hS) ?_;refine ⟨_,zp,?_⟩;intro a' l' hp hl;(try simp only [fr] at hp);(try simp only [sB] at hl);subst hp;subst hl);(refine ht_pure 15 rfl (by kernel_rfl) (by kernel_rfl) (by kernel_rfl) (fun _ _ _ _ h=>h) rfl (St.subI hS) ?_;refine ⟨_,zp,?_⟩;intro a' l' hp hl;(try simp only [fr] at hp);(try simp only [sB] at hl);subst hp;subst hl);((refine he_s1 16 (by kernel_rfl) rfl hS rfl  rfl rfl ?_;refine ⟨_,zd,?_⟩);clear hS;(try clear w');intro a' l' hp hl;(try simp only [fr] at hp);(try simp only [sB] at hl);subst hp;subst hl;intro w' hS;(try simp only [sE] at hS);refine ⟨(St.subI hS),?_⟩);refine wpAnyH_done (by kernel_rfl) ?_ _)))
     all_goals (
      rw [hup.out] at hS
      go_wp2_with (fail)
      go_roundw
      case rel=>exact ⟨i+1,_,c37,s37,by go_num,by omega,by rw [List.length_set];exact hrl2,hnx.out (max 0 (sh0+x37)) (by omega) (by omega),by omega,by omega,hS.subI⟩
      case measure=>simp only [intOf];omega)
    go_roundw
    case rel=>exact ⟨i+1,r,c3,s3,by go_num,by omega,hrl2,hno.out,by omega,by omega,hS.subI⟩
    case measure=>simp only [intOf];omega
   ·obtain rfl:i=ro.length:=by omega
    have hone3:∀ v∈[vv,Value.slice (some ⟨gr,0,none⟩) ro.length cap],v.oneCell'=true:=two_one hvv rfl
    clear hone2
    go_wp2_with ((first | ((with_reducible refine gL ?_);first | refine ql1 hS rfl rfl rfl ?_ | refine qln hS rfl rfl rfl ?_) | ((with_reducible refine gS ?_);refine qsall hS rfl rfl rfl ?_));refine ⟨_,zd,?_⟩;clear hS;(try clear w');intro a' hp;(try simp only [fr] at hp);subst hp;intro w' hS;(try simp only [sE] at hS))
    ((try simp only [Exit.inBlock,Exit.then]);(try refine bodyPost_norm ?_);refine ret_by ⟨_,by exact results1 (r1:=.cell 6 25) (by kernel_rfl) (by exact rs_n hS rfl zd),?_⟩ rfl)
    have hK:(⟨k.ves,r⟩:Wk).Ok:=⟨hok.pos,hok.le,hok.ves,by show r.length≤6;omega,fun j hj=>(hall j (by have hj':j < r.length:=hj;omega)).1⟩
    refine ⟨⟨k.ves,r⟩,vv,_,c2,s2,rfl,hK,hkn,by show r.length≤4;omega,by omega,by omega,?_⟩
    have h1:St w [bh] V [.blk gr 59 (rdgC r ++ pad),.row vv 29 4 k.n (vesC k.ves),.blk bh 90 (hatC lv c2 s2)] _:=hS.subI
    have el:(rdgC r).length=ro.length * 4:=by rw [rdgC,flat4_len _ (fun _=>rfl),hrl2]
    have h2:=(blk_row (n:=ro.length) (s:=4) (cap:=cap) h1 q1 q2 el (by rw [List.length_append,el];exact hpl) q5).perm (List.Perm.swap _ _ _)
    show St w [bh] V [.row vv 29 4 k.n (vesC k.ves),.row _ 59 4 r.length (rdgC r),.blk bh 90 (hatC lv c2 s2)] _
    rw [hrl2]
    exact h2
end Go.Proofs.YtjjmefieegcddaaDoor
namespace Go.Proofs.YtjjmefieegcddaaDoor
open Go.RowKit Go.Wg Go.Mm
variable {w:World} {V:View}
set_option maxHeartbeats 1000000 in
theorem Find_ok {v:Value} {l:List Int} (hl:VI V v l) (hn:l.length≤100) (n:Int) (hV:V.In w) :
  Calls Tryd.prog 37 #[v,.int .i64 n] w fun e w'=>∃ x:Int,e=.returned (.int .i64 x)∧(0≤x↔n∈l)∧Kp w w':=by
 obtain ⟨la,lcap,rfl,hlc,hlm,hle⟩:=hl.is
 have hS:=St.start w V hV
 clear hl
 go_enter Tryd.func37,Tryd.ntmps37
 go_wp2_with (fail)
 go_loopw [5] (fun iv wr=>∃ i:Nat,i≤l.length∧iv=.int .i64 (i:Int)∧(∀ j,j < i→l.getD j 0≠n)∧St w [] V [] wr) (fun iv _=>l.length - (intOf iv).toNat)
 case atStart=>exact ⟨0,by omega,rfl,(fun j hj=>absurd hj (by omega)),hS⟩
 case round =>
  clear hS
  obtain ⟨i,hi,rfl,hno,hS⟩:=hrel
  have h0:(0:Int)≤i:=by omega
  by_cases hlt:i < l.length
  ·have hlt':(i:Int) < l.length:=by omega
   obtain ⟨lg,lo,rfl,hlr⟩:=hle (by omega)
   have hcell:=hlr i hlt 0 _ rfl
   simp only [Nat.mul_one,Nat.add_zero] at hcell
   have hmem:l.getD i 0∈l:=by
    rw [List.getD_eq_getElem?_getD,List.getElem?_eq_getElem hlt]
    exact List.getElem_mem hlt
   have hnx:l.getD i 0≠n→∀ j,j < i+1→l.getD j 0≠n:=fun h j hj=>by
    rcases Nat.lt_succ_iff_lt_or_eq.1 hj with hj | rfl
    ·exact hno j hj
    ·exact h
   generalize l.getD i 0=y at hcell hmem hnx
   clear hle hlr hno
   by_cases he:y=n
   ·subst he
    replace hmem:=mkHid hmem
    clear hnx
    go_wp2_with (((with_reducible refine gL ?_);refine qv1 hS rfl rfl rfl ?_);refine ⟨_,zd,?_⟩;clear hS;(try clear w');intro a' hp;(try simp only [fr] at hp);subst hp;intro w' hS;(try simp only [sE] at hS))
    ((try simp only [Exit.inBlock,Exit.then]);(try refine bodyPost_norm ?_);refine ret_by ⟨_,by exact results1 (r1:=.tmp 4) (by kernel_rfl) (by exact rs_tmp rfl),?_⟩ rfl)
    exact ⟨_,rfl,⟨fun _=>hmem.out,fun _=>by omega⟩,hS.toKp⟩
   ·have hnx':=hnx he
    replace hnx':=mkHid hnx'
    clear hnx hmem
    go_wp2_with (((with_reducible refine gL ?_);refine qv1 hS rfl rfl rfl ?_);refine ⟨_,zd,?_⟩;clear hS;(try clear w');intro a' hp;(try simp only [fr] at hp);subst hp;intro w' hS;(try simp only [sE] at hS))
    go_roundw
    case rel=>exact ⟨i+1,by omega,by go_num,hnx'.out,hS⟩
    case measure=>simp only [intOf];omega
  ·obtain rfl:i=l.length:=by omega
   have hnm:¬ n∈l:=fun h=>by
    obtain ⟨j,hj,hjn⟩:=List.getElem_of_mem h
    exact hno j hj (by rw [List.getD_eq_getElem?_getD,List.getElem?_eq_getElem hj];exact hjn)
   replace hnm:=mkHid hnm
   clear hno hle
   go_wp2_with (fail)
   ((try simp only [Exit.inBlock,Exit.then]);(try refine bodyPost_norm ?_);refine ret_by ⟨_,by exact results1 (r1:=.tmp 4) (by kernel_rfl) (by exact rs_tmp rfl),?_⟩ rfl)
   exact ⟨_,rfl,⟨fun h=>absurd h (by decide),fun h=>absurd h hnm.out⟩,hS.toKp⟩
end Go.Proofs.YtjjmefieegcddaaDoor
namespace Go.Wg
open Go Go.Mm Go.Proofs.YtjjmefieegcddaaDoor
def inBf (k:Wk) (v:Nat):Nat→Nat→Bool
 | 0,_=>false
 | f+1,i=>i == v || (decide (0≤(k.v i).from_) && inBf k v f (k.v i).from_.toNat)
def inB (k:Wk) (v i:Nat):Bool:=inBf k v (i+1) i
def cB (k:Wk) (v i:Nat):Nat:=((List.range i).filter (inB k v)).length
def numB (k:Wk) (v i:Nat):Int:=if inB k v i then (cB k v i:Int) else -1
def vesB (k:Wk) (v i:Nat):Ves:=⟨if i=v then -1 else numB k v (k.v i).from_.toNat,(k.v i).room,(k.v i).lo,(k.v i).hi⟩
def rdgB (k:Wk) (v:Nat) (r:Rdg):Rdg:=⟨numB k v r.vessel.toNat,r.scale,r.shown,r.err⟩
def vesBs (k:Wk) (v m:Nat):List Ves:=((List.range m).filter (inB k v)).map (vesB k v)
def rdgBs (k:Wk) (v m:Nat):List Rdg:=((k.rdg.take m).filter fun r=>inB k v r.vessel.toNat).map (rdgB k v)
def Wk.branch (k:Wk) (v:Nat):Wk:=⟨vesBs k v k.n,rdgBs k v k.rdg.length⟩
theorem inBf_more {k:Wk} (hok:k.Ok) (v:Nat):∀ (f g i:Nat),i < f→i < g→i < k.n→inBf k v f i=inBf k v g i:=fun f=>by
 induction f with
 | zero=>exact fun g i h=>absurd h (by omega)
 | succ f ih =>
  intro g i hf hg hi
  obtain ⟨g,rfl⟩:∃ g',g=g'+1:=⟨g - 1,by omega⟩
  rw [inBf,inBf]
  by_cases h:0≤(k.v i).from_
  ·have h2:=(hok.ves i hi).2.1
   rw [ih g (k.v i).from_.toNat (by omega) (by omega) (by omega)]
  ·simp [h]
theorem inB_eq {k:Wk} (hok:k.Ok) (v:Nat) {i:Nat} (hi:i < k.n):inB k v i=(i == v || (decide (0≤(k.v i).from_) && inB k v (k.v i).from_.toNat)):=by
 unfold inB
 rw [inBf]
 by_cases h:0≤(k.v i).from_
 ·have h2:=(hok.ves i hi).2.1
  rw [inBf_more hok v i ((k.v i).from_.toNat+1) (k.v i).from_.toNat (by omega) (by omega) (by omega)]
 ·simp [h]
theorem inB_ge {k:Wk} (hok:k.Ok) (v:Nat) (i:Nat):i < k.n→inB k v i=true→v≤i:=by
 induction i using Nat.strongRecOn with
 | ind i ih =>
  intro hi h
  rw [inB_eq hok v hi,Bool.or_eq_true,Bool.and_eq_true,beq_iff_eq,decide_eq_true_eq] at h
  rcases h with h | ⟨h1,h2⟩
  ·omega
  ·have h3:=(hok.ves i hi).2.1
   have:=ih _ (by omega) (by omega) h2
   omega
theorem inB_self (k:Wk) (v:Nat):inB k v v=true:=by
 unfold inB
 rw [inBf]
 simp
theorem cB_succ (k:Wk) (v i:Nat):cB k v (i+1)=cB k v i+if inB k v i then 1 else 0:=by
 unfold cB
 rw [List.range_succ,List.filter_append,List.length_append]
 by_cases h:inB k v i=true <;> simp [h]
theorem cB_mono (k:Wk) (v:Nat) {i j:Nat} (h:i≤j):cB k v i≤cB k v j:=by
 induction j with
 | zero =>
  obtain rfl:i=0:=by omega
  exact Nat.le_refl _
 | succ j ih =>
  rw [cB_succ]
  by_cases e:i=j+1
  ·subst e;rw [cB_succ];omega
  ·have:=ih (by omega);omega
theorem cB_lt (k:Wk) (v:Nat) {i j:Nat} (h:i < j) (hi:inB k v i=true):cB k v i < cB k v j:=by
 have h1:=cB_mono k v h
 rw [Nat.succ_eq_add_one,cB_succ,if_pos hi] at h1
 omega
theorem cB_le (k:Wk) (v i:Nat):cB k v i≤i:=by
 have:=List.length_filter_le (inB k v) (List.range i)
 rwa [List.length_range] at this
theorem numB_neg (k:Wk) (v i:Nat):numB k v i < 0↔inB k v i=false:=by
 unfold numB
 by_cases h:inB k v i=true
 ·rw [if_pos h,h]
  exact ⟨fun h2=>by omega,fun h2=>nomatch h2⟩
 ·rw [if_neg h]
  exact ⟨fun _=>by simpa using h,fun _=>by decide⟩
theorem vesBs_succ (k:Wk) (v m:Nat):vesBs k v (m+1)=if inB k v m then vesBs k v m ++ [vesB k v m] else vesBs k v m:=by
 unfold vesBs
 rw [List.range_succ,List.filter_append,List.map_append]
 by_cases h:inB k v m=true <;> simp [h]
theorem vesBs_len (k:Wk) (v m:Nat):(vesBs k v m).length=cB k v m:=by simp [vesBs,cB]
theorem rdgBs_succ (k:Wk) (v:Nat) {m:Nat} (hm:m < k.rdg.length):rdgBs k v (m+1)=if inB k v (k.rdg.getD m default).vessel.toNat then rdgBs k v m ++ [rdgB k v (k.rdg.getD m default)] else rdgBs k v m:=by
 unfold rdgBs
 rw [List.take_add_one,List.getElem?_eq_getElem hm,List.filter_append,List.map_append]
 have e:k.rdg.getD m default=k.rdg[m]:=by simp [List.getD_eq_getElem?_getD,List.getElem?_eq_getElem hm]
 rw [e]
 by_cases h:inB k v (k.rdg[m]).vessel.toNat=true <;> simp [h]
theorem rdgBs_len (k:Wk) (v m:Nat):(rdgBs k v m).length≤m:=by
 unfold rdgBs
 rw [List.length_map]
 have:=List.length_filter_le (fun r=>inB k v r.vessel.toNat) (k.rdg.take m)
 rw [List.length_take] at this
 omega
theorem branch_n (k:Wk) (v:Nat):(k.branch v).n=cB k v k.n:=vesBs_len k v k.n
def gB (k:Wk) (v p:Nat):Nat:=((List.range k.n).filter (inB k v)).getD p 0
theorem gB_at (k:Wk) (v:Nat) {i m:Nat} (hi:i < m) (hb:inB k v i=true):((List.range m).filter (inB k v))[cB k v i]? = some i:=by
 induction m with
 | zero=>omega
 | succ m ih =>
  rw [List.range_succ,List.filter_append]
  by_cases e:i=m
  ·subst e
   rw [List.getElem?_append_right (by unfold cB;omega)]
   simp [cB,hb]
  ·have h1:=ih (by omega)
   rw [List.getElem?_append_left (List.getElem?_eq_some_iff.1 h1).1]
   exact h1
theorem gB_cB (k:Wk) (v:Nat) {i:Nat} (hi:i < k.n) (hb:inB k v i=true):gB k v (cB k v i)=i:=by
 unfold gB
 rw [List.getD_eq_getElem?_getD,gB_at k v hi hb]
 rfl
theorem gB_mem (k:Wk) (v:Nat) {p:Nat} (hp:p < cB k v k.n):gB k v p < k.n∧inB k v (gB k v p)=true:=by
 have h:gB k v p∈(List.range k.n).filter (inB k v):=by
  unfold gB
  have hp':p < ((List.range k.n).filter (inB k v)).length:=hp
  rw [List.getD_eq_getElem?_getD,List.getElem?_eq_getElem hp']
  exact List.getElem_mem hp'
 obtain ⟨h1,h2⟩:=List.mem_filter.1 h
 exact ⟨List.mem_range.1 h1,h2⟩
theorem cB_gB (k:Wk) (v:Nat) {p:Nat} (hp:p < cB k v k.n):cB k v (gB k v p)=p:=by
 obtain ⟨h1,h2⟩:=gB_mem k v hp
 have h3:=gB_at k v h1 h2
 have hp':p < ((List.range k.n).filter (inB k v)).length:=hp
 have h4:((List.range k.n).filter (inB k v))[p]? = some (gB k v p):=by
  unfold gB
  rw [List.getD_eq_getElem?_getD,List.getElem?_eq_getElem hp']
  rfl
 have hpw:((List.range k.n).filter (inB k v)).Pairwise (· < ·):=List.pairwise_lt_range.filter _
 obtain ⟨q1,q2⟩:=List.getElem?_eq_some_iff.1 h3
 obtain ⟨q3,q4⟩:=List.getElem?_eq_some_iff.1 h4
 have hlt:=List.pairwise_iff_getElem.1 hpw
 rcases Nat.lt_trichotomy (cB k v (gB k v p)) p with h | h | h
 ·have:=hlt _ _ q1 q3 h
  omega
 ·exact h
 ·have:=hlt _ _ q3 q1 h
  omega
theorem branch_v (k:Wk) (v:Nat) {p:Nat} (hp:p < cB k v k.n):(k.branch v).v p=vesB k v (gB k v p):=by
 have hp':p < ((List.range k.n).filter (inB k v)).length:=hp
 show (vesBs k v k.n).getD p default=_
 unfold vesBs gB
 simp [List.getD_eq_getElem?_getD,List.getElem?_map,List.getElem?_eq_getElem hp']
theorem map_gB (k:Wk) (v:Nat):(List.range (cB k v k.n)).map (gB k v)=(List.range k.n).filter (inB k v):=by
 refine List.ext_getElem? fun p=>?_
 by_cases hp:p < cB k v k.n
 ·have hp':p < ((List.range k.n).filter (inB k v)).length:=hp
  simp [List.getElem?_map,hp,gB,List.getD_eq_getElem?_getD,List.getElem?_eq_getElem hp']
 ·rw [List.getElem?_eq_none (by simp;omega),List.getElem?_eq_none (by show cB k v k.n≤p;omega)]
theorem branch_fills {k:Wk} (hok:k.Ok) (v:Nat) {p:Nat} (hp:p < cB k v k.n):((k.branch v).fills p).map (gB k v)=k.fills (gB k v p):=by
 obtain ⟨g1,g2⟩:=gB_mem k v hp
 have h1:(k.branch v).fills p=(List.range (cB k v k.n)).filter ((fun i=>(vesB k v i).from_ == (p:Int)) ∘ gB k v):=by
  unfold Wk.fills
  rw [branch_n]
  refine List.filter_congr fun q hq=>?_
  rw [branch_v k v (List.mem_range.1 hq)]
  rfl
 rw [h1,← List.filter_map,map_gB,List.filter_filter]
 unfold Wk.fills
 refine List.filter_congr fun i hi=>?_
 have hi:=List.mem_range.1 hi
 obtain ⟨o1,o2,_⟩:=hok.ves i hi
 rw [Bool.eq_iff_iff,Bool.and_eq_true,beq_iff_eq,beq_iff_eq]
 constructor
 ·rintro ⟨h2,h3⟩
  unfold vesB at h2
  simp only at h2
  by_cases e:i=v
  ·rw [if_pos e] at h2;omega
  ·rw [if_neg e] at h2
   rw [inB_eq hok v hi,Bool.or_eq_true,Bool.and_eq_true,beq_iff_eq,decide_eq_true_eq] at h3
   rcases h3 with h3 | ⟨h3,h4⟩
   ·exact absurd h3 e
   ·unfold numB at h2
    rw [if_pos h4] at h2
    have h5:=gB_cB k v (i:=(k.v i).from_.toNat) (by omega) h4
    rw [show cB k v (k.v i).from_.toNat=p by omega] at h5
    omega
 ·intro h2
  have e2:(k.v i).from_.toNat=gB k v p:=by omega
  have h3:inB k v i=true:=by
   rw [inB_eq hok v hi,e2,g2]
   simp
   omega
  have hge:=inB_ge hok v _ g1 g2
  refine ⟨?_,h3⟩
  unfold vesB
  simp only
  rw [if_neg (by omega),e2]
  unfold numB
  rw [if_pos g2,cB_gB k v hp]
theorem upAt_get {k:Wk} (hok:k.Ok) (s:SS):∀ m,m≤k.n→∀ i,k.n - m≤i→i < k.n→(upAt k s m).getD i 0=(up k s).getD i 0:=by
 have key:∀ d m,m+d≤k.n→∀ i,k.n - m≤i→i < k.n→(upAt k s (m+d)).getD i 0=(upAt k s m).getD i 0:=fun d=>by
  induction d with
  | zero=>exact fun _ _ _ _ _=>rfl
  | succ d ih =>
   intro m hm i h1 h2
   have hl:=upAt_len k s (m+d)
   have h6:=hok.le
   rw [show m+(d+1)=(m+d)+1 by omega,upAt,getD_set _ _ _ _ _ (by omega),if_neg (by omega)]
   exact ih m (by omega) i h1 h2
 intro m hm i h1 h2
 have:=key (k.n - m) m (by omega) i h1 h2
 rw [show m+(k.n - m)=k.n by omega] at this
 exact this.symm
theorem sums_congr {out out':List Nat} {f:List Nat} (h:∀ x∈f,out.getD x 0=out'.getD x 0):sums out f=sums out' f:=by
 have key:∀ (f:List Nat) (m:Nat),(∀ x∈f,out.getD x 0=out'.getD x 0)→f.foldl (fun m x=>plusB m (out.getD x 0)) m=f.foldl (fun m x=>plusB m (out'.getD x 0)) m:=fun f=>by
  induction f with
  | nil=>exact fun _ _=>rfl
  | cons x f ih =>
   intro m h
   rw [List.foldl_cons,List.foldl_cons,h x (by simp)]
   exact ih _ fun y hy=>h y (by simp [hy])
 exact key f 1 h
theorem up_eq {k:Wk} (hok:k.Ok) (s:SS) {i:Nat} (hi:i < k.n):(up k s).getD i 0=if k.fills i=[] then s.limAt i else s.limAt i &&& plusB (sums (up k s) (k.fills i)) (spanB (s.losAt i).1 (s.losAt i).2):=by
 have h6:=hok.le
 have hl:=upAt_len k s (k.n - 1 - i)
 have h1:=upAt_get hok s (k.n - 1 - i+1) (by omega) i (by omega) hi
 rw [← h1,upAt,show k.n - 1 - (k.n - 1 - i)=i by omega,getD_set _ _ _ _ _ (by omega),if_pos rfl]
 unfold upOne
 by_cases h:k.fills i=[]
 ·rw [if_pos h,if_pos h]
 ·rw [if_neg h,if_neg h]
  congr 2
  refine sums_congr fun x hx=>?_
  have hx:=fills_gt hok hx
  rw [getD_set _ _ _ _ _ (by omega),if_neg (by omega)]
  exact upAt_get hok s _ (by omega) x (by omega) hx.2
theorem plusB_zero (m:Nat):plusB m 0=0:=by
 have key:∀ (l:List Nat),l.foldl (plusStep m 0) 0=0:=fun l=>by
  induction l with
  | nil=>rfl
  | cons n l ih =>
   rw [List.foldl_cons]
   have:plusStep m 0 0 n=0:=by unfold plusStep;simp
   rw [this];exact ih
 unfold plusB plusTo
 rw [key]
 rfl
theorem zero_plusB (v:Nat):plusB 0 v=0:=by
 have key:∀ (l:List Nat),l.foldl (plusStep 0 v) 0=0:=fun l=>by
  induction l with
  | nil=>rfl
  | cons n l ih =>
   rw [List.foldl_cons]
   have:plusStep 0 v 0 n=0:=by unfold plusStep;simp
   rw [this];exact ih
 unfold plusB plusTo
 rw [key]
 rfl
theorem sums_zero {out f:List Nat} {x:Nat} (hx:x∈f) (h0:out.getD x 0=0):sums out f=0:=by
 have k0:∀ (f:List Nat),f.foldl (fun m x=>plusB m (out.getD x 0)) 0=0:=fun f=>by
  induction f with
  | nil=>rfl
  | cons y f ih=>rw [List.foldl_cons,zero_plusB];exact ih
 have key:∀ (f:List Nat) (m:Nat),x∈f→f.foldl (fun m x=>plusB m (out.getD x 0)) m=0:=fun f=>by
  induction f with
  | nil=>exact fun _ h=>nomatch h
  | cons y f ih =>
   intro m h
   rw [List.foldl_cons]
   rcases List.mem_cons.1 h with rfl | h
   ·rw [h0,plusB_zero];exact k0 f
   ·exact ih _ h
 exact key f 1 hx
theorem up_down {k:Wk} (hok:k.Ok) (s:SS) {i x:Nat} (hi:i < k.n) (hx:x∈k.fills i) (h:(up k s).getD i 0≠0):(up k s).getD x 0≠0:=fun h0=>by
 rw [up_eq hok s hi,if_neg (fun e=>by rw [e] at hx;cases hx),sums_zero hx h0,zero_plusB,Nat.and_zero] at h
 exact h rfl
theorem up_branch {k:Wk} (hok:k.Ok) (s:SS) {v:Nat} (h:(up k s).getD v 0≠0) (i:Nat):i < k.n→inB k v i=true→(up k s).getD i 0≠0:=by
 induction i using Nat.strongRecOn with
 | ind i ih =>
  intro hi hb
  rw [inB_eq hok v hi,Bool.or_eq_true,Bool.and_eq_true,beq_iff_eq,decide_eq_true_eq] at hb
  rcases hb with rfl | ⟨h1,h2⟩
  ·exact h
  ·have h3:=(hok.ves i hi).2.1
   have h4:=ih _ (by omega) (by omega) h2
   refine up_down hok s (by omega) (List.mem_filter.2 ⟨List.mem_range.2 hi,?_⟩) h4
   rw [beq_iff_eq]
   omega
theorem branch_ok {k:Wk} (hok:k.Ok) {v:Nat} (hv:v < k.n):(k.branch v).Ok:=by
 have h0:0 < cB k v k.n:=by
  have:=cB_lt k v hv (inB_self k v)
  omega
 have h6:=hok.le
 have hcl:=cB_le k v k.n
 refine ⟨by rw [branch_n];exact h0,by rw [branch_n];omega,fun p hp=>?_,?_,fun q hq=>?_⟩
 ·rw [branch_n] at hp
  obtain ⟨g1,g2⟩:=gB_mem k v hp
  obtain ⟨o1,o2,o3⟩:=hok.ves _ g1
  rw [branch_v k v hp]
  refine ⟨?_,?_,o3⟩
  ·show -1≤(vesB k v (gB k v p)).from_
   unfold vesB numB
   simp only
   split
   ·omega
   ·split <;> omega
  ·show (vesB k v (gB k v p)).from_ < p
   unfold vesB
   simp only
   split
   ·omega
   ·next e =>
    rw [inB_eq hok v g1,Bool.or_eq_true,Bool.and_eq_true,beq_iff_eq,decide_eq_true_eq] at g2
    rcases g2 with g2 | ⟨g2,g3⟩
    ·exact absurd g2 e
    ·unfold numB
     rw [if_pos g3]
     have:=cB_lt k v (i:=(k.v (gB k v p)).from_.toNat) (j:=gB k v p) (by omega) g3
     rw [cB_gB k v hp] at this
     omega
 ·have:=rdgBs_len k v k.rdg.length
  have:=hok.rdl
  show (rdgBs k v k.rdg.length).length≤6
  omega
 ·rw [branch_n]
  have hq':q < (rdgBs k v k.rdg.length).length:=hq
  have hm:(k.branch v).rdg.getD q default∈rdgBs k v k.rdg.length:=by
   show (rdgBs k v k.rdg.length).getD q default∈_
   rw [List.getD_eq_getElem?_getD,List.getElem?_eq_getElem hq']
   exact List.getElem_mem hq'
  obtain ⟨r,hr,he⟩:=List.mem_map.1 hm
  obtain ⟨hr1,hr2⟩:=List.mem_filter.1 hr
  rw [List.take_length] at hr1
  obtain ⟨j,hj,hjr⟩:=List.getElem_of_mem hr1
  have hro:=hok.rdg j hj
  have e:k.rdg.getD j default=r:=by simp [List.getD_eq_getElem?_getD,List.getElem?_eq_getElem hj,hjr]
  rw [e] at hro
  obtain ⟨o1,o2,o3⟩:=hro
  rw [← he]
  refine ⟨?_,?_,o3⟩
  ·show 0≤numB k v r.vessel.toNat
   unfold numB
   rw [if_pos hr2]
   omega
  ·show numB k v r.vessel.toNat < _
   unfold numB
   rw [if_pos hr2]
   have:=cB_lt k v (i:=r.vessel.toNat) (j:=k.n) (by omega) hr2
   omega
theorem nowA_lim (k:Wk) (h6:k.n≤6) (m:Nat) (hm:m≤k.n) (i:Nat):(nowA k m).limAt i=if i < m then spanB 0 (k.v i).room else 0:=by
 induction m with
 | zero =>
  show (List.replicate 6 0).getD i 0=_
  rw [List.getD_eq_getElem?_getD,List.getElem?_replicate]
  split <;> simp
 | succ m ih =>
  have hl:=(nowA_wf k m).lim
  show ((nowA k m).lim.set m (spanB 0 (k.v m).room)).getD i 0=_
  rw [getD_set _ _ _ _ _ (by omega)]
  have ih':(nowA k m).lim.getD i 0=_:=ih (by omega)
  by_cases e:m=i
  ·subst e;simp
  ·rw [if_neg e,ih']
   by_cases h2:i < m
   ·rw [if_pos h2,if_pos (by omega)]
   ·rw [if_neg h2,if_neg (by omega)]
def meetR (x:Nat) (l:List Rdg):Nat:=l.foldl (fun m r=>m &&& spanB (r.shown - r.err) (r.shown+r.err)) x
theorem nowS_lim {k:Wk} (h6:k.n≤6) (hr:∀ r∈k.rdg,0≤r.vessel∧r.vessel < k.n) (b:Rdg→Bool) {i:Nat} (hi:i < k.n):(nowS k b).limAt i=meetR (spanB 0 (k.v i).room) (k.rdg.filter fun r=>!b r && r.vessel.toNat == i):=by
 have key:∀ (l:List Rdg) (s:SS),s.WF→(∀ r∈l,0≤r.vessel∧r.vessel < k.n)→(l.foldl (rdOne b) s).limAt i=meetR (s.limAt i) (l.filter fun r=>!b r && r.vessel.toNat == i):=fun l=>by
  induction l with
  | nil=>exact fun _ _ _=>rfl
  | cons r l ih =>
   intro s hs hl
   have hl0:=hl r (by simp)
   have hsl:=hs.lim
   rw [List.foldl_cons,ih _ (rdOne_wf hs r) fun x hx=>hl x (by simp [hx])]
   unfold rdOne
   by_cases hb:b r=true
   ·simp [hb]
   ·rw [if_neg hb]
    have e1:(s.setLim r.vessel.toNat (s.limAt r.vessel.toNat &&& spanB (r.shown - r.err) (r.shown+r.err))).limAt i=if r.vessel.toNat=i then s.limAt r.vessel.toNat &&& spanB (r.shown - r.err) (r.shown+r.err) else s.limAt i:=getD_set _ _ _ _ _ (by omega)
    rw [e1]
    by_cases e:r.vessel.toNat=i
    ·subst e
     simp [hb,meetR]
    ·simp [e]
 unfold nowS
 rw [key k.rdg _ (nowA_wf k _) hr,nowA_lim k h6 k.n (Nat.le_refl _),if_pos hi]
theorem rdg_mem {k:Wk} (hok:k.Ok):∀ r∈k.rdg,0≤r.vessel∧r.vessel < k.n:=fun r hr=>by
 obtain ⟨j,hj,hjr⟩:=List.getElem_of_mem hr
 have hro:=hok.rdg j hj
 have e:k.rdg.getD j default=r:=by simp [List.getD_eq_getElem?_getD,List.getElem?_eq_getElem hj,hjr]
 rw [e] at hro
 exact ⟨hro.1,hro.2.1⟩
theorem meetR_map (x:Nat) (l:List Rdg) (f:Rdg→Rdg) (h:∀ r,(f r).shown=r.shown∧(f r).err=r.err):meetR x (l.map f)=meetR x l:=by
 unfold meetR
 rw [List.foldl_map]
 congr 1
 funext m r
 rw [(h r).1,(h r).2]
theorem branch_lim {k:Wk} (hok:k.Ok) {v:Nat} (hv:v < k.n) {p:Nat} (hp:p < cB k v k.n):(nowS (k.branch v) noneB).limAt p=(nowS k noneB).limAt (gB k v p):=by
 have hb:=branch_ok hok hv
 obtain ⟨g1,g2⟩:=gB_mem k v hp
 rw [nowS_lim hb.le (rdg_mem hb) noneB (by rw [branch_n];exact hp),nowS_lim hok.le (rdg_mem hok) noneB g1,branch_v k v hp]
 have e:(k.branch v).rdg.filter (fun r=>!noneB r && r.vessel.toNat == p)=(k.rdg.filter fun r=>!noneB r && r.vessel.toNat == gB k v p).map (rdgB k v):=by
  show (rdgBs k v k.rdg.length).filter _=_
  unfold rdgBs
  rw [List.take_length,List.filter_map,List.filter_filter]
  congr 1
  refine List.filter_congr fun r hr=>?_
  obtain ⟨r1,r2⟩:=rdg_mem hok r hr
  rw [Bool.eq_iff_iff]
  simp only [noneB,Bool.not_false,Bool.true_and,Function.comp,Bool.and_eq_true,beq_iff_eq]
  constructor
  ·rintro ⟨h1,h2⟩
   unfold rdgB numB at h1
   simp only at h1
   rw [if_pos h2] at h1
   have:=gB_cB k v (i:=r.vessel.toNat) (by omega) h2
   rw [← this]
   congr 1
  ·intro h1
   rw [h1]
   refine ⟨?_,g2⟩
   unfold rdgB numB
   simp only
   rw [h1,if_pos g2,cB_gB k v hp]
   omega
 rw [e,meetR_map _ _ (rdgB k v) fun r=>⟨rfl,rfl⟩]
 rfl
theorem branch_los {k:Wk} (hok:k.Ok) {v:Nat} (hv:v < k.n) {p:Nat} (hp:p < cB k v k.n):(nowS (k.branch v) noneB).losAt p=(nowS k noneB).losAt (gB k v p):=by
 have hb:=branch_ok hok hv
 obtain ⟨g1,_⟩:=gB_mem k v hp
 rw [nowS_los _ hb,nowS_los _ hok,if_pos (by rw [branch_n];exact hp),if_pos g1,branch_v k v hp]
 rfl
theorem fold_map {A B:List Nat} {g:Nat→Nat}:∀ (f:List Nat) (m:Nat),(∀ x∈f,A.getD x 0=B.getD (g x) 0)→f.foldl (fun m x=>plusB m (A.getD x 0)) m=(f.map g).foldl (fun m x=>plusB m (B.getD x 0)) m
 | [],_,_=>rfl
 | x :: f,m,h=>by
  rw [List.map_cons,List.foldl_cons,List.foldl_cons,h x (by simp)]
  exact fold_map f _ fun y hy=>h y (by simp [hy])
theorem sums_map {A B:List Nat} {g:Nat→Nat} {f:List Nat} (h:∀ x∈f,A.getD x 0=B.getD (g x) 0):sums A f=sums B (f.map g):=fold_map f 1 h
theorem branch_up1 {k:Wk} (hok:k.Ok) {v:Nat} (hv:v < k.n) {s t:SS} {p:Nat} (hp:p < cB k v k.n) (hl:s.limAt p=t.limAt (gB k v p)) (ho:s.losAt p=t.losAt (gB k v p))
  (ih:∀ x,p < x→x < cB k v k.n→(up (k.branch v) s).getD x 0=(up k t).getD (gB k v x) 0):(up (k.branch v) s).getD p 0=(up k t).getD (gB k v p) 0:=by
 have hb:=branch_ok hok hv
 obtain ⟨g1,_⟩:=gB_mem k v hp
 have hfl:=branch_fills hok v hp
 have hx:∀ x∈(k.branch v).fills p,(up (k.branch v) s).getD x 0=(up k t).getD (gB k v x) 0:=fun x hx=>by
  have h:=fills_gt hb hx
  rw [branch_n] at h
  exact ih x h.1 h.2
 have e1:=up_eq hb s (by rw [branch_n];exact hp)
 have e2:=up_eq hok t g1
 have e3:=sums_map hx
 rw [hfl] at e3
 rw [e1,e2,hl,ho,e3]
 generalize (k.branch v).fills p=F at hfl
 generalize k.fills (gB k v p)=F' at hfl
 subst hfl
 by_cases e:F=[]
 ·rw [if_pos e,if_pos (by rw [e];rfl)]
 ·rw [if_neg e,if_neg (by simpa using e)]
theorem branch_up {k:Wk} (hok:k.Ok) {v:Nat} (hv:v < k.n) {s t:SS} (hl:∀ p,p < cB k v k.n→s.limAt p=t.limAt (gB k v p)) (ho:∀ p,p < cB k v k.n→s.losAt p=t.losAt (gB k v p)) (p:Nat) (hp:p < cB k v k.n) :
  (up (k.branch v) s).getD p 0=(up k t).getD (gB k v p) 0:=by
 have key:∀ d p,cB k v k.n - p≤d→p < cB k v k.n→(up (k.branch v) s).getD p 0=(up k t).getD (gB k v p) 0:=fun d=>by
  induction d with
  | zero=>exact fun p h1 h2=>by omega
  | succ d ih=>exact fun p h1 h2=>branch_up1 hok hv h2 (hl p h2) (ho p h2) fun x h3 h4=>ih x (by omega) h4
 exact key _ p (Nat.le_refl _) hp
theorem branch_can {k:Wk} (hok:k.Ok) {v:Nat} (hv:v < k.n):can (k.branch v) (nowS (k.branch v) noneB)=((up k (nowS k noneB)).getD v 0 != 0):=by
 rw [Bool.eq_iff_iff,can_iff,bne_iff_ne,branch_n]
 have hu:=fun p hp=>branch_up hok hv (s:=nowS (k.branch v) noneB) (t:=nowS k noneB) (fun p hp=>branch_lim hok hv hp) (fun p hp=>branch_los hok hv hp) p hp
 constructor
 ·intro h
  have hp:=cB_lt k v hv (inB_self k v)
  have h1:=h _ hp
  rw [hu _ hp,gB_cB k v hv (inB_self k v)] at h1
  exact h1
 ·intro h p hp
  obtain ⟨g1,g2⟩:=gB_mem k v hp
  rw [hu p hp]
  exact up_branch hok _ h _ g1 g2
theorem branch_canE {k:Wk} (hok:k.Ok) {v:Nat} (hv:v < k.n):canE (k.branch v)=((up k (nowS k noneB)).getD v 0 != 0,0):=by
 unfold canE
 rw [if_pos (beginE_ok (branch_ok hok hv) [] (fun _ h=>nomatch h)),branch_can hok hv]
theorem knots_val {k:Wk} (h:k.Ok):knotsE k=(knotsTo k (up k (nowS k noneB)) k.n,0):=by
 unfold knotsE
 rw [if_pos (beginE_ok h [] (fun _ h=>nomatch h))]
theorem can_knots {k:Wk} (hok:k.Ok):canE k=(decide ((knotsTo k (up k (nowS k noneB)) k.n).length=0),0):=by
 unfold canE
 rw [if_pos (beginE_ok hok [] (fun _ h=>nomatch h))]
 congr 1
 rw [Bool.eq_iff_iff,can_iff,decide_eq_true_eq]
 unfold knotsTo
 rw [List.length_map,List.length_eq_zero_iff,List.filter_eq_nil_iff]
 constructor
 ·intro h i hi hk
  unfold knotB at hk
  rw [Bool.and_eq_true,beq_iff_eq] at hk
  exact h i (List.mem_range.1 hi) hk.1
 ·intro h
  have key:∀ d i,k.n - i≤d→i < k.n→(up k (nowS k noneB)).getD i 0≠0:=fun d=>by
   induction d with
   | zero=>exact fun i h1 h2=>by omega
   | succ d ih =>
    intro i h1 h2 h0
    refine h i (List.mem_range.2 h2) ?_
    unfold knotB
    rw [Bool.and_eq_true,beq_iff_eq,List.all_eq_true]
    refine ⟨h0,fun x hx=>?_⟩
    have:=fills_gt hok hx
    rw [bne_iff_ne]
    exact ih x (by omega) this.2
  exact fun i hi=>key _ i (Nat.le_refl _) hi
theorem mem_knots (k:Wk) (l:List Nat) {v:Nat} (hv:v < k.n):(v:Int)∈knotsTo k l k.n↔knotB k l v=true:=by
 unfold knotsTo
 constructor
 ·intro h
  obtain ⟨i,hi,he⟩:=List.mem_map.1 h
  obtain rfl:i=v:=by omega
  exact (List.mem_filter.1 hi).2
 ·intro h
  exact List.mem_map.2 ⟨v,List.mem_filter.2 ⟨List.mem_range.2 hv,h⟩,rfl⟩
end Go.Wg
namespace Go.Proofs.YtjjmefieegcddaaDoor
open Go.RowKit Go.Wg Go.Mm
variable {w:World} {V:View}
def fillsI (k:Wk) (v m:Nat):List Int:=((List.range m).filter fun j=>(k.v j).from_ == (v:Int)).map fun j:Nat=>(j:Int)
theorem fillsI_succ (k:Wk) (v m:Nat):fillsI k v (m+1)=if (k.v m).from_=(v:Int) then fillsI k v m ++ [(m:Int)] else fillsI k v m:=by
 unfold fillsI
 rw [List.range_succ,List.filter_append,List.map_append]
 by_cases h:(k.v m).from_=(v:Int)
 ·simp [h]
 ·simp [h]
theorem fillsI_len (k:Wk) (v m:Nat):(fillsI k v m).length≤m:=by
 unfold fillsI
 rw [List.length_map]
 have:=List.length_filter_le (fun j=>(k.v j).from_ == (v:Int)) (List.range m)
 rwa [List.length_range] at this
theorem fillsI_all (k:Wk) (v:Nat):fillsI k v k.n=(k.fills v).map fun j:Nat=>(j:Int):=rfl
theorem row_shape {w0:World} {X:List Nat} {L:List Ent} {v:Value} {t:TypeId} {s n:Nat} {xs:List Value} (h:St w0 X V (.row v t s n xs :: L) w):∃ a cap,v=.slice a n cap:=by
 rcases row_cases h with ⟨rfl,h0⟩ | ⟨g,cap,_,rfl,_⟩
 ·exact ⟨none,0,by rw [h0]⟩
 ·exact ⟨_,_,rfl⟩
set_option maxRecDepth 20000 in
set_option maxHeartbeats 4000000 in
theorem Fills_ok {vv rv:Value} {k:Wk} (hk:WkIn V vv rv k) (v:Nat) (hV:V.In w) :
  Calls Tryd.prog 36 #[.agg #[vv,rv],.int .i64 (v:Int)] w fun r w'=>∃ u,r=.returned u∧Kp w w'∧OwnInts w w' u (fillsI k v k.n):=by
 obtain ⟨va,vcap,rfl,hvc,hvm,hve⟩:=hk.ves.is
 obtain ⟨ra,rcap,rfl,hrc,hrm,hre⟩:=hk.rdg.is
 have hkn:=hk.small.1
 have hS:=St.start w V hV
 clear hk hre
 go_enter Tryd.func36,Tryd.ntmps36
 go_wp2_with ((with_reducible refine gB ?_);refine qboxd 2 rfl hS rfl rfl rfl ?_;refine ⟨_,za,?_⟩;clear hS;(try clear w');intro b2;intro a' hp;(try simp only [fr] at hp);subst hp;intro w' hS)
 replace hS:=hS.nilRow 3 1
 go_loopw [5,6] (fun sv iv wr=>∃ i:Nat,i≤k.n∧iv=.int .i64 (i:Int)∧sv.oneCell'=true∧St w [] V [.row sv 3 1 (fillsI k v i).length (intsC (fillsI k v i)),.blk b2 25 [.slice va k.n vcap,.slice ra k.rdg.length rcap]] wr) (fun _ iv _=>k.n - (intOf iv).toNat)
 case atStart=>exact ⟨0,by omega,rfl,rfl,hS⟩
 case round =>
  clear hS
  obtain ⟨i,hi,rfl,hone,hS⟩:=hrel
  by_cases hlt:i < k.n
  ·have h0:(0:Int)≤i:=by omega
   have h1:(i:Int) < k.n:=by omega
   obtain ⟨vg,vo,rfl,hvr⟩:=hve (by omega)
   have hcell0:=hvr i hlt 0 _ rfl
   have hcell:=hcell0
   simp only [Nat.add_zero] at hcell
   have HT:=fillsI_succ k v i
   have hll:=fillsI_len k v i
   generalize fillsI k v i=l at hS hll HT
   have hil:=intsC_len l
   generalize (k.v i).from_=f at hcell hcell0 HT
   clear hve hvr
   by_cases hf:f=(v:Int)
   ·subst hf
    rw [if_pos rfl] at HT
    replace HT:=mkHid HT
    go_wp2_with (first | (((with_reducible refine gL ?_);first | refine ql1 hS rfl rfl rfl ?_ | refine qv1 hS rfl rfl rfl ?_);refine ⟨_,zd,?_⟩;clear hS;(try clear w');intro a' hp;(try simp only [fr] at hp);subst hp;intro w' hS;(try simp only [sE] at hS)) | ((with_reducible refine gSl ?_);refine qbsl hS rfl rfl ?_;refine ⟨_,zq,zd,?_⟩;clear hS;(try clear w');intro _;intro a' hp;(try simp only [fr] at hp);subst hp;intro w' hS) | ((with_reducible refine gAp ?_);refine qap rfl rfl ?_;refine ⟨_,_,_,_,by exact rfl,by exact rfl,?_⟩;refine appG_of hS zd ?_;clear hS;(try clear w');intro va w' hS;intro a' hp;(try simp only [fr] at hp);subst hp;(try simp only [sE] at hS);have hva:=rowOne hS va))
    go_roundw
    case rel =>
     refine ⟨i+1,by omega,by go_num,hva,?_⟩
     rw [HT.out]
     have ei:intsC (l ++ [(i:Int)])=intsC l ++ [.int .i64 (i:Int)]:=by simp [intsC]
     simp only [ei,List.length_append,List.length_cons,List.length_nil,Nat.zero_add]
     exact hS.subI
    case measure=>simp only [intOf];omega
   ·rw [if_neg hf] at HT
    replace HT:=mkHid HT
    go_wp2_with (((with_reducible refine gL ?_);first | refine ql1 hS rfl rfl rfl ?_ | refine qv1 hS rfl rfl rfl ?_);refine ⟨_,zd,?_⟩;clear hS;(try clear w');intro a' hp;(try simp only [fr] at hp);subst hp;intro w' hS;(try simp only [sE] at hS))
    go_roundw
    case rel =>
     refine ⟨i+1,by omega,by go_num,hone,?_⟩
     rw [HT.out]
     exact hS.subI
    case measure=>simp only [intOf];omega
  ·obtain rfl:i=k.n:=by omega
   go_wp2_with (((with_reducible refine gL ?_);refine ql1 hS rfl rfl rfl ?_);refine ⟨_,zd,?_⟩;clear hS;(try clear w');intro a' hp;(try simp only [fr] at hp);subst hp;intro w' hS;(try simp only [sE] at hS))
   ((try simp only [Exit.inBlock,Exit.then]);(try refine bodyPost_norm ?_);refine ret_by ⟨_,by exact results1 (r1:=.tmp 4) (by kernel_rfl) (by exact rs_tmp rfl),?_⟩ rfl)
   exact ⟨_,rfl,hS.toKp,own_of hS (j:=0) rfl⟩
theorem num_hit {k:Wk} {v i:Nat} {N:List Int} (hN:N.length=k.n) (hi:i < k.n) (h:∀ j,j < i→N.getD j 0=numB k v j) {x:Int} (hx:x=numB k v i):∀ j,j < i+1→((N.set i (-1)).set i x).getD j 0=numB k v j:=fun j hj=>by
 rw [List.set_set,getD_set _ _ _ _ _ (by omega)]
 by_cases e:i=j
 ·subst e;rw [if_pos rfl,hx]
 ·rw [if_neg e];exact h j (by omega)
theorem num_miss {k:Wk} {v i:Nat} {N:List Int} (hN:N.length=k.n) (hi:i < k.n) (h:∀ j,j < i→N.getD j 0=numB k v j) (hx:inB k v i=false):∀ j,j < i+1→(N.set i (-1)).getD j 0=numB k v j:=fun j hj=>by
 rw [getD_set _ _ _ _ _ (by omega)]
 by_cases e:i=j
 ·subst e;rw [if_pos rfl];unfold numB;rw [hx];rfl
 ·rw [if_neg e];exact h j (by omega)
theorem numB_in {k:Wk} {v i:Nat} (h:inB k v i=true):numB k v i=(cB k v i:Int):=by
 unfold numB
 rw [if_pos h]
set_option maxRecDepth 40000 in
set_option maxHeartbeats 8000000 in
theorem Branch_ok {vv rv:Value} {k:Wk} (hk:WkIn V vv rv k) (hok:k.Ok) {v:Nat} (hv:v < k.n) (hV:V.In w) :
  Calls Tryd.prog 35 #[.agg #[vv,rv],.int .i64 (v:Int)] w fun e w'=>∃ vv' rv',e=.returned (.agg #[vv',rv']) ∧
   St w [] V [.row vv' 29 4 (k.branch v).n (vesC (k.branch v).ves),.row rv' 59 4 (k.branch v).rdg.length (rdgC (k.branch v).rdg)] w':=by
 obtain ⟨va,vcap,rfl,hvc,hvm,hve⟩:=hk.ves.is
 obtain ⟨ra,rcap,rfl,hrc,hrm,hre⟩:=hk.rdg.is
 obtain ⟨vg,vo,rfl,hvr⟩:=hve (by omega)
 have hn6:=hok.le
 have hr6:=hok.rdl
 have hS:=St.start w V hV
 clear hk hve
 go_enter Tryd.func35,Tryd.ntmps35
 go_wp2_with (first | (first | (((with_reducible refine gL ?_);refine ql1 hS rfl rfl rfl ?_);refine ⟨_,zd,?_⟩;clear hS;(try clear w');intro a' hp;(try simp only [fr] at hp);subst hp;intro w' hS;(try simp only [sE] at hS)) | ((with_reducible refine gB ?_);refine qboxd 2 rfl hS rfl rfl rfl ?_;refine ⟨_,za,?_⟩;clear hS;(try clear w');intro b2;intro a' hp;(try simp only [fr] at hp);subst hp;intro w' hS) | ((with_reducible refine gA ?_);refine qallocd 4 rfl hS rfl rfl ?_;clear hS;(try clear w');intro b4;intro a' hp;(try simp only [fr] at hp);subst hp;intro w' hS) | ((with_reducible refine gA ?_);refine qallocd 6 rfl hS rfl rfl ?_;clear hS;(try clear w');intro b6;intro a' hp;(try simp only [fr] at hp);subst hp;intro w' hS)) | ((with_reducible refine gMk ?_);refine qmk30 14 rfl hS rfl rfl rfl rfl (by omega) ?_;clear hS;(try clear w');intro b14;intro a' hp;(try simp only [fr] at hp);subst hp;intro w' hS))
 replace hS:=hS.nilRow 29 4
 have hN0:(List.replicate k.n (0:Int)).length=k.n:=List.length_replicate
 go_loopw [7] (fun iv wr=>∃ (i:Nat) (va:Value) (N:List Int),iv=.int .i64 (i:Int)∧i≤k.n∧N.length=k.n∧(∀ j,j < i→N.getD j 0=numB k v j) ∧
  St w [] V [.row va 29 4 (cB k v i) (vesC (vesBs k v i)),.blk b6 25 [va,.slice none 0 0],.blk b14 3 (intsC N),.blk b4 25 [.slice none 0 0,.slice none 0 0],.blk b2 25 [.slice (some ⟨vg,vo,none⟩) k.n vcap,.slice ra k.rdg.length rcap]] wr) (fun iv _=>k.n - (intOf iv).toNat)
 case atStart=>exact ⟨0,.slice none 0 0,_,rfl,by omega,hN0,(fun j hj=>absurd hj (by omega)),hS⟩
 case round =>
  clear hS hN0
  obtain ⟨i,va,N,rfl,hi,hNl,hN,hS⟩:=hrel
  by_cases hlt:i < k.n
  ·have h0:(0:Int)≤i:=by omega
   have h1:(i:Int) < k.n:=by omega
   have hcell:=hvr i hlt
   have hcl:(k.v i).cells.length=4:=rfl
   have hvi:=hok.ves i hlt
   have hfi:=hvi.2.1
   have hin:=inB_eq hok v hlt
   have hlN:(intsC N).length=k.n:=by rw [intsC_len,hNl]
   have hlN1:(intsC (N.set i (-1))).length=k.n:=ints_len hlN
   have hcB:=cB_succ k v i
   have hvB:=vesBs_succ k v i
   have hle:=cB_le k v i
   have hnh:=fun x hx=>num_hit (x:=x) hNl hlt hN hx
   have hnm:=num_miss hNl hlt hN
   have hnum:=numB_in (k:=k) (v:=v) (i:=i)
   have hvl:=vesBs_len k v i
   have hNf:∀ f,f < i→(intsC (N.set i (-1)))[f]? = some (.int .i64 (numB k v f)):=fun f hf=>by
    rw [intsL_at rfl (by rw [List.length_set];omega),getD_set _ _ _ _ _ (by omega),if_neg (by omega),hN f hf]
   have hneg:=fun f=>numB_neg k v f
   have hve':vesB k v i=⟨if i=v then -1 else numB k v (k.v i).from_.toNat,(k.v i).room,(k.v i).lo,(k.v i).hi⟩:=rfl
   have hf0:=hvi.1
   unfold Ves.cells at hcell
   obtain ⟨a0,cp,rfl⟩:=row_shape hS
   generalize vesBs k v i=O at hS hvB hvl
   generalize hc:cB k v i=c at hS hcB hle hnum hvl
   have hol:(vesC O).length=c * 4:=by rw [vesC,flat4_len _ (fun _=>rfl),hvl]
   clear hvi hN
   generalize (k.v i).from_=f at hcell hfi hin hve' hf0
   generalize (k.v i).room=ro at hcell hve'
   generalize (k.v i).lo=lo at hcell hve'
   generalize (k.v i).hi=hi' at hcell hve'
   by_cases hiv:i=v
   ·subst hiv
    have hb:inB k i i=true:=inB_self k i
    rw [if_pos hb] at hcB hvB
    rw [if_pos rfl] at hve'
    rw [hve'] at hvB
    have hnn:=hnh _ (hnum hb).symm
    replace hcB:=mkHid hcB;replace hvB:=mkHid hvB;replace hnn:=mkHid hnn;replace hc:=mkHid hc
    clear hnh hnm hnum hNf hneg hve' hin hb hfi hf0
    go_wp2_with (first | ((first | ((first | ((with_reducible refine gL ?_);first | refine ql1 hS rfl rfl rfl ?_ | refine qln hS rfl rfl rfl ?_ | refine qvn hS rfl rfl rfl ?_) | ((with_reducible refine gS ?_);first | refine qs1 hS rfl rfl rfl ?_ | refine qsall hS rfl rfl rfl ?_));refine ⟨_,zd,?_⟩;clear hS;(try clear w');intro a' hp;(try simp only [fr] at hp);subst hp;intro w' hS;(try simp only [sE] at hS)) | (((with_reducible refine gA ?_);refine qalloc hS rfl rfl ?_);clear hS;(try clear w');intro _;intro a' hp;(try simp only [fr] at hp);subst hp;intro w' hS));try (simp only [intsC_set] at hS)) | ((with_reducible refine gSl ?_);refine qraw hS rfl (run_bs22_1 (a:=⟨_,_,_,_⟩) rfl rfl) ?_;clear hS;(try clear w');intro _ a' hp;(try simp only [fr] at hp);subst hp;intro w' hS) | ((with_reducible refine gAp ?_);refine qap rfl rfl ?_;refine ⟨_,_,_,_,by exact rfl,by exact rfl,?_⟩;refine appG_of hS zd ?_;clear hS;(try clear w');intro va w' hS;intro a' hp;(try simp only [fr] at hp);subst hp;(try simp only [sE] at hS);have hva:=rowOne hS va))
    go_roundw
    case rel =>
     rw [vesC_app] at hS
     refine ⟨i+1,va,_,by go_num,by omega,by simp [hNl],hnn.out,?_⟩
     rw [hcB.out,hvB.out]
     exact hS.subI
    case measure=>simp only [intOf];omega
   ·have hiv':¬ ((i:Int)=(v:Int)):=by omega
    rw [if_neg hiv] at hve'
    by_cases hfr:f < 0
    ·have hb:inB k v i=false:=by rw [hin];simp [hiv];omega
     rw [hb,if_neg (by decide),Nat.add_zero] at hcB
     rw [hb,if_neg (by decide)] at hvB
     have hnn:=hnm hb
     replace hcB:=mkHid hcB;replace hvB:=mkHid hvB;replace hnn:=mkHid hnn;replace hc:=mkHid hc
     clear hnh hnm hnum hNf hneg hve' hin hb hfi hf0
     go_wp2_with ((first | ((first | ((with_reducible refine gL ?_);first | refine ql1 hS rfl rfl rfl ?_ | refine qvn hS rfl rfl rfl ?_) | ((with_reducible refine gS ?_);first | refine qs1 hS rfl rfl rfl ?_ | refine qsall hS rfl rfl rfl ?_));refine ⟨_,zd,?_⟩;clear hS;(try clear w');intro a' hp;(try simp only [fr] at hp);subst hp;intro w' hS;(try simp only [sE] at hS)) | (((with_reducible refine gA ?_);refine qalloc hS rfl rfl ?_);clear hS;(try clear w');intro _;intro a' hp;(try simp only [fr] at hp);subst hp;intro w' hS));try (simp only [intsC_set] at hS))
     go_roundw
     case rel =>
      refine ⟨i+1,.slice a0 c cp,N.set i (-1),by go_num,by omega,by simp [hNl],hnn.out,?_⟩
      rw [hcB.out,hvB.out]
      exact hS.subI
     case measure=>simp only [intOf];omega
    ·obtain ⟨fn,rfl⟩:∃ fn:Nat,f=(fn:Int):=⟨f.toNat,by omega⟩
     have hfi':fn < i:=by omega
     have hfk:(fn:Int) < k.n:=by omega
     have hf0':(0:Int)≤fn:=by omega
     have hcf:=hNf fn hfi'
     have hng:=hneg fn
     rw [Int.toNat_natCast] at hin hve'
     generalize numB k v fn=y at hcf hng hve'
     by_cases hy:y < 0
     ·have hb:inB k v i=false:=by rw [hin,hng.1 hy];simp [hiv]
      rw [hb,if_neg (by decide),Nat.add_zero] at hcB
      rw [hb,if_neg (by decide)] at hvB
      have hnn:=hnm hb
      replace hcB:=mkHid hcB;replace hvB:=mkHid hvB;replace hnn:=mkHid hnn;replace hc:=mkHid hc
      clear hnh hnm hnum hNf hneg hve' hin hb hfi hf0 hng
      go_wp2_with ((first | ((first | ((with_reducible refine gL ?_);first | refine ql1 hS rfl rfl rfl ?_ | refine qvn hS rfl rfl rfl ?_) | ((with_reducible refine gS ?_);first | refine qs1 hS rfl rfl rfl ?_ | refine qsall hS rfl rfl rfl ?_));refine ⟨_,zd,?_⟩;clear hS;(try clear w');intro a' hp;(try simp only [fr] at hp);subst hp;intro w' hS;(try simp only [sE] at hS)) | (((with_reducible refine gA ?_);refine qalloc hS rfl rfl ?_);clear hS;(try clear w');intro _;intro a' hp;(try simp only [fr] at hp);subst hp;intro w' hS));try (simp only [intsC_set] at hS))
      go_roundw
      case rel =>
       refine ⟨i+1,.slice a0 c cp,N.set i (-1),by go_num,by omega,by simp [hNl],hnn.out,?_⟩
       rw [hcB.out,hvB.out]
       exact hS.subI
      case measure=>simp only [intOf];omega
     ·have hb:inB k v i=true:=by
       rw [hin]
       have:inB k v fn=true:=by
        cases hh:inB k v fn
        ·exact absurd (hng.2 hh) hy
        ·rfl
       rw [this]
       simp
      rw [if_pos hb] at hcB hvB
      rw [hve'] at hvB
      have hnn:=hnh _ (hnum hb).symm
      replace hcB:=mkHid hcB;replace hvB:=mkHid hvB;replace hnn:=mkHid hnn;replace hc:=mkHid hc
      clear hnh hnm hnum hNf hneg hve' hin hb hfi hf0 hng
      go_wp2_with (first | ((first | ((first | ((with_reducible refine gL ?_);first | refine ql1 hS rfl rfl rfl ?_ | refine qln hS rfl rfl rfl ?_ | refine qvn hS rfl rfl rfl ?_) | ((with_reducible refine gS ?_);first | refine qs1 hS rfl rfl rfl ?_ | refine qsall hS rfl rfl rfl ?_));refine ⟨_,zd,?_⟩;clear hS;(try clear w');intro a' hp;(try simp only [fr] at hp);subst hp;intro w' hS;(try simp only [sE] at hS)) | (((with_reducible refine gA ?_);refine qalloc hS rfl rfl ?_);clear hS;(try clear w');intro _;intro a' hp;(try simp only [fr] at hp);subst hp;intro w' hS));try (simp only [intsC_set] at hS)) | ((with_reducible refine gSl ?_);refine qraw hS rfl (run_bs22_1 (a:=⟨_,_,_,_⟩) rfl rfl) ?_;clear hS;(try clear w');intro _ a' hp;(try simp only [fr] at hp);subst hp;intro w' hS) | ((with_reducible refine gAp ?_);refine qap rfl rfl ?_;refine ⟨_,_,_,_,by exact rfl,by exact rfl,?_⟩;refine appG_of hS zd ?_;clear hS;(try clear w');intro va w' hS;intro a' hp;(try simp only [fr] at hp);subst hp;(try simp only [sE] at hS);have hva:=rowOne hS va))
      go_roundw
      case rel =>
       rw [vesC_app] at hS
       refine ⟨i+1,va,_,by go_num,by omega,by simp [hNl],hnn.out,?_⟩
       rw [hcB.out,hvB.out]
       exact hS.subI
      case measure=>simp only [intOf];omega
  ·obtain rfl:i=k.n:=by omega
   have hva:=rowOne hS va
   have hm:=fun r hr=>rdg_mem hok r hr
   have hlN:(intsC N).length=k.n:=by rw [intsC_len,hNl]
   have hcN:∀ j,j < k.n→(intsC N)[j]? = some (.int .i64 (numB k v j)):=fun j hj=>by
    rw [intsL_at rfl (by omega),hN j hj]
   clear hlt hi hN hvr
   replace hS:=hS.nilRow 59 4
   go_wp2_with (((with_reducible refine gL ?_);refine ql1 hS rfl rfl rfl ?_);refine ⟨_,zd,?_⟩;clear hS;(try clear w');intro a' hp;(try simp only [fr] at hp);subst hp;intro w' hS;(try simp only [sE] at hS))
   go_loopw [9] (fun iv wr=>∃ (q:Nat) (ru:Value),iv=.int .i64 (q:Int)∧q≤k.rdg.length ∧
    St w [] V [.row ru 59 4 (rdgBs k v q).length (rdgC (rdgBs k v q)),.row va 29 4 (cB k v k.n) (vesC (vesBs k v k.n)),.blk b6 25 [va,ru],.blk b14 3 (intsC N),.blk b4 25 [.slice none 0 0,.slice none 0 0],.blk b2 25 [.slice (some ⟨vg,vo,none⟩) k.n vcap,.slice ra k.rdg.length rcap]] wr) (fun iv _=>k.rdg.length - (intOf iv).toNat)
   case atStart=>exact ⟨0,.slice none 0 0,rfl,by omega,hS⟩
   case round =>
    clear hS
    obtain ⟨q,ru,rfl,hq,hS⟩:=hrel
    by_cases hlt:q < k.rdg.length
    ·have h0:(0:Int)≤q:=by omega
     have h1:(q:Int) < k.rdg.length:=by omega
     obtain ⟨rg,rx,rfl,hrr⟩:=hre (by omega)
     have hcell:=hrr q hlt
     have hcl:(k.rdg.getD q default).cells.length=4:=rfl
     have hmr:=hm (k.rdg.getD q default) (by
      rw [List.getD_eq_getElem?_getD,List.getElem?_eq_getElem hlt]
      exact List.getElem_mem hlt)
     have hsu:=rdgBs_succ k v hlt
     have hrB:rdgB k v (k.rdg.getD q default)=⟨numB k v (k.rdg.getD q default).vessel.toNat,(k.rdg.getD q default).scale,(k.rdg.getD q default).shown,(k.rdg.getD q default).err⟩:=rfl
     rw [hrB] at hsu
     have hll:=rdgBs_len k v q
     unfold Rdg.cells at hcell
     generalize rdgBs k v q=O at hS hsu hll
     have hol:(rdgC O).length=O.length * 4:=by rw [rdgC,flat4_len _ (fun _=>rfl)]
     clear hrB hrr hre hm
     generalize (k.rdg.getD q default).vessel=f at hcell hsu hmr
     generalize (k.rdg.getD q default).scale=sc at hcell hsu
     generalize (k.rdg.getD q default).shown=sh at hcell hsu
     generalize (k.rdg.getD q default).err=er at hcell hsu
     obtain ⟨hm0,hm1⟩:=hmr
     obtain ⟨fn,rfl⟩:∃ fn:Nat,f=(fn:Int):=⟨f.toNat,by omega⟩
     have hcf:=hcN fn (by omega)
     have hng:=numB_neg k v fn
     rw [Int.toNat_natCast] at hsu
     generalize numB k v fn=y at hcf hng hsu
     by_cases hy:0≤y
     ·have hb:inB k v fn=true:=by
       cases hh:inB k v fn
       ·have:=hng.2 hh;omega
       ·rfl
      rw [if_pos hb] at hsu
      replace hsu:=mkHid hsu
      clear hng hb hcN
      go_wp2_with (first | (first | ((first | ((with_reducible refine gL ?_);first | refine ql1 hS rfl rfl rfl ?_ | refine qln hS rfl rfl rfl ?_ | refine qvn hS rfl rfl rfl ?_) | ((with_reducible refine gS ?_);first | refine qs1 hS rfl rfl rfl ?_ | refine qsall hS rfl rfl rfl ?_));refine ⟨_,zd,?_⟩;clear hS;(try clear w');intro a' hp;(try simp only [fr] at hp);subst hp;intro w' hS;(try simp only [sE] at hS)) | (((with_reducible refine gA ?_);refine qalloc hS rfl rfl ?_);clear hS;(try clear w');intro _;intro a' hp;(try simp only [fr] at hp);subst hp;intro w' hS)) | ((with_reducible refine gSl ?_);refine qraw hS rfl (run_bs23_1 (a:=⟨_,_,_,_⟩) rfl rfl) ?_;clear hS;(try clear w');intro _ a' hp;(try simp only [fr] at hp);subst hp;intro w' hS) | ((with_reducible refine gAp ?_);refine qap rfl rfl ?_;refine ⟨_,_,_,_,by exact rfl,by exact rfl,?_⟩;refine appG_of hS zd ?_;clear hS;(try clear w');intro va w' hS;intro a' hp;(try simp only [fr] at hp);subst hp;(try simp only [sE] at hS);have hva:=rowOne hS va))
      go_roundw
      case rel =>
       rw [rdgC_app] at hS
       refine ⟨q+1,va,by go_num,by omega,?_⟩
       rw [hsu.out,List.length_append]
       exact hS.subI
      case measure=>simp only [intOf];omega
     ·have hb:inB k v fn=false:=hng.1 (by omega)
      rw [hb,if_neg (by decide)] at hsu
      replace hsu:=mkHid hsu
      clear hng hb hcN
      go_wp2_with (first | ((first | ((with_reducible refine gL ?_);first | refine ql1 hS rfl rfl rfl ?_ | refine qvn hS rfl rfl rfl ?_) | ((with_reducible refine gS ?_);refine qsall hS rfl rfl rfl ?_));refine ⟨_,zd,?_⟩;clear hS;(try clear w');intro a' hp;(try simp only [fr] at hp);subst hp;intro w' hS;(try simp only [sE] at hS)) | (((with_reducible refine gA ?_);refine qalloc hS rfl rfl ?_);clear hS;(try clear w');intro _;intro a' hp;(try simp only [fr] at hp);subst hp;intro w' hS))
      go_roundw
      case rel =>
       refine ⟨q+1,ru,by go_num,by omega,?_⟩
       rw [hsu.out]
       exact hS.subI
      case measure=>simp only [intOf];omega
    ·obtain rfl:q=k.rdg.length:=by omega
     have hone2:∀ u∈[va,ru],u.oneCell'=true:=two_one hva (rowOne hS ru)
     go_wp2_with ((first | ((with_reducible refine gL ?_);first | refine ql1 hS rfl rfl rfl ?_ | refine qln hS rfl rfl rfl ?_) | ((with_reducible refine gS ?_);refine qsall hS rfl rfl rfl ?_));refine ⟨_,zd,?_⟩;clear hS;(try clear w');intro a' hp;(try simp only [fr] at hp);subst hp;intro w' hS;(try simp only [sE] at hS))
     ((try simp only [Exit.inBlock,Exit.then]);(try refine bodyPost_norm ?_);refine ret_by ⟨_,by exact results1 (r1:=.cell 4 25) (by kernel_rfl) (by exact rs_n hS rfl zd),?_⟩ rfl)
     refine ⟨va,ru,rfl,?_⟩
     rw [branch_n]
     have h1:St w [] V [.row ru 59 4 (rdgBs k v k.rdg.length).length (rdgC (rdgBs k v k.rdg.length)),.row va 29 4 (cB k v k.n) (vesC (vesBs k v k.n))] _:=hS.subI
     exact h1.perm (List.Perm.swap _ _ _)
end Go.Proofs.YtjjmefieegcddaaDoor
namespace Go.Proofs.YtjjmefieegcddaaDoor
open Go.RowKit Go.Wg Go.Mm Go.Wk
open Go Go.Sr Go.Ph Go.Tm Go.Conc
variable {w:World} {V:View}
end Go.Proofs.YtjjmefieegcddaaDoor
namespace Go.Proofs.YtjjmefieegcddaaDoor
open Go.RowKit Go.Wg Go.Mm Go.Wk
open Go Go.Sr Go.Ph Go.Tm Go.Conc
variable {w:World} {V:View}
def MapS (w:World) (b n:Nat) (l:List Nat):Prop :=
 ∃ D:DataW Nat,Go.Maps.IsMap D∧w.ownsMap Tryd.prog 95 (plainElem Tryd.prog 4) b n D∧∀ m:Nat,m < 18446744073709551616→D.atKey (.int .u64 (m:Int)) (.lit (.bool false))=.lit (.bool (l.contains m))
theorem u64_wf {m:Nat} (h:m < 18446744073709551616):(Lit.int .u64 (m:Int)).wf=true:=by
 simp [Lit.wf,IntKind.min,IntKind.max,IntKind.bits,IntKind.signed]
 omega
theorem key95 {m:Nat} (h:m < 18446744073709551616):keyOf Tryd.prog 95 (.int .u64 (m:Int))=some (.int .u64 (m:Int)):=Go.Maps.keyOf_int_mk Tryd.underlying95 (u64_wf h)
theorem MapS.made (w:World):MapS (w.alloc (.map #[] 0)) w.heap.size 0 [] :=
 ⟨.map [],Go.Maps.isMap_empty,World.ownsMap_made w _ _ _,fun m _=>rfl⟩
theorem MapS.of_heap {w w':World} {b n:Nat} {l:List Nat} (h:MapS w b n l) (hb:w'.heap[b]? = w.heap[b]?):MapS w' b n l:=by
 obtain ⟨D,h1,⟨es,clock,h2,h3,h4,h5⟩,h6⟩:=h
 exact ⟨D,h1,⟨es,clock,hb.trans h2,h3,h4,h5⟩,h6⟩
theorem MapS.lt {b n:Nat} {l:List Nat} (h:MapS w b n l):b < w.heap.size:=by
 obtain ⟨D,_,h,_⟩:=h
 exact h.lt
theorem MapS.obj {b n:Nat} {l:List Nat} (h:MapS w b n l):∃ es clock,w.heap[b]? = some (.map es clock):=by
 obtain ⟨D,_,⟨es,clock,h,_⟩,_⟩:=h
 exact ⟨es,clock,h⟩
theorem zero4 (w:World):(zeroValue 4).run Tryd.prog w=.ok (.bool false) w:=by
 have hi:(Tryd.prog.info? 4).bind (·.zero)=some (.bool false):=by kernel_rfl
 cases hq:Tryd.prog.info? 4 with
 | none=>rw [hq] at hi;cases hi
 | some i =>
  rw [hq] at hi
  have hz:i.zero=some (.bool false):=by simpa using hi
  simp [Go.zeroValue,Go.typeInfo,hq,hz]
theorem bool_inv {P:Program} {e:TypeId} (he:P.underlying e=some .bool) {v:Value} {x:Bool} {ps:List MemPlace} (h:plainElem (H:=Nat) P e v=some (.lit (.bool x),ps)):v=.bool x:=by
 unfold plainElem at h
 rw [he] at h
 cases v <;> simp at h
 rw [h.1]
theorem MapS.look {b n:Nat} {l:List Nat} (h:MapS w b n l) {m:Nat} (hm:m < 18446744073709551616):(Instr.lookup 134 (.map (some b)) (.int .u64 (m:Int)) false).run Tryd.prog w=.ok (.bool (l.contains m)) w:=by
 obtain ⟨D,h1,h2,h3⟩:=h
 obtain ⟨v,ps,hr,hv⟩:=h2.lookup (Go.Maps.int_keyed Tryd.underlying95) Tryd.underlying134 (zero4 w) (plainElem_bool Tryd.underlying4 false) (key95 hm)
 rw [h3 m hm] at hv
 have e:v=.bool (l.contains m):=bool_inv Tryd.underlying4 hv
 subst e
 exact hr
theorem MapS.put {b n:Nat} {l:List Nat} (h:MapS w b n l) {m:Nat} (hm:m < 18446744073709551616) (hn:n < 1000000):∃ w',(Instr.mapUpdate 134 (.map (some b)) (.int .u64 (m:Int)) (.bool true)).run Tryd.prog w=.ok () w'∧MapS w' b (n+1) (m :: l)∧w.grownBy w' (some b):=by
 obtain ⟨D,h1,h2,h3⟩:=h
 obtain ⟨w',hr,ho,hg⟩:=h2.update (Go.Maps.int_keyed Tryd.underlying95) Tryd.underlying134 (Nat.lt_trans hn (by decide)) (key95 hm) (plainElem_bool Tryd.underlying4 true)
 refine ⟨w',hr,⟨D.put (.int .u64 (m:Int)) (.lit (.bool true)),?_,ho,fun m' hm'=>?_⟩,hg⟩
 ·obtain ⟨es,rfl⟩:=h1
  exact ⟨_,rfl⟩
 ·by_cases e:m'=m
  ·subst e
   rw [Go.Maps.atKey_put_same h1 (by simp [Go.WideAt.IsKeyLit])]
   simp
  ·rw [Go.Maps.atKey_put_other (by
    intro h
    simp only [Lit.int.injEq,true_and] at h
    exact e (by omega)),h3 m' hm']
   simp [e]
theorem run_makeMap134 {o:Oper} {ρ:Operand→Value} (ho:o.op=.makeMap 134 none) (w:World):(execOp ρ o).run Tryd.prog w=.ok (.value (.map (some w.heap.size))) (w.alloc (.map #[] 0)):=by
 unfold execOp
 simp [ho,Instr.makeMap,Tryd.underlying134]
set_option maxRecDepth 20000 in
theorem size_ok' (a:Int × Int) (h:Pb 100000000000 a) (w:World) :
  Calls Tryd.prog 98 #[spanV a] w fun r w'=>r=.returned (.int .i64 (sizeS a))∧Kp w w':=by
 unfold Pb at h
 unfold sizeS
 obtain ⟨a1,a2⟩:=a
 simp only at h
 obtain ⟨h1,h2,h3,h4⟩:=h
 have hS:=St.start w (fun _=>none) (fun k o h=>by cases h)
 unfold spanV
 go_enter Tryd.func98,Tryd.ntmps98
 go_wp2_with (first | (((with_reducible refine gL ?_);refine ql1 hS rfl rfl rfl ?_);refine ⟨_,zd,?_⟩;clear hS;(try clear w');intro a' hp;(try simp only [fr] at hp);subst hp;intro w' hS;(try simp only [sE] at hS)) | (((with_reducible refine gB ?_);refine qbox hS rfl rfl rfl ?_;refine ⟨_,za,?_⟩);clear hS;(try clear w');intro _;intro a' hp;(try simp only [fr] at hp);subst hp;intro w' hS))
 go_ret
 exact ⟨rfl,hS.toKp⟩
theorem totalS_bd (k:Wk) (hk:k.n≤6) (s:SS) (st:Bool) (hlo:∀ i,0≤(s.losAt i).1):Pb 70589400 (totalS k s st):=by
 rw [totalS_sum]
 have h:=sumS_bd (l:=k.sources.map (foundS k s st)) (c:=11764900) (fun x hx=>by
  obtain ⟨i,_,rfl⟩:=List.mem_map.1 hx
  exact foundS_bd k hk s st hlo i)
 refine h.mono ?_
 have:=Nat.le_trans (srcTo_len k k.n) hk
 rw [List.length_map]
 have e:k.sources.length≤6:=this
 omega
end Go.Proofs.YtjjmefieegcddaaDoor
namespace Go.Proofs.YtjjmefieegcddaaDoor
open Go.RowKit Go.Wg Go.Mm Go.Wk
open Go Go.Sr Go.Ph Go.Tm Go.Conc
variable {w:World} {V:View} {DS:List Deferred}
noncomputable def B43:Code:=match Tryd.f43.body with | some c=>c | none=>.skip
noncomputable def N5:Code:=match B43 with | .seq _ (.seq _ (.seq _ (.seq _ r)))=>r | _=>.skip
noncomputable def N8:Code:=match N5 with | .seq _ (.seq _ r)=>r | _=>.skip
noncomputable def ops8:Array Oper:=match N8 with | .seq (.region _ o _) _=>o | _=>#[]
noncomputable def N9:Code:=match N8 with | .seq _ r=>r | _=>.skip
noncomputable def NL1:Code:=match N9 with | .seq (.seq _ (.block _ (.loop l))) _=>l | _=>.skip
noncomputable def NK:Code:=match N9 with | .seq _ r=>r | _=>.skip
noncomputable def NB1:Code:=match NL1 with | .seq _ (.seq _ (.seq (.block _ b) _))=>b | _=>.skip
noncomputable def NR25:Code:=match NL1 with | .seq _ (.seq _ (.seq _ r))=>r | _=>.skip
noncomputable def N15:Code:=match NB1 with | .seq _ (.seq _ (.seq _ (.seq _ r)))=>r | _=>.skip
noncomputable def NL2:Code:=match N15 with | .seq (.seq _ (.block _ (.loop l))) _=>l | _=>.skip
noncomputable def NQ:Code:=match N15 with | .seq _ r=>r | _=>.skip
noncomputable def NR17:Code:=match NL2 with | .seq _ (.seq _ r)=>r | _=>.skip
noncomputable def ops22:Array Oper:=match NL2 with | .seq _ (.seq (.block _ (.seq _ (.seq _ (.seq _ (.seq _ (.region _ o _)))))) _)=>o | _=>#[]
noncomputable def nat8 (l:List Nat):List Item:=[.inRegion ops8 l,.code N9]
noncomputable def nhead1:List Item:=[.code NL1,.inLoop NL1,.inBlock 0,.code NK]
noncomputable def ntail:List Item:=[.inBlock 2,.code NQ,.inBlock 1,.code NR25,.inLoop NL1,.inBlock 0,.code NK]
noncomputable def nhead2:List Item:=.code NL2 :: .inLoop NL2 :: ntail
noncomputable def nat22 (l:List Nat):List Item:=.inRegion ops22 l :: .inBlock 3 :: .code NR17 :: .inLoop NL2 :: ntail
def tmN (v1 v6 v7 v8 v9 v10 v11 v12 v13 v14 v15 v37 v38:Value) (f:Nat→Value):Array Value :=
 #[f 0,v1,f 2,f 3,f 4,f 5,v6,v7,v8,v9,v10,v11,v12,v13,v14,v15,f 16,f 17,f 18,f 19,f 20,f 21,f 22,f 23,f 24,f 25,f 26,f 27,f 28,f 29,f 30,f 31,f 32,f 33,f 34,f 35,f 36,v37,v38,f 39,f 40,f 41,f 42,f 43,f 44,f 45,f 46,f 47,f 48,f 49,f 50,f 51,f 52,f 53,f 54,f 55,f 56,f 57,f 58,f 59,f 60,f 61,f 62,f 63,f 64,f 65,f 66,f 67,f 68,f 69,f 70,f 71,f 72,f 73,f 74,f 75,f 76,f 77,f 78,f 79,f 80,f 81,f 82,f 83,f 84,f 85,f 86,f 87,f 88,f 89,f 90,f 91,f 92,f 93,f 94,f 95,f 96,f 97,f 98,f 99,f 100,f 101,f 102,f 103,f 104,f 105]
theorem tmN_of {a:Act} {v1 v6 v7 v8 v9 v10 v11 v12 v13 v14 v15 v37 v38:Value} {ds:List Deferred} (h:a=⟨tmN v1 v6 v7 v8 v9 v10 v11 v12 v13 v14 v15 v37 v38 (fun j=>a.tmps.getD j undef),ds⟩):∃ f,a=⟨tmN v1 v6 v7 v8 v9 v10 v11 v12 v13 v14 v15 v37 v38 f,ds⟩:=⟨_,h⟩
structure NX (V:View) (p:Nat) (k:Wk) (D:List Nat) (b8:Nat) (s:SS):Prop where
 cel:Cellar V p k
 gv:GV V
 cl:Closed V D
 pD:p∈D
 s8:V.Range b8 0 (stC s)
set_option maxRecDepth 20000 in
set_option maxHeartbeats 4000000 in
theorem next_start (vv rv:Value) (k:Wk) (hk:WkIn V vv rv k) (hG:GV V) (hV:V.In w) (err:Int) (hb:beginE k []=0) (ho:outB err 0 9=false) (hst:Go.Wg.settle k (nowS k noneB)=none) :
  Rch Tryd.prog (nat8 [2,3,4,5]) (fun a w'=>∃ p V' D b6 b8,((∃ f,a=⟨tmN (.int .i64 err) (ptr b6) (ptr p) (ptr b8) undef undef undef undef undef undef undef undef undef f,[dC b6]⟩)∧a.tmps[29]? = some (ptr p)∧a.tmps[30]? = some (.agg (stC (nowS k noneB)).toArray)) ∧
    NX V' p k D b8 (nowS k noneB)∧St w [] V' [.blk b6 38 [.int .i64 0]] w')
   [.code B43] { tmps:=#[.agg #[vv,rv],.int .i64 err] ++ Array.replicate 104 undef,defers:=[] } w:=by
 have hk0:=hk
 obtain ⟨va,vcap,rfl,hvc,hvm,hve⟩:=hk0.ves.is
 obtain ⟨ra,rcap,rfl,hrc,hrm,hre⟩:=hk0.rdg.is
 have hS:=St.start w V hV
 clear hk0 hve hre
 have hok:=beginE_check hb
 have hcan:can k (nowS k noneB)=true:=by unfold can;rw [hst];rfl
 have HL:(stC (nowS k noneB)).length=18:=stC_len (nowS_wf _ _)
 replace hst:=mkHid hst;replace hcan:=mkHid hcan;replace hb:=mkHid hb
 simp only [Array.replicate_succ,Array.replicate_zero,List.push_toArray,List.append_toArray,List.nil_append,List.cons_append]
 unfold ptr
 refine rch_seq (rch_code ?_)
 go_wp2_with (first | ((with_reducible refine gA ?_);refine qallocd 6 rfl hS rfl rfl ?_;clear hS;(try clear w');intro b6;intro a' hp;(try simp only [fr] at hp);subst hp;intro w' hS) | (((with_reducible refine gB ?_);refine qbox hS rfl rfl rfl ?_;refine ⟨_,za,?_⟩);clear hS;(try clear w');intro _;intro a' hp;(try simp only [fr] at hp);subst hp;intro w' hS))
 refine rch_seq (rch_code ?_)
 go_wp2_with (fail)
 refine rch_seq (rch_code ?_)
 go_wp2_with (first | ((first | ((with_reducible refine gL ?_);refine qln hS rfl rfl rfl ?_) | ((with_reducible refine gS ?_);refine qs1 hS rfl rfl rfl ?_));refine ⟨_,zd,?_⟩;clear hS;(try clear w');intro a' hp;(try simp only [fr] at hp);subst hp;intro w' hS;(try simp only [sE] at hS)) | (go_at_call 77;refine calls_beginD hS hk nilSl (by simp) hb.out ?_;clear hS;(try clear w');intro p V' w' D hVV hcel hD hpD hS;have hG':GV V':=hG.mono hVV))
 refine rch_seq (rch_seq (rch_code ?_))
 go_wp2_with (((with_reducible refine gL ?_);refine ql1 hS rfl rfl rfl ?_);refine ⟨_,zd,?_⟩;clear hS;(try clear w');intro a' hp;(try simp only [fr] at hp);subst hp;intro w' hS;(try simp only [sE] at hS))
 refine rch_cond (t:=false) rfl (rch_skip ?_)
 refine rch_seq (rch_seq (rch_code ?_))
 go_wp2_with (go_at_call 88;refine calls_by hS ⟨_,outside_ok' _ _ _ _,?_⟩;rw [ho];clear hS;(try clear w');intro w' hS)
 refine rch_cond (t:=false) rfl (rch_skip ?_)
 refine rch_seq (rch_code ?_)
 go_wp2_with (first | (first | (((with_reducible refine gS ?_);refine qsall hS rfl rfl rfl ?_);refine ⟨_,zd,?_⟩;clear hS;(try clear w');intro a' hp;(try simp only [fr] at hp);subst hp;intro w' hS;(try simp only [sE] at hS)) | ((with_reducible refine gA ?_);refine qallocd 8 rfl hS rfl rfl ?_;clear hS;(try clear w');intro b8;intro a' hp;(try simp only [fr] at hp);subst hp;intro w' hS)) | (go_at_call 83;refine calls_by hS ⟨_,must_ok V' p k hcel hok hcan.out _ (St.view hS),?_⟩;clear hS;(try clear w');intro w' hS))
 obtain ⟨V1,hV1,hcell,hS'⟩:=pin hS
 clear hS
 have hS:=hS'
 clear hS'
 have hr8:V1.Range b8 0 (stC (nowS k noneB)):=fun j v hj=>by rw [Nat.zero_add];exact hcell j v hj
 refine rch_seq (rch_region ?_)
 refine rch_op (i:=0) (v:=.pointer (some ⟨p,0,none⟩)) (w':=w') rfl rfl rfl ?_
 refine rch_op (i:=1) rfl rfl (run_loadn (n:=18) rfl rfl RowT.ok HL (hr8.range hS.view)) ?_
 exact rch_here (tgt:=nat8 [2,3,4,5]) ⟨p,V1,D,b6,b8,⟨tmN_of rfl,rfl,rfl⟩,⟨by obtain ⟨ts,x,y,hc⟩:=hcel;exact ⟨ts,x,y,hc.mono hV1⟩,hG'.mono hV1,closed_mono hD hV1,hpD,hr8⟩,hS.sub (List.Sublist.cons_cons _ (List.Sublist.cons _ (List.Sublist.refl _)))⟩
set_option maxRecDepth 20000 in
set_option maxHeartbeats 4000000 in
theorem next1 {p:Nat} {k:Wk} {D:List Nat} {b8:Nat} {s:SS} (hX:NX V p k D b8 s) (v1 v6 v8 v9 v10 v11 v12 v13 v14 v15 v37 v38:Value) (f:Nat→Value) (r:Int × Int) (hr:Pb 100000000000 r) (h31:f 31=spanV r) (hV:V.In w) :
  Rch Tryd.prog nhead1 (fun a w'=>(∃ f,a=⟨tmN v1 v6 (ptr p) v8 (.int .i64 (-1)) (.int .i64 (sizeS r)) v11 v12 v13 v14 v15 (.int .i64 k.n) (.int .i64 0) f,DS⟩)∧Kp w w')
   (nat8 [3,4,5]) ⟨tmN v1 v6 (ptr p) v8 v9 v10 v11 v12 v13 v14 v15 v37 v38 f,DS⟩ w:=by
 obtain ⟨ts,vv,rv,hC⟩:=hX.cel
 obtain ⟨g,cap,hc2,hts⟩:=hC.c2
 have hn0:=hC.pos
 have hn6:=hC.le
 have hS:=St.start w V hV
 rw [show tmN v1 v6 (ptr p) v8 v9 v10 v11 v12 v13 v14 v15 v37 v38 f=#[f 0,v1,f 2,f 3,f 4,f 5,v6,.pointer (some ⟨p,0,none⟩),v8,v9,v10,v11,v12,v13,v14,v15,f 16,f 17,f 18,f 19,f 20,f 21,f 22,f 23,f 24,f 25,f 26,f 27,f 28,f 29,f 30,spanV r,f 32,f 33,f 34,f 35,f 36,v37,v38,f 39,f 40,f 41,f 42,f 43,f 44,f 45,f 46,f 47,f 48,f 49,f 50,f 51,f 52,f 53,f 54,f 55,f 56,f 57,f 58,f 59,f 60,f 61,f 62,f 63,f 64,f 65,f 66,f 67,f 68,f 69,f 70,f 71,f 72,f 73,f 74,f 75,f 76,f 77,f 78,f 79,f 80,f 81,f 82,f 83,f 84,f 85,f 86,f 87,f 88,f 89,f 90,f 91,f 92,f 93,f 94,f 95,f 96,f 97,f 98,f 99,f 100,f 101,f 102,f 103,f 104,f 105] from by unfold tmN ptr;rw [h31]]
 refine rch_call (i:=3) rfl rfl (run_call_body rfl Tryd.func98 (by kernel_rfl) rfl) ?_
 simp only [List.map_toArray,List.map_cons,List.map_nil]
 show Calls Tryd.prog 98 #[spanV r] w _
 refine (size_ok' r hr w).mono ?_
 rintro e w2 ⟨rfl,hkp⟩
 refine ⟨_,rfl,?_⟩
 replace hS:=hS.kp hkp
 refine rch_op (i:=4) (v:=.int .i64 (-1)) (w':=w2) rfl rfl rfl ?_
 refine rch_op (i:=5) (v:=.int .i64 (sizeS r)) (w':=w2) rfl rfl rfl ?_
 refine rch_region_end ?_
 show Rch Tryd.prog nhead1 _ _ ⟨#[f 0,v1,f 2,f 3,f 4,f 5,v6,.pointer (some ⟨p,0,none⟩),v8,.int .i64 (-1),.int .i64 (sizeS r),v11,v12,v13,v14,v15,f 16,f 17,f 18,f 19,f 20,f 21,f 22,f 23,f 24,f 25,f 26,f 27,f 28,f 29,f 30,spanV r,.int .i64 (sizeS r),f 33,f 34,f 35,f 36,v37,v38,f 39,f 40,f 41,f 42,f 43,f 44,f 45,f 46,f 47,f 48,f 49,f 50,f 51,f 52,f 53,f 54,f 55,f 56,f 57,f 58,f 59,f 60,f 61,f 62,f 63,f 64,f 65,f 66,f 67,f 68,f 69,f 70,f 71,f 72,f 73,f 74,f 75,f 76,f 77,f 78,f 79,f 80,f 81,f 82,f 83,f 84,f 85,f 86,f 87,f 88,f 89,f 90,f 91,f 92,f 93,f 94,f 95,f 96,f 97,f 98,f 99,f 100,f 101,f 102,f 103,f 104,f 105],DS⟩ w2
 generalize sizeS r=sz
 generalize spanV r=sv
 refine rch_seq (rch_seq (rch_code ?_))
 go_wp2_with (((with_reducible refine gL ?_);refine qv1 hS rfl rfl rfl ?_);refine ⟨_,zd,?_⟩;clear hS;(try clear w');intro a' hp;(try simp only [fr] at hp);subst hp;intro w' hS;(try simp only [sE] at hS))
 refine rch_block (rch_loop ?_)
 exact rch_here (tgt:=nhead1) ⟨tmN_of rfl,hS.toKp⟩
end Go.Proofs.YtjjmefieegcddaaDoor
namespace Go.Proofs.YtjjmefieegcddaaDoor
open Go.RowKit Go.Wg Go.Mm Go.Wk
open Go Go.Sr Go.Ph Go.Tm Go.Conc
variable {w:World} {V:View} {DS:List Deferred}
set_option maxRecDepth 20000 in
set_option maxHeartbeats 4000000 in
theorem next2 {p:Nat} {k:Wk} {D:List Nat} {b8:Nat} {s:SS} (hX:NX V p k D b8 s) (hs:s.WF) (err:Int) (he0:0≤err) (he9:err≤9) (i:Nat) (hi:i < k.n) (v6 v9 v10 v11 v12 v13 v14 v15:Value) (f:Nat→Value) (hV:V.In w) :
  Rch Tryd.prog nhead2 (fun a w'=>∃ mb b14,(∃ f,a=⟨tmN (.int .i64 err) v6 (ptr p) (ptr b8) v9 v10 (.int .i64 i) (.int .i64 0) (.map (some mb)) (ptr b14) (.int .i64 ((weightS k s i).1 - err)) (.int .i64 k.n) (.int .i64 i) f,DS⟩) ∧
    Kp w w'∧MapS w' mb 0 []∧w.heap.size≤mb∧w.heap.size≤b14∧w'.heap[b14]? = some (.cells #[.int .i64 (weightS k s i).1,.int .i64 (weightS k s i).2] 27 (0,0)))
   nhead1 ⟨tmN (.int .i64 err) v6 (ptr p) (ptr b8) v9 v10 v11 v12 v13 v14 v15 (.int .i64 k.n) (.int .i64 i) f,DS⟩ w:=by
 have hn6:k.n≤6:=by obtain ⟨ts,x,y,hc⟩:=hX.cel;exact hc.le
 have HL:(stC s).length=18:=stC_len hs
 have h0:(0:Int)≤i:=by omega
 have h1:(i:Int) < k.n:=by omega
 have h6:i < 6:=by omega
 have hr8:=hX.s8
 have hwb:=weightTo_bd k s i 41 (Nat.le_refl _)
 have hwk:=fun (w1:World) (hV1:V.In w1)=>weight_ok V p k hX.cel hX.gv s hs i h6 w1 hV1
 rw [show weightTo k s i 41=weightS k s i from rfl] at hwb
 generalize weightS k s i=r at hwb hwk ⊢
 have hS:=St.start w V hV
 rw [show tmN (.int .i64 err) v6 (ptr p) (ptr b8) v9 v10 v11 v12 v13 v14 v15 (.int .i64 k.n) (.int .i64 i) f=#[f 0,.int .i64 err,f 2,f 3,f 4,f 5,v6,.pointer (some ⟨p,0,none⟩),.pointer (some ⟨b8,0,none⟩),v9,v10,v11,v12,v13,v14,v15,f 16,f 17,f 18,f 19,f 20,f 21,f 22,f 23,f 24,f 25,f 26,f 27,f 28,f 29,f 30,f 31,f 32,f 33,f 34,f 35,f 36,.int .i64 k.n,.int .i64 i,f 39,f 40,f 41,f 42,f 43,f 44,f 45,f 46,f 47,f 48,f 49,f 50,f 51,f 52,f 53,f 54,f 55,f 56,f 57,f 58,f 59,f 60,f 61,f 62,f 63,f 64,f 65,f 66,f 67,f 68,f 69,f 70,f 71,f 72,f 73,f 74,f 75,f 76,f 77,f 78,f 79,f 80,f 81,f 82,f 83,f 84,f 85,f 86,f 87,f 88,f 89,f 90,f 91,f 92,f 93,f 94,f 95,f 96,f 97,f 98,f 99,f 100,f 101,f 102,f 103,f 104,f 105] from by unfold tmN ptr;rfl]
 refine rch_seq (rch_code ?_)
 go_wp2_with (fail)
 refine rch_seq (rch_cond (t:=true) rfl (rch_skip ?_))
 refine rch_seq (rch_block (rch_seq (rch_code ?_)))
 go_wp2_with (fail)
 refine rch_seq (rch_code ?_)
 go_wp2_with (fail)
 refine rch_seq (rch_region ?_)
 refine rch_op (i:=0) rfl rfl (run_makeMap134 rfl w) ?_
 refine rch_op (i:=1) (v:=.map (some w.heap.size)) rfl rfl rfl (rch_region_end ?_)
 have hk1:Kp w (w.alloc (.map #[] 0)):=⟨rfl,rfl,by show _≤(w.heap.push _).size;simp,fun k hk=>heap_alloc_old w _ hk⟩
 have hm1:=MapS.made w
 have hlm:w.heap.size≤w.heap.size:=Nat.le_refl _
 have hin:=(hS.kp hk1).view
 clear hS
 generalize w.alloc (.map #[] 0)=w1 at *
 obtain ⟨mb,hmb⟩:∃ mb,w.heap.size=mb:=⟨_,rfl⟩
 rw [hmb] at hm1
 have hlm:w.heap.size≤mb:=by omega
 rw [hmb]
 have hS:=St.start w1 V hin
 show Rch Tryd.prog nhead2 _ _ ⟨#[f 0,.int .i64 err,f 2,f 3,f 4,f 5,v6,.pointer (some ⟨p,0,none⟩),.pointer (some ⟨b8,0,none⟩),v9,v10,.int .i64 i,.int .i64 0,.map (some mb),v14,v15,f 16,f 17,f 18,f 19,f 20,f 21,f 22,f 23,f 24,f 25,f 26,f 27,f 28,f 29,f 30,f 31,f 32,f 33,f 34,f 35,f 36,.int .i64 k.n,.int .i64 i,.bool true,.int .i64 i,.map (some mb),f 42,f 43,f 44,f 45,f 46,f 47,f 48,f 49,f 50,f 51,f 52,f 53,f 54,f 55,f 56,f 57,f 58,f 59,f 60,f 61,f 62,f 63,f 64,f 65,f 66,f 67,f 68,f 69,f 70,f 71,f 72,f 73,f 74,f 75,f 76,f 77,f 78,f 79,f 80,f 81,f 82,f 83,f 84,f 85,f 86,f 87,f 88,f 89,f 90,f 91,f 92,f 93,f 94,f 95,f 96,f 97,f 98,f 99,f 100,f 101,f 102,f 103,f 104,f 105],DS⟩ w1
 refine rch_seq (rch_code ?_)
 go_wp2_with (first | (first | ((first | ((with_reducible refine gL ?_);refine qvn hS rfl rfl rfl ?_) | ((with_reducible refine gS ?_);refine qsall hS rfl rfl rfl ?_));refine ⟨_,zd,?_⟩;clear hS;(try clear w');intro a' hp;(try simp only [fr] at hp);subst hp;intro w' hS;(try simp only [sE] at hS)) | ((with_reducible refine gA ?_);refine qallocd 14 rfl hS rfl rfl ?_;clear hS;(try clear w');intro b14;intro a' hp;(try simp only [fr] at hp);subst hp;intro w' hS)) | (go_at_call 99;refine calls_by hS ⟨_,hwk _ (St.view hS),?_⟩;clear hS;(try clear w');intro w' hS))
 obtain ⟨q1,q2,q3,q4⟩:=hwb
 refine rch_seq (rch_seq (rch_code ?_))
 go_wp2_with (((with_reducible refine gL ?_);refine ql1 hS rfl rfl rfl ?_);refine ⟨_,zd,?_⟩;clear hS;(try clear w');intro a' hp;(try simp only [fr] at hp);subst hp;intro w' hS;(try simp only [sE] at hS))
 refine rch_block (rch_loop ?_)
 have hm2:MapS w' mb 0 []:=hm1.of_heap (hS.toKp.old mb hm1.lt)
 have hl14:=(hS.new (.blk b14 27 [.int .i64 r.1,.int .i64 r.2]) (by simp) b14 rfl).elim id (fun h=>nomatch h)
 have hsz:=hk1.size
 exact rch_here (tgt:=nhead2) ⟨mb,b14,tmN_of rfl,hk1.trans hS.toKp,hm2,Nat.le_refl _,by omega,hS.has1⟩
end Go.Proofs.YtjjmefieegcddaaDoor
namespace Go.Proofs.YtjjmefieegcddaaDoor
open Go.RowKit Go.Wg Go.Mm Go.Wk
open Go Go.Sr Go.Ph Go.Tm Go.Conc
variable {w:World} {V:View} {DS:List Deferred}
noncomputable def N20:Code:=match NL2 with | .seq _ (.seq (.block _ (.seq _ (.seq _ c))) _)=>c | _=>.skip
noncomputable def nmid:List Item:=.code N20 :: .inBlock 3 :: .code NR17 :: .inLoop NL2 :: ntail
set_option maxRecDepth 20000 in
set_option maxHeartbeats 4000000 in
theorem next3a {p:Nat} {k:Wk} {D:List Nat} {b8:Nat} {s:SS} (hX:NX V p k D b8 s) (hs:s.WF) (err:Int) (he0:0≤err) (he9:err≤9) (i:Nat) (hi:i < k.n) (mb b14:Nat) (r:Int × Int) (hr:V.Range b14 0 [.int .i64 r.1,.int .i64 r.2]) (hr0:0≤r.2) (hr4:r.2≤40)
  (sh:Int) (hsh0:-9≤sh) (hsh:sh≤r.2+err) (v6 v9 v10 v12 v37 v38:Value) (f:Nat→Value) (hV:V.In w) :
  Rch Tryd.prog nmid (fun a w'=>∃ b16,((∃ f,a=⟨tmN (.int .i64 err) v6 (ptr p) (ptr b8) v9 v10 (.int .i64 i) v12 (.map (some mb)) (ptr b14) (.int .i64 sh) v37 v38 f,DS⟩)∧a.tmps[16]? = some (ptr b16))∧St w [] V [.blk b16 100 (stC (s.setLim i (nxLim s i err sh)))] w')
   nhead2 ⟨tmN (.int .i64 err) v6 (ptr p) (ptr b8) v9 v10 (.int .i64 i) v12 (.map (some mb)) (ptr b14) (.int .i64 sh) v37 v38 f,DS⟩ w:=by
 have hn6:k.n≤6:=by obtain ⟨ts,x,y,hc⟩:=hX.cel;exact hc.le
 have HL:(stC s).length=18:=stC_len hs
 have h0:(0:Int)≤i:=by omega
 have h6:i < 6:=by omega
 have h7:(i:Int) < 6:=by omega
 have hr8:=hX.s8
 have hl8:(stC s)[i]? = some (.int .u64 (s.limAt i:Nat)):=stC_lim hs h6
 have HB:=bits_and (s.limAt i) (spanB (sh - err) (sh+err)) (by have:=hs.limAt_lt i;omega) (by have:=spanB_lt (sh - err) (sh+err);omega)
 have HS:=stC_setlim hs h6 (s.limAt i &&& spanB (sh - err) (sh+err))
 have HN:nxLim s i err sh=s.limAt i &&& spanB (sh - err) (sh+err):=rfl
 rw [HN]
 clear HN
 replace HB:=mkHid HB;replace HS:=mkHid HS
 have hc14:V.Cell b14 1 (.int .i64 r.2):=hr 1 _ rfl
 have hS:=St.start w V hV
 rw [show tmN (.int .i64 err) v6 (ptr p) (ptr b8) v9 v10 (.int .i64 i) v12 (.map (some mb)) (ptr b14) (.int .i64 sh) v37 v38 f=#[f 0,.int .i64 err,f 2,f 3,f 4,f 5,v6,.pointer (some ⟨p,0,none⟩),.pointer (some ⟨b8,0,none⟩),v9,v10,.int .i64 i,v12,.map (some mb),.pointer (some ⟨b14,0,none⟩),.int .i64 sh,f 16,f 17,f 18,f 19,f 20,f 21,f 22,f 23,f 24,f 25,f 26,f 27,f 28,f 29,f 30,f 31,f 32,f 33,f 34,f 35,f 36,v37,v38,f 39,f 40,f 41,f 42,f 43,f 44,f 45,f 46,f 47,f 48,f 49,f 50,f 51,f 52,f 53,f 54,f 55,f 56,f 57,f 58,f 59,f 60,f 61,f 62,f 63,f 64,f 65,f 66,f 67,f 68,f 69,f 70,f 71,f 72,f 73,f 74,f 75,f 76,f 77,f 78,f 79,f 80,f 81,f 82,f 83,f 84,f 85,f 86,f 87,f 88,f 89,f 90,f 91,f 92,f 93,f 94,f 95,f 96,f 97,f 98,f 99,f 100,f 101,f 102,f 103,f 104,f 105] from by unfold tmN ptr;rfl]
 refine rch_seq (rch_code ?_)
 go_wp2_with (((with_reducible refine gL ?_);refine qv1 hS rfl rfl rfl ?_);refine ⟨_,zd,?_⟩;clear hS;(try clear w');intro a' hp;(try simp only [fr] at hp);subst hp;intro w' hS;(try simp only [sE] at hS))
 refine rch_seq (rch_block (rch_seq (rch_code ?_)))
 go_wp2_with (first | ((first | ((with_reducible refine gL ?_);refine qvn hS rfl rfl rfl ?_) | ((with_reducible refine gS ?_);refine qsall hS rfl rfl rfl ?_));refine ⟨_,zd,?_⟩;clear hS;(try clear w');intro a' hp;(try simp only [fr] at hp);subst hp;intro w' hS;(try simp only [sE] at hS)) | ((with_reducible refine gA ?_);refine qallocd 16 rfl hS rfl rfl ?_;clear hS;(try clear w');intro b16;intro a' hp;(try simp only [fr] at hp);subst hp;intro w' hS))
 refine rch_seq (rch_code ?_)
 (refine wp_region_quiet_tail 14 (by kernel_rfl) (by kernel_rfl) (St.drew1 hS) ?_;simp only [List.take_succ_cons,List.take_zero,List.drop_succ_cons,List.drop_zero];clear hS;(repeat ((go_big_quiet_want;(first | ((with_reducible refine gqM ?_);refine quiet_mv rfl rfl ?_;intro a' hp;(try simp only [fr] at hp);subst hp) | ((with_reducible refine gqL ?_);(refine quiet_l1 rfl rfl ?_);refine ⟨_,zd,?_⟩;intro a' hp;(try simp only [fr] at hp);subst hp) | ((with_reducible refine gqV ?_);refine quiet_con ?_;refine ⟨_,_,by (intro _;go_simp;exact ⟨rfl,rfl⟩),?_⟩;refine ⟨_,by (intro w' hS;((go_at_call 100;exact span_ok _ _ _))),?_⟩;intro a' hp;(try simp only [fr] at hp);subst hp) | (refine quiet_pure ?_;refine ⟨_,zp,?_⟩;intro a' hp;(try simp only [fr] at hp);subst hp));go_big_quiet_on)));refine wpQuiet_nil ?_;(try clear w');intro w' hS)
 go_wp2_with ((((with_reducible refine gS ?_);refine qs1 hS rfl rfl rfl ?_);refine ⟨_,zd,?_⟩;clear hS;(try clear w');intro a' hp;(try simp only [fr] at hp);subst hp;intro w' hS;(try simp only [sE] at hS));try (simp only [HB.out,HS.out] at hS))
 exact rch_here (tgt:=nmid) ⟨b16,⟨tmN_of rfl,rfl⟩,hS⟩
end Go.Proofs.YtjjmefieegcddaaDoor
namespace Go.Proofs.YtjjmefieegcddaaDoor
open Go.RowKit Go.Wg Go.Mm Go.Wk
open Go Go.Sr Go.Ph Go.Tm Go.Conc
variable {w:World} {V:View} {DS:List Deferred}
theorem run_look134 {o:Oper} {ρ:Operand→Value} {m x:Operand} {b n key:Nat} {l:List Nat} (ho:o.op=.lookup 134 m x false) (hm:ρ m=.map (some b)) (hx:ρ x=.int .u64 (key:Int)) (h:MapS w b n l) (hk:key < 18446744073709551616) :
  (execOp ρ o).run Tryd.prog w=.ok (.value (.bool (l.contains key))) w:=by
 have hl:=h.look hk
 unfold execOp
 simp only [ho,hm,hx,Sem.run_bind,hl]
 rfl
set_option maxRecDepth 20000 in
set_option maxHeartbeats 4000000 in
theorem next3met {p:Nat} {k:Wk} {D:List Nat} {b8:Nat} {s x:SS} (hX:NX V p k D b8 s) (hx:x.WF) (err:Int) (i:Nat) (hi:i < k.n) (mb b14 b16 cnt:Nat) (l:List Nat) (hmap:MapS w mb cnt l) (h16:V.Range b16 0 (stC x))
  (sh:Int) (hsh0:-9≤sh) (hsh:sh≤49) (v6 v9 v10 v12 v37 v38:Value) (f:Nat→Value) (hf16:f 16=ptr b16) (hV:V.In w) (hmet:l.contains (x.limAt i)=true) :
  Rch Tryd.prog nhead2 (fun a w'=>(∃ f,a=⟨tmN (.int .i64 err) v6 (ptr p) (ptr b8) v9 v10 (.int .i64 i) v12 (.map (some mb)) (ptr b14) (.int .i64 (sh+1)) v37 v38 f,DS⟩)∧Kp w w') nmid ⟨tmN (.int .i64 err) v6 (ptr p) (ptr b8) v9 v10 (.int .i64 i) v12 (.map (some mb)) (ptr b14) (.int .i64 sh) v37 v38 f,DS⟩ w:=by
 have hn6:k.n≤6:=by obtain ⟨ts,y,z,hc⟩:=hX.cel;exact hc.le
 have HL:(stC x).length=18:=stC_len hx
 have h0:(0:Int)≤i:=by omega
 have h6:i < 6:=by omega
 have h7:(i:Int) < 6:=by omega
 have hl8:(stC x)[i]? = some (.int .u64 (x.limAt i:Nat)):=stC_lim hx h6
 have hc16:V.Cell b16 i (.int .u64 (x.limAt i:Nat)):=by
  have:=h16 i _ hl8
  rwa [Nat.zero_add] at this
 have hm64:x.limAt i < 18446744073709551616:=by have:=hx.limAt_lt i;omega
 have hS:=St.start w V hV
 rw [show tmN (.int .i64 err) v6 (ptr p) (ptr b8) v9 v10 (.int .i64 i) v12 (.map (some mb)) (ptr b14) (.int .i64 sh) v37 v38 f=#[f 0,.int .i64 err,f 2,f 3,f 4,f 5,v6,.pointer (some ⟨p,0,none⟩),.pointer (some ⟨b8,0,none⟩),v9,v10,.int .i64 i,v12,.map (some mb),.pointer (some ⟨b14,0,none⟩),.int .i64 sh,.pointer (some ⟨b16,0,none⟩),f 17,f 18,f 19,f 20,f 21,f 22,f 23,f 24,f 25,f 26,f 27,f 28,f 29,f 30,f 31,f 32,f 33,f 34,f 35,f 36,v37,v38,f 39,f 40,f 41,f 42,f 43,f 44,f 45,f 46,f 47,f 48,f 49,f 50,f 51,f 52,f 53,f 54,f 55,f 56,f 57,f 58,f 59,f 60,f 61,f 62,f 63,f 64,f 65,f 66,f 67,f 68,f 69,f 70,f 71,f 72,f 73,f 74,f 75,f 76,f 77,f 78,f 79,f 80,f 81,f 82,f 83,f 84,f 85,f 86,f 87,f 88,f 89,f 90,f 91,f 92,f 93,f 94,f 95,f 96,f 97,f 98,f 99,f 100,f 101,f 102,f 103,f 104,f 105] from by unfold tmN;simp only [hf16,ptr]]
 refine rch_seq (rch_seq (rch_code ?_))
 go_wp2_with (first | (((with_reducible refine gL ?_);refine qv1 hS rfl rfl rfl ?_);refine ⟨_,zd,?_⟩;clear hS;(try clear w');intro a' hp;(try simp only [fr] at hp);subst hp;intro w' hS;(try simp only [sE] at hS)) | (at_lookup;refine wpl_value rfl (run_look134 rfl rfl rfl (MapS.of_heap hmap (hS.toKp.old mb (MapS.lt hmap))) hm64) ?_;rw [hmet]))
 refine rch_cond (t:=true) rfl (rch_exit rfl ?_)
 refine rch_code ?_
 conv=>enter [2];whnf
 go_wp2_with (fail)
 refine rch_inLoop ?_
 exact rch_here (tgt:=nhead2) ⟨tmN_of rfl,hS.toKp⟩
set_option maxRecDepth 20000 in
set_option maxHeartbeats 4000000 in
theorem next3no {p:Nat} {k:Wk} {D:List Nat} {b8:Nat} {s x:SS} (hX:NX V p k D b8 s) (hx:x.WF) (err:Int) (i:Nat) (hi:i < k.n) (mb b14 b16 cnt:Nat) (l:List Nat) (hmap:MapS w mb cnt l) (h16:V.Range b16 0 (stC x))
  (sh:Int) (hsh0:-9≤sh) (hsh:sh≤49) (v6 v9 v10 v12 v37 v38:Value) (f:Nat→Value) (hf16:f 16=ptr b16) (hV:V.In w) (hmet:l.contains (x.limAt i)=false) (hcan:can k x=false) :
  Rch Tryd.prog nhead2 (fun a w'=>(∃ f,a=⟨tmN (.int .i64 err) v6 (ptr p) (ptr b8) v9 v10 (.int .i64 i) v12 (.map (some mb)) (ptr b14) (.int .i64 (sh+1)) v37 v38 f,DS⟩)∧Kp w w') nmid ⟨tmN (.int .i64 err) v6 (ptr p) (ptr b8) v9 v10 (.int .i64 i) v12 (.map (some mb)) (ptr b14) (.int .i64 sh) v37 v38 f,DS⟩ w:=by
 have hn6:k.n≤6:=by obtain ⟨ts,y,z,hc⟩:=hX.cel;exact hc.le
 have HL:(stC x).length=18:=stC_len hx
 have h0:(0:Int)≤i:=by omega
 have h6:i < 6:=by omega
 have h7:(i:Int) < 6:=by omega
 have hl8:(stC x)[i]? = some (.int .u64 (x.limAt i:Nat)):=stC_lim hx h6
 have hc16:V.Cell b16 i (.int .u64 (x.limAt i:Nat)):=by
  have:=h16 i _ hl8
  rwa [Nat.zero_add] at this
 have hm64:x.limAt i < 18446744073709551616:=by have:=hx.limAt_lt i;omega
 have hS:=St.start w V hV
 rw [show tmN (.int .i64 err) v6 (ptr p) (ptr b8) v9 v10 (.int .i64 i) v12 (.map (some mb)) (ptr b14) (.int .i64 sh) v37 v38 f=#[f 0,.int .i64 err,f 2,f 3,f 4,f 5,v6,.pointer (some ⟨p,0,none⟩),.pointer (some ⟨b8,0,none⟩),v9,v10,.int .i64 i,v12,.map (some mb),.pointer (some ⟨b14,0,none⟩),.int .i64 sh,.pointer (some ⟨b16,0,none⟩),f 17,f 18,f 19,f 20,f 21,f 22,f 23,f 24,f 25,f 26,f 27,f 28,f 29,f 30,f 31,f 32,f 33,f 34,f 35,f 36,v37,v38,f 39,f 40,f 41,f 42,f 43,f 44,f 45,f 46,f 47,f 48,f 49,f 50,f 51,f 52,f 53,f 54,f 55,f 56,f 57,f 58,f 59,f 60,f 61,f 62,f 63,f 64,f 65,f 66,f 67,f 68,f 69,f 70,f 71,f 72,f 73,f 74,f 75,f 76,f 77,f 78,f 79,f 80,f 81,f 82,f 83,f 84,f 85,f 86,f 87,f 88,f 89,f 90,f 91,f 92,f 93,f 94,f 95,f 96,f 97,f 98,f 99,f 100,f 101,f 102,f 103,f 104,f 105] from by unfold tmN;simp only [hf16,ptr]]
 refine rch_seq (rch_seq (rch_code ?_))
 go_wp2_with (first | (((with_reducible refine gL ?_);first | refine qv1 hS rfl rfl rfl ?_ | refine qvn hS rfl rfl rfl ?_);refine ⟨_,zd,?_⟩;clear hS;(try clear w');intro a' hp;(try simp only [fr] at hp);subst hp;intro w' hS;(try simp only [sE] at hS)) | (at_lookup;refine wpl_value rfl (run_look134 rfl rfl rfl (MapS.of_heap hmap (hS.toKp.old mb (MapS.lt hmap))) hm64) ?_;rw [hmet]) | (go_at_call 78;refine calls_by hS ⟨_,can_ok V p k hX.cel hX.gv x hx _ (St.view hS),?_⟩;rw [hcan];clear hS;(try clear w');intro w' hS))
 refine rch_cond (t:=true) rfl (rch_exit rfl ?_)
 refine rch_code ?_
 conv=>enter [2];whnf
 go_wp2_with (fail)
 refine rch_inLoop ?_
 exact rch_here (tgt:=nhead2) ⟨tmN_of rfl,hS.toKp⟩
theorem run_put134 {o:Oper} {ρ:Operand→Value} {m x y:Operand} {b:Nat} {key:Nat} {w w':World} (ho:o.op=.mapUpdate 134 m x y) (hm:ρ m=.map (some b)) (hx:ρ x=.int .u64 (key:Int)) (hy:ρ y=.bool true)
  (h:(Instr.mapUpdate 134 (.map (some b)) (.int .u64 (key:Int)) (.bool true)).run Tryd.prog w=.ok () w'):(execOp ρ o).run Tryd.prog w=.ok .skip w':=by
 unfold execOp
 simp only [ho,hm,hx,hy,Sem.run_bind,h]
 rfl
set_option maxRecDepth 20000 in
set_option maxHeartbeats 4000000 in
theorem next3yes {p:Nat} {k:Wk} {D:List Nat} {b8:Nat} {s x:SS} (hX:NX V p k D b8 s) (hx:x.WF) (err:Int) (i:Nat) (hi:i < k.n) (mb b14 b16 cnt:Nat) (l:List Nat) (hmap:MapS w mb cnt l) (h16:V.Range b16 0 (stC x))
  (sh:Int) (hsh0:-9≤sh) (hsh:sh≤49) (v6 v9 v10 v12 v37 v38:Value) (f:Nat→Value) (hf16:f 16=ptr b16) (hV:V.In w) (hmet:l.contains (x.limAt i)=false) (hcan:can k x=true) (hcnt:cnt < 1000000) (hVm:V mb=none) :
  Rch Tryd.prog (nat22 [3,4,5,6]) (fun a w'=>((∃ f,a=⟨tmN (.int .i64 err) v6 (ptr p) (ptr b8) v9 v10 (.int .i64 i) v12 (.map (some mb)) (ptr b14) (.int .i64 sh) v37 v38 f,DS⟩)∧a.tmps[90]? = some v12∧a.tmps[91]? = some (ptr p)∧a.tmps[92]? = some (.agg (stC x).toArray))∧MapS w' mb (cnt+1) (x.limAt i :: l)∧KpBut mb w w')
   nmid ⟨tmN (.int .i64 err) v6 (ptr p) (ptr b8) v9 v10 (.int .i64 i) v12 (.map (some mb)) (ptr b14) (.int .i64 sh) v37 v38 f,DS⟩ w:=by
 have hn6:k.n≤6:=by obtain ⟨ts,y,z,hc⟩:=hX.cel;exact hc.le
 have HL:(stC x).length=18:=stC_len hx
 have h0:(0:Int)≤i:=by omega
 have h6:i < 6:=by omega
 have h7:(i:Int) < 6:=by omega
 have hl8:(stC x)[i]? = some (.int .u64 (x.limAt i:Nat)):=stC_lim hx h6
 have hc16:V.Cell b16 i (.int .u64 (x.limAt i:Nat)):=by
  have:=h16 i _ hl8
  rwa [Nat.zero_add] at this
 have hm64:x.limAt i < 18446744073709551616:=by have:=hx.limAt_lt i;omega
 have hS:=St.start w V hV
 rw [show tmN (.int .i64 err) v6 (ptr p) (ptr b8) v9 v10 (.int .i64 i) v12 (.map (some mb)) (ptr b14) (.int .i64 sh) v37 v38 f=#[f 0,.int .i64 err,f 2,f 3,f 4,f 5,v6,.pointer (some ⟨p,0,none⟩),.pointer (some ⟨b8,0,none⟩),v9,v10,.int .i64 i,v12,.map (some mb),.pointer (some ⟨b14,0,none⟩),.int .i64 sh,.pointer (some ⟨b16,0,none⟩),f 17,f 18,f 19,f 20,f 21,f 22,f 23,f 24,f 25,f 26,f 27,f 28,f 29,f 30,f 31,f 32,f 33,f 34,f 35,f 36,v37,v38,f 39,f 40,f 41,f 42,f 43,f 44,f 45,f 46,f 47,f 48,f 49,f 50,f 51,f 52,f 53,f 54,f 55,f 56,f 57,f 58,f 59,f 60,f 61,f 62,f 63,f 64,f 65,f 66,f 67,f 68,f 69,f 70,f 71,f 72,f 73,f 74,f 75,f 76,f 77,f 78,f 79,f 80,f 81,f 82,f 83,f 84,f 85,f 86,f 87,f 88,f 89,f 90,f 91,f 92,f 93,f 94,f 95,f 96,f 97,f 98,f 99,f 100,f 101,f 102,f 103,f 104,f 105] from by unfold tmN;simp only [hf16,ptr]]
 refine rch_seq (rch_seq (rch_code ?_))
 go_wp2_with (first | (((with_reducible refine gL ?_);first | refine qv1 hS rfl rfl rfl ?_ | refine qvn hS rfl rfl rfl ?_);refine ⟨_,zd,?_⟩;clear hS;(try clear w');intro a' hp;(try simp only [fr] at hp);subst hp;intro w' hS;(try simp only [sE] at hS)) | (at_lookup;refine wpl_value rfl (run_look134 rfl rfl rfl (MapS.of_heap hmap (hS.toKp.old mb (MapS.lt hmap))) hm64) ?_;rw [hmet]) | (go_at_call 78;refine calls_by hS ⟨_,can_ok V p k hX.cel hX.gv x hx _ (St.view hS),?_⟩;rw [hcan];clear hS;(try clear w');intro w' hS))
 refine rch_cond (t:=false) rfl (rch_skip ?_)
 refine rch_seq (rch_code ?_)
 go_wp2_with (first | (((with_reducible refine gL ?_);refine qv1 hS rfl rfl rfl ?_);refine ⟨_,zd,?_⟩;clear hS;(try clear w');intro a' hp;(try simp only [fr] at hp);subst hp;intro w' hS;(try simp only [sE] at hS)) | (at_mapUpdate;obtain ⟨w2,hr2,hm2,hg2⟩:=(MapS.of_heap hmap (hS.toKp.old mb (MapS.lt hmap))).put hm64 hcnt;refine wpl_skip rfl (run_put134 rfl rfl rfl rfl hr2) ?_))
 have hkb:KpBut mb w w2:=⟨hg2.os.trans hS.os,hg2.output.trans hS.output,Nat.le_trans hS.size hg2.size,fun j hj hn=>(hg2.block j (Nat.lt_of_lt_of_le hj hS.size) (fun h=>hn (Option.some.inj h))).trans (hS.toKp.old j hj)⟩
 have hin2:V.In w2:=fun j o h=>by
  have hj:=hV j o h
  rw [hkb.old j (lt_of_heap hj) (by rintro rfl;rw [hVm] at h;cases h)]
  exact hj
 refine rch_region ?_
 refine rch_op (i:=0) (v:=v12) (w':=w2) rfl rfl rfl ?_
 refine rch_op (i:=1) (v:=.pointer (some ⟨p,0,none⟩)) (w':=w2) rfl rfl rfl ?_
 refine rch_op (i:=2) rfl rfl (run_loadn (n:=18) rfl rfl RowT.ok HL (h16.range hin2)) ?_
 show Rch Tryd.prog (nat22 [3,4,5,6]) _ _ ⟨#[f 0,.int .i64 err,f 2,f 3,f 4,f 5,v6,.pointer (some ⟨p,0,none⟩),.pointer (some ⟨b8,0,none⟩),v9,v10,.int .i64 i,v12,.map (some mb),.pointer (some ⟨b14,0,none⟩),.int .i64 sh,.pointer (some ⟨b16,0,none⟩),f 17,f 18,f 19,f 20,f 21,f 22,f 23,f 24,f 25,f 26,f 27,f 28,f 29,f 30,f 31,f 32,f 33,f 34,f 35,f 36,v37,v38,f 39,f 40,f 41,f 42,f 43,f 44,f 45,f 46,f 47,f 48,f 49,f 50,f 51,f 52,f 53,f 54,f 55,f 56,f 57,f 58,f 59,f 60,f 61,f 62,f 63,f 64,f 65,f 66,f 67,f 68,f 69,f 70,f 71,f 72,.map (some mb),.int .i64 i,.pointer (some ⟨b16,0,none⟩),.pointer (some ⟨b16,i,none⟩),.int .u64 (x.limAt i:Nat),.bool false,.bool false,.pointer (some ⟨p,0,none⟩),.agg (stC x).toArray,.bool true,.bool false,.bool false,.map (some mb),.int .i64 i,.pointer (some ⟨b16,0,none⟩),.pointer (some ⟨b16,i,none⟩),.int .u64 (x.limAt i:Nat),v12,.pointer (some ⟨p,0,none⟩),.agg (stC x).toArray,f 93,f 94,f 95,f 96,f 97,f 98,f 99,f 100,f 101,f 102,f 103,f 104,f 105],DS⟩ w2
 exact rch_here (tgt:=nat22 [3,4,5,6]) ⟨⟨tmN_of rfl,rfl,rfl,rfl⟩,hm2,hkb⟩
end Go.Proofs.YtjjmefieegcddaaDoor
namespace Go.Proofs.YtjjmefieegcddaaDoor
open Go.RowKit Go.Wg Go.Mm Go.Wk
open Go Go.Sr Go.Ph Go.Tm Go.Conc
variable {w:World} {V:View} {DS:List Deferred}
theorem run_max2 {o:Oper} {ρ:Operand→Value} {x y:Operand} {ats:Array TypeId} {a b:Int} (ho:o.op=.call { callee:=.builtin .max,args:=#[x,y],argTypes:=ats }) (hx:ρ x=.int .i64 a) (hy:ρ y=.int .i64 b) (w:World) :
  (execOp ρ o).run Tryd.prog w=.ok (.value (.int .i64 (max a b))) w:=by
 have e:(if b > a then b else a)=max a b:=by
  split <;> omega
 unfold execOp
 simp [ho,resolve,invoke,builtin,hx,hy,go_sem,e]
set_option maxRecDepth 20000 in
set_option maxHeartbeats 4000000 in
theorem next4 (most sh:Int) (hsh0:-9≤sh) (hsh:sh≤49) (v1 v6 v7 v8 v9 v10 v11 v13 v14 v37 v38:Value) (f:Nat→Value) (r:Int × Int) (hr:Pb 100000000000 r) (h93:f 93=spanV r) (h90:f 90=.int .i64 most) (hV:V.In w) :
  Rch Tryd.prog nhead2 (fun a w'=>(∃ f,a=⟨tmN v1 v6 v7 v8 v9 v10 v11 (.int .i64 (max most (sizeS r))) v13 v14 (.int .i64 (sh+1)) v37 v38 f,DS⟩)∧Kp w w')
   (nat22 [4,5,6]) ⟨tmN v1 v6 v7 v8 v9 v10 v11 (.int .i64 most) v13 v14 (.int .i64 sh) v37 v38 f,DS⟩ w:=by
 have hS:=St.start w V hV
 rw [show tmN v1 v6 v7 v8 v9 v10 v11 (.int .i64 most) v13 v14 (.int .i64 sh) v37 v38 f=#[f 0,v1,f 2,f 3,f 4,f 5,v6,v7,v8,v9,v10,v11,.int .i64 most,v13,v14,.int .i64 sh,f 16,f 17,f 18,f 19,f 20,f 21,f 22,f 23,f 24,f 25,f 26,f 27,f 28,f 29,f 30,f 31,f 32,f 33,f 34,f 35,f 36,v37,v38,f 39,f 40,f 41,f 42,f 43,f 44,f 45,f 46,f 47,f 48,f 49,f 50,f 51,f 52,f 53,f 54,f 55,f 56,f 57,f 58,f 59,f 60,f 61,f 62,f 63,f 64,f 65,f 66,f 67,f 68,f 69,f 70,f 71,f 72,f 73,f 74,f 75,f 76,f 77,f 78,f 79,f 80,f 81,f 82,f 83,f 84,f 85,f 86,f 87,f 88,f 89,.int .i64 most,f 91,f 92,spanV r,f 94,f 95,f 96,f 97,f 98,f 99,f 100,f 101,f 102,f 103,f 104,f 105] from by unfold tmN;rw [h93,h90]]
 refine rch_call (i:=4) rfl rfl (run_call_body rfl Tryd.func98 (by kernel_rfl) rfl) ?_
 simp only [List.map_toArray,List.map_cons,List.map_nil]
 show Calls Tryd.prog 98 #[spanV r] w _
 refine (size_ok' r hr w).mono ?_
 rintro e w2 ⟨rfl,hkp⟩
 refine ⟨_,rfl,?_⟩
 replace hS:=hS.kp hkp
 generalize sizeS r=sz
 generalize spanV r=sv
 clear hkp
 refine rch_op (i:=5) (v:=.int .i64 (max most sz)) (w':=w2) rfl rfl (run_max2 rfl rfl rfl w2) ?_
 refine rch_op (i:=6) (v:=.int .i64 (max most sz)) (w':=w2) rfl rfl rfl ?_
 refine rch_region_end (rch_inBlock ?_)
 show Rch Tryd.prog nhead2 _ _ ⟨#[f 0,v1,f 2,f 3,f 4,f 5,v6,v7,v8,v9,v10,v11,.int .i64 (max most sz),v13,v14,.int .i64 sh,f 16,f 17,f 18,f 19,f 20,f 21,f 22,f 23,f 24,f 25,f 26,f 27,f 28,f 29,f 30,f 31,f 32,f 33,f 34,f 35,f 36,v37,v38,f 39,f 40,f 41,f 42,f 43,f 44,f 45,f 46,f 47,f 48,f 49,f 50,f 51,f 52,f 53,f 54,f 55,f 56,f 57,f 58,f 59,f 60,f 61,f 62,f 63,f 64,f 65,f 66,f 67,f 68,f 69,f 70,f 71,f 72,f 73,f 74,f 75,f 76,f 77,f 78,f 79,f 80,f 81,f 82,f 83,f 84,f 85,f 86,f 87,f 88,f 89,.int .i64 most,f 91,f 92,sv,.int .i64 sz,.int .i64 (max most sz),f 96,f 97,f 98,f 99,f 100,f 101,f 102,f 103,f 104,f 105],DS⟩ w2
 generalize max most sz=mx
 refine rch_code ?_
 conv=>enter [2];whnf
 go_wp2_with (fail)
 refine rch_inLoop ?_
 exact rch_here (tgt:=nhead2) ⟨tmN_of rfl,hS.toKp⟩
end Go.Proofs.YtjjmefieegcddaaDoor
