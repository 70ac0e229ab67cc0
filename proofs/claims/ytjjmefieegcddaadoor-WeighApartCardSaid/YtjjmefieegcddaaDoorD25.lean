/- A part of the proof: W77, W78, S26, W81, W43, W44. -/
import Derived.Test.YtjjmefieegcddaaDoorD24
import Derived.Test.YtjjmefieegcddaaDoorD23
import Derived.Test.YtjjmefieegcddaaDoorD14
import Derived.Test.YtjjmefieegcddaaDoorD20
import Derived.Test.YtjjmefieegcddaaDoorD11
import Derived.Maps.Own
import Derived.Maps.Views
set_option linter.unusedVariables false
set_option linter.unusedSimpArgs false
set_option maxHeartbeats 8000000
namespace Go.Proofs.YtjjmefieegcddaaDoor
open Go.RowKit Go.Wg Go.Mm
variable {w:World} {V:View}
theorem qB {a b:Value} (h1:a.oneCell'=true) (h2:b.oneCell'=true):∀ v∈[a,b],v.oneCell'=true:=fun v hv=>by
 rcases List.mem_cons.1 hv with rfl | hv
 ·exact h1
 ·rw [List.mem_singleton] at hv;subst hv;exact h2
theorem acO (l:List je) (pad:List Value) (q:Nat) (hq:q < l.length) (sh:Int):(fH l ++ pad).set (q * 4+2) (.int .i64 sh)=fH (l.set q ⟨(l.getD q default).vessel,(l.getD q default).scale,sh,(l.getD q default).err⟩) ++ pad:=by
 induction l generalizing q with
 | nil=>simp at hq
 | cons v l ih =>
  cases q with
  | zero=>simp [fH,je.cells]
  | succ q =>
   have h:=ih q (by simpa using hq)
   rw [show (q+1) * 4+2=q * 4+2+1+1+1+1 by omega]
   simp only [fH,List.flatMap_cons,je.cells,List.cons_append,List.nil_append,List.set_cons_succ,List.getD_cons_succ] at h ⊢
   rw [h]
theorem acY (l:List je) (pad:List Value) (q:Nat) (hq:q < l.length):(fH l ++ pad)[q * 4+2]? = some (.int .i64 (l.getD q default).shown):=by
 have:=Ei je.cells (fun _=>rfl) l q (l.getD q default) (by simp [List.getD_eq_getElem?_getD,List.getElem?_eq_getElem hq]) 2 (by decide)
 rw [List.getElem?_append_left (by rw [fH,jK _ (fun _=>rfl)];omega)]
 exact this
set_option maxRecDepth 40000 in
theorem acs {bh:Nat} {lv:Value} {cn st:Int} (hh:xB V bh lv cn) (hc9:cn≤900000) {vessels room:Int} (hv:1≤vessels∧vessels≤6) (hr:1≤room∧room≤40) (hV:V.In w) (hVb:V bh=none) (hg:w.heap[bh]? = some (.cells (jv lv cn st).toArray 90 (0,0))) :
  Calls Tryd.prog 33 #[.pointer (some ⟨bh,0,none⟩),.int .i64 vessels,.int .i64 room] w fun e w'=>∃ (k:Wk) (vv rv:Value) (cn' st':Int),e=.returned (.agg #[vv,rv])∧k.Ok∧(k.n:Int)≤vessels∧k.rdg.length≤4∧cn≤cn'∧cn'≤cn+120 ∧
   St w [bh] V [.row vv 29 4 k.n (fD k.ves),.row rv 59 4 k.rdg.length (fH k.rdg),.blk bh 90 (jv lv cn' st')] w':=by
 have hS:=St.xW w V hV hg hVb
 have hto:=fun (c:Int) (h1:cn≤c) (h2:c≤1000000)=>hh.to h1 h2
 clear hg
 go_enter Tryd.func33,Tryd.ntmps33
 go_wp2_with (first | (first | (((with_reducible refine gS ?_);refine bQ hS rfl rfl rfl ?_);refine ⟨_,zd,?_⟩;clear hS;(try clear w');intro a' hp;(try simp only [fr] at hp);subst hp;intro w' hS;(try simp only [sE] at hS)) | ((with_reducible refine gA ?_);refine aT 6 rfl hS rfl rfl ?_;clear hS;(try clear w');intro b6;intro a' hp;(try simp only [fr] at hp);subst hp;intro w' hS) | ((with_reducible refine gA ?_);refine aT 7 rfl hS rfl rfl ?_;clear hS;(try clear w');intro b7;intro a' hp;(try simp only [fr] at hp);subst hp;intro w' hS)) | (go_at_call 38;refine (Ub hh hc9 hv hr (St.view hS) hVb (St.dR hS)).mono ?_;rintro _ w1 ⟨k,ws,vv,rv,mv,c1,s1,rfl,hok,hkn,hrl,htr,k1,k2,hS1⟩;replace hS:St w [bh] V [.row mv 3 1 k.n (aV ws),.row vv 29 4 k.n (fD k.ves),.row rv 59 4 k.rdg.length (fH k.rdg),.blk b6 25 [.slice none 0 0,.slice none 0 0],.blk bh 90 (jv lv c1 s1)] w1:=hS.comp (j:=1) rfl (hS1.perm (List.perm_append_comm (l₁:=[_,_,_]) (l₂:=[_])));clear hS1;have hvv:=dY hS vv;have hrv:=dY hS rv;have hone2:∀ v∈[vv,rv],v.oneCell'=true:=qB hvv hrv))
 have hS3:=hS.perm (List.perm_middle (l₁:=[_,_,_]))
 have hrd:∀ j,j < k.rdg.length→(k.rdg.getD j default).shown≤49:=fun j hj=>by
  obtain ⟨o1,o2,_,_,_,_,o7,o8⟩:=hok.rdg j hj
  have hm:k.rdg.getD j default∈k.rdg:=by
   rw [List.getD_eq_getElem?_getD,List.getElem?_eq_getElem hj]
   exact List.getElem_mem hj
  have h1:=(htr.rdg _ hm).1
  have h2:=(htr.room (k.rdg.getD j default).vessel.toNat (by omega)).2
  have h3:=(hok.ves (k.rdg.getD j default).vessel.toNat (by omega)).2.2.2.1
  omega
 generalize hro:k.rdg=ro at hS hS3 hrd hrl
 have hrok:∀ j,j < ro.length→(ro.getD j default).Ok k.n:=fun j hj=>by subst hro;exact hok.rdg j hj
 replace hro:=aj hro
 rcases rO hS3 with ⟨hrv0,hr0⟩ | ⟨gr,cap,pad,hrv0,q1,q2,q3,q4,q5,hS4⟩
 ·subst hrv0
  rw [hr0] at hS
  clear hS3 hrd hrok
  go_loopw [9] (fun iv wr=>iv=.int .i64 0∧St w [bh] V [.blk b7 25 [vv,.slice none 0 0],.row vv 29 4 k.n (fD k.ves),.row (.slice none 0 0) 59 4 0 (fH ro),.blk b6 25 [.slice none 0 0,.slice none 0 0],.blk bh 90 (jv lv c1 s1)] wr) (fun _ _=>0)
  case atStart=>exact ⟨rfl,hS.aG⟩
  case round =>
   clear hS
   obtain ⟨rfl,hS⟩:=hrel
   go_wp2_with ((first | ((with_reducible refine gL ?_);first | refine gY hS rfl rfl rfl ?_ | refine lW hS rfl rfl rfl ?_) | ((with_reducible refine gS ?_);refine bQ hS rfl rfl rfl ?_));refine ⟨_,zd,?_⟩;clear hS;(try clear w');intro a' hp;(try simp only [fr] at hp);subst hp;intro w' hS;(try simp only [sE] at hS))
   ((try simp only [Exit.inBlock,Exit.then]);(try refine aB ?_);refine bK ⟨_,by exact bH (r1:=.cell 6 25) (by kernel_rfl) (by exact rX hS rfl zd),?_⟩ rfl)
   exact ⟨k,vv,_,c1,s1,rfl,hok,hkn,(by rw [hro.out];exact hrl),by omega,by omega,by rw [hro.out,hr0];exact hS.aG⟩
 ·subst hrv0
  replace hS:St w [bh] V [.blk gr 59 (fH ro ++ pad),.blk b7 25 [vv,.slice (some ⟨gr,0,none⟩) ro.length cap],.row mv 3 1 k.n (aV ws),.row vv 29 4 k.n (fD k.ves),.blk b6 25 [.slice none 0 0,.slice none 0 0],.blk bh 90 (jv lv c1 s1)] _:=hS4
  clear hS3 hS4
  have hpl:ro.length * 4+pad.length=cap * 4:=by rw [List.length_append,q3] at q4;exact q4
  clear q3 q4
  have hkl:0≤k.n:=by omega
  go_loopw [9] (fun iv wr=>∃ (i:Nat) (r:List je) (c2 s2:Int),iv=.int .i64 (i:Int)∧i≤ro.length∧r.length=ro.length∧(∀ j,j < ro.length→(r.getD j default).Ok k.n∧(i≤j→(r.getD j default).shown≤49))∧cn≤c2∧c2≤cn+100+2 * i ∧
   St w [bh] V [.blk gr 59 (fH r ++ pad),.blk b7 25 [vv,.slice (some ⟨gr,0,none⟩) ro.length cap],.row vv 29 4 k.n (fD k.ves),.blk b6 25 [.slice none 0 0,.slice none 0 0],.blk bh 90 (jv lv c2 s2)] wr) (fun iv _=>ro.length - (intOf iv).toNat)
  case atStart=>exact ⟨0,ro,c1,s1,rfl,by omega,rfl,fun j hj=>⟨hrok j hj,fun _=>hrd j hj⟩,by omega,by omega,hS.aG⟩
  case round =>
   clear hS
   obtain ⟨i,r,c2,s2,rfl,hi,hrl2,hall,k3,k4,hS⟩:=hrel
   by_cases hlt:i < ro.length
   ·have hlt':(i:Int) < ro.length:=by omega
    have h0i:(0:Int)≤i:=by omega
    obtain ⟨⟨o1,o2,o3,o4,o5,o6,o7,o8⟩,o9⟩:=hall i hlt
    have o10:=o9 (Nat.le_refl _)
    have hcell:=acY r pad i (by omega)
    have hlr:(fH r).length+pad.length ≥ ro.length * 4:=by rw [fH,jK _ (fun _=>rfl),hrl2];omega
    have hup:=acO r pad i (by omega)
    have hnx:∀ sh,0≤sh→sh≤60→∀ j,j < ro.length→((r.set i ⟨(r.getD i default).vessel,(r.getD i default).scale,sh,(r.getD i default).err⟩).getD j default).Ok k.n∧(i+1≤j→((r.set i ⟨(r.getD i default).vessel,(r.getD i default).scale,sh,(r.getD i default).err⟩).getD j default).shown≤49):=fun sh h1 h2 j hj=>by
     rw [fC _ _ _ _ _ (by omega)]
     by_cases e:i=j
     ·subst e
      rw [if_pos rfl]
      exact ⟨⟨o1,o2,o3,o4,h1,h2,o7,o8⟩,fun h=>by omega⟩
     ·rw [if_neg e]
      exact ⟨(hall j hj).1,fun h=>(hall j hj).2 (by omega)⟩
    have hno:∀ j,j < ro.length→(r.getD j default).Ok k.n∧(i+1≤j→(r.getD j default).shown≤49):=fun j hj=>⟨(hall j hj).1,fun h=>(hall j hj).2 (by omega)⟩
    generalize (r.getD i default).shown=sh0 at hcell o5 o10
    clear o1 o2 o3 o4 o6 o7 o8 o9
    replace hnx:=aj hnx;replace hno:=aj hno;replace hup:=aj hup
    clear hall hrd hrok
    go_wp2_with (first | (((with_reducible refine gL ?_);refine gY hS rfl rfl rfl ?_);refine ⟨_,zd,?_⟩;clear hS;(try clear w');intro a' hp;(try simp only [fr] at hp);subst hp;intro w' hS;(try simp only [sE] at hS)) | (go_at_call 72;refine eF hS ⟨1,_,fun _ hg=>TG (hto _ (by omega) (by omega)) (by omega) (St.view hS) hVb hg,?_⟩;clear hS;(try clear w');intro v c3 s3 w' hp k5 k6 hS;(try simp only [sE] at hS);obtain ⟨x,rfl⟩:=hp))
    focus
     (refine bF (S:=(St w [bh] V [.blk b7 25 [vv,.slice (some ⟨gr,0,none⟩) ro.length cap]])) [false,false,false,false,false,false,false,false,false,false,false,false,false,false,false,false,false] rfl (by kernel_rfl) ?_;replace hS:=St.eY hS;(iterate 9 ((first | refine hxp 0 rfl ?_ | refine hxa 1 rfl ?_ | refine hxm 2 rfl ?_ | refine hxp 3 rfl ?_ | refine hxa 4 rfl ?_ | refine hxm 5 rfl ?_ | refine hxp 6 rfl ?_ | refine hxp 7 rfl ?_ | refine hxm 9 rfl ?_);intro a' l' hp hl;(try simp only [fr] at hp);(try simp only [sB] at hl);subst hp;subst hl));(focus (refine nP 8 10 (by kernel_rfl) ?_ ?_;rotate_left;(refine Iu 10 rfl hS rfl  rfl ?_;refine ⟨_,zq,zd,?_⟩;clear hS;(try clear w');intro b36;intro a' l' hp hl;(try simp only [fr] at hp);(try simp only [sB] at hl);subst hp;subst hl;intro w' hS;refine ⟨(St.aG hS),?_⟩);(focus (refine nP 8 11 (by kernel_rfl) ?_ ?_;rotate_left;(refine VX (bh:=bh) 11 rfl hS rfl  ?_;refine ⟨_,_,zo,?_⟩;refine ⟨1,_,(fun _ hg=>tH (b:=b36) (hto _ (by omega) (by omega)) hS.dR ⟨rfl,by decide,by decide⟩ (St.view hS) hVb (zf hS (by decide)) hg),?_⟩;clear hS;(try clear w');intro v c37 s37 a' l' hpr hc37 hd37 hp hl;obtain ⟨x37,rfl,hx37⟩:=hpr;replace hx37:-6≤x37∧x37≤6:=(by simp only [List.mem_cons,List.not_mem_nil,or_false] at hx37;omega);(try simp only [fr] at hp);(try simp only [sB] at hl);subst hp;subst hl;intro w' hS;(try simp only [sE] at hS);refine ⟨(St.aG hS),?_⟩);(refine AZ 8 (by kernel_rfl) rfl hS rfl rfl rfl ?_;refine ⟨_,zd,?_⟩;clear hS;(try clear w');intro a' l' hp hl;(try simp only [fr] at hp);(try simp only [sB] at hl);subst hp;subst hl;intro w' hS;refine ⟨(St.aG hS),?_⟩);(refine dw 12 rfl (by kernel_rfl) (by kernel_rfl) (by kernel_rfl) (fun _ _ _ _ h=>h) rfl (St.aG hS) ?_;refine ⟨_,zp,?_⟩;intro a' l' hp hl;(try simp only [fr] at hp);(try simp only [sB] at hl);subst hp;subst hl);(refine dw 13 rfl (by kernel_rfl) (by kernel_rfl) (by kernel_rfl) (fun _ _ _ _ h=>h) rfl (St.aG hS) ?_;refine ⟨_,(fun w=>vW rfl rfl rfl w),?_⟩;intro a' l' hp hl;(try simp only [fr] at hp);(try simp only [sB] at hl);subst hp;subst hl);(refine dw 14 rfl (by kernel_rfl) (by kernel_rfl) (by kernel_rfl) (fun _ _ _ _ h=>h) rfl (St.aG hS) ?_;refine ⟨_,zp,?_⟩;intro a' l' hp hl;(try simp only [fr] at hp);(try simp only [sB] at hl);subst hp;subst hl);(refine dw 15 rfl (by kernel_rfl) (by kernel_rfl) (by kernel_rfl) (fun _ _ _ _ h=>h) rfl (St.aG hS) ?_;refine ⟨_,zp,?_⟩;intro a' l' hp hl;(try simp only [fr] at hp);(try simp only [sB] at hl);subst hp;subst hl);((refine jl 16 (by kernel_rfl) rfl hS rfl  rfl rfl ?_;refine ⟨_,zd,?_⟩);clear hS;(try clear w');intro a' l' hp hl;(try simp only [fr] at hp);(try simp only [sB] at hl);subst hp;subst hl;intro w' hS;(try simp only [sE] at hS);refine ⟨(St.aG hS),?_⟩);refine wpAnyH_done (by kernel_rfl) ?_ _;rotate_left;(refine yK 8 rfl hS rfl  rfl rfl ?_;refine ⟨_,zd,?_⟩;clear hS;(try clear w');intro a' l' hp hl;(try simp only [fr] at hp);(try simp only [sB] at hl);subst hp;subst hl;intro w' hS;refine ⟨(St.aG hS),?_⟩);(refine yC (bh:=bh) 11 (by kernel_rfl) rfl hS rfl  ?_;refine ⟨_,_,zo,?_⟩;refine ⟨1,_,(fun _ hg=>tH (b:=b36) (hto _ (by omega) (by omega)) hS.dR ⟨rfl,by decide,by decide⟩ (St.view hS) hVb (zf hS (by decide)) hg),?_⟩;clear hS;(try clear w');intro v c37 s37 a' l' hpr hc37 hd37 hp hl;obtain ⟨x37,rfl,hx37⟩:=hpr;replace hx37:-6≤x37∧x37≤6:=(by simp only [List.mem_cons,List.not_mem_nil,or_false] at hx37;omega);(try simp only [fr] at hp);(try simp only [sB] at hl);subst hp;subst hl;intro w' hS;(try simp only [sE] at hS);refine ⟨(St.aG hS),?_⟩);(refine dw 12 rfl (by kernel_rfl) (by kernel_rfl) (by kernel_rfl) (fun _ _ _ _ h=>h) rfl (St.aG hS) ?_;refine ⟨_,zp,?_⟩;intro a' l' hp hl;(try simp only [fr] at hp);(try simp only [sB] at hl);subst hp;subst hl);(refine dw 13 rfl (by kernel_rfl) (by kernel_rfl) (by kernel_rfl) (fun _ _ _ _ h=>h) rfl (St.aG hS) ?_;refine ⟨_,(fun w=>vW rfl rfl rfl w),?_⟩;intro a' l' hp hl;(try simp only [fr] at hp);(try simp only [sB] at hl);subst hp;subst hl);(refine dw 14 rfl (by kernel_rfl) (by kernel_rfl) (by kernel_rfl) (fun _ _ _ _ h=>h) rfl (St.aG hS) ?_;refine ⟨_,zp,?_⟩;intro a' l' hp hl;(try simp only [fr] at hp);(try simp only [sB] at hl);subst hp;subst hl);(refine dw 15 rfl (by kernel_rfl) (by kernel_rfl) (by kernel_rfl) (fun _ _ _ _ h=>h) rfl (St.aG hS) ?_;refine ⟨_,zp,?_⟩;intro a' l' hp hl;(try simp only [fr] at hp);(try simp only [sB] at hl);subst hp;subst hl);((refine jl 16 (by kernel_rfl) rfl hS rfl  rfl rfl ?_;refine ⟨_,zd,?_⟩);clear hS;(try clear w');intro a' l' hp hl;(try simp only [fr] at hp);(try simp only [sB] at hl);subst hp;subst hl;intro w' hS;(try simp only [sE] at hS);refine ⟨(St.aG hS),?_⟩);refine wpAnyH_done (by kernel_rfl) ?_ _));rotate_left 2;(refine yK 8 rfl hS rfl  rfl rfl ?_;refine ⟨_,zd,?_⟩;clear hS;(try clear w');intro a' l' hp hl;(try simp only [fr] at hp);(try simp only [sB] at hl);subst hp;subst hl;intro w' hS;refine ⟨(St.aG hS),?_⟩);(refine Ec 10 (by kernel_rfl) rfl hS rfl  rfl ?_;refine ⟨_,zq,zd,?_⟩;clear hS;(try clear w');intro b36;intro a' l' hp hl;(try simp only [fr] at hp);(try simp only [sB] at hl);subst hp;subst hl;intro w' hS;refine ⟨(St.aG hS),?_⟩);(refine yC (bh:=bh) 11 (by kernel_rfl) rfl hS rfl  ?_;refine ⟨_,_,zo,?_⟩;refine ⟨1,_,(fun _ hg=>tH (b:=b36) (hto _ (by omega) (by omega)) hS.dR ⟨rfl,by decide,by decide⟩ (St.view hS) hVb (zf hS (by decide)) hg),?_⟩;clear hS;(try clear w');intro v c37 s37 a' l' hpr hc37 hd37 hp hl;obtain ⟨x37,rfl,hx37⟩:=hpr;replace hx37:-6≤x37∧x37≤6:=(by simp only [List.mem_cons,List.not_mem_nil,or_false] at hx37;omega);(try simp only [fr] at hp);(try simp only [sB] at hl);subst hp;subst hl;intro w' hS;(try simp only [sE] at hS);refine ⟨(St.aG hS),?_⟩);(refine dw 12 rfl (by kernel_rfl) (by kernel_rfl) (by kernel_rfl) (fun _ _ _ _ h=>h) rfl (St.aG hS) ?_;refine ⟨_,zp,?_⟩;intro a' l' hp hl;(try simp only [fr] at hp);(try simp only [sB] at hl);subst hp;subst hl);(refine dw 13 rfl (by kernel_rfl) (by kernel_rfl) (by kernel_rfl) (fun _ _ _ _ h=>h) rfl (St.aG hS) ?_;refine ⟨_,(fun w=>vW rfl rfl rfl w),?_⟩;intro a' l' hp hl;(try simp only [fr] at hp);(try simp only [sB] at hl);subst hp;subst hl);(refine dw 14 rfl (by kernel_rfl) (by kernel_rfl) (by kernel_rfl) (fun _ _ _ _ h=>h) rfl (St.aG hS) ?_;refine ⟨_,zp,?_⟩;intro a' l' hp hl;(try simp only [fr] at hp);(try simp only [sB] at hl);subst hp;subst hl);(refine dw 15 rfl (by kernel_rfl) (by kernel_rfl) (by kernel_rfl) (fun _ _ _ _ h=>h) rfl (St.aG hS) ?_;refine ⟨_,zp,?_⟩;intro a' l' hp hl;(try simp only [fr] at hp);(try simp only [sB] at hl);subst hp;subst hl);((refine jl 16 (by kernel_rfl) rfl hS rfl  rfl rfl ?_;refine ⟨_,zd,?_⟩);clear hS;(try clear w');intro a' l' hp hl;(try simp only [fr] at hp);(try simp only [sB] at hl);subst hp;subst hl;intro w' hS;(try simp only [sE] at hS);refine ⟨(St.aG hS),?_⟩);refine wpAnyH_done (by kernel_rfl) ?_ _)))
     all_goals (
      rw [hup.out] at hS
      go_wp2_with (fail)
      go_roundw
      case rel=>exact ⟨i+1,_,c37,s37,by go_num,by omega,by rw [List.length_set];exact hrl2,hnx.out (max 0 (sh0+x37)) (by omega) (by omega),by omega,by omega,hS.aG⟩
      case measure=>simp only [intOf];omega)
    go_roundw
    case rel=>exact ⟨i+1,r,c3,s3,by go_num,by omega,hrl2,hno.out,by omega,by omega,hS.aG⟩
    case measure=>simp only [intOf];omega
   ·obtain rfl:i=ro.length:=by omega
    have hone3:∀ v∈[vv,Value.slice (some ⟨gr,0,none⟩) ro.length cap],v.oneCell'=true:=qB hvv rfl
    clear hone2
    go_wp2_with ((first | ((with_reducible refine gL ?_);first | refine gY hS rfl rfl rfl ?_ | refine lW hS rfl rfl rfl ?_) | ((with_reducible refine gS ?_);refine bQ hS rfl rfl rfl ?_));refine ⟨_,zd,?_⟩;clear hS;(try clear w');intro a' hp;(try simp only [fr] at hp);subst hp;intro w' hS;(try simp only [sE] at hS))
    ((try simp only [Exit.inBlock,Exit.then]);(try refine aB ?_);refine bK ⟨_,by exact bH (r1:=.cell 6 25) (by kernel_rfl) (by exact rX hS rfl zd),?_⟩ rfl)
    have hK:(⟨k.ves,r⟩:Wk).Ok:=⟨hok.pos,hok.le,hok.ves,by show r.length≤6;omega,fun j hj=>(hall j (by have hj':j < r.length:=hj;omega)).1⟩
    refine ⟨⟨k.ves,r⟩,vv,_,c2,s2,rfl,hK,hkn,by show r.length≤4;omega,by omega,by omega,?_⟩
    have h1:St w [bh] V [.blk gr 59 (fH r ++ pad),.row vv 29 4 k.n (fD k.ves),.blk bh 90 (jv lv c2 s2)] _:=hS.aG
    have el:(fH r).length=ro.length * 4:=by rw [fH,jK _ (fun _=>rfl),hrl2]
    have h2:=(XT (n:=ro.length) (s:=4) (cap:=cap) h1 q1 q2 el (by rw [List.length_append,el];exact hpl) q5).perm (List.Perm.swap _ _ _)
    show St w [bh] V [.row vv 29 4 k.n (fD k.ves),.row _ 59 4 r.length (fH r),.blk bh 90 (jv lv c2 s2)] _
    rw [hrl2]
    exact h2
end Go.Proofs.YtjjmefieegcddaaDoor
namespace Go.Wg
open Go Go.Mm Go.Proofs.YtjjmefieegcddaaDoor
def LJ (k:Wk) (v:Nat):Nat→Nat→Bool
 | 0,_=>false
 | f+1,i=>i == v || (decide (0≤(k.v i).from_) && LJ k v f (k.v i).from_.toNat)
def inB (k:Wk) (v i:Nat):Bool:=LJ k v (i+1) i
def cB (k:Wk) (v i:Nat):Nat:=((List.range i).filter (inB k v)).length
def lq (k:Wk) (v i:Nat):Int:=if inB k v i then (cB k v i:Int) else -1
def DK (k:Wk) (v i:Nat):nN:=⟨if i=v then -1 else lq k v (k.v i).from_.toNat,(k.v i).room,(k.v i).lo,(k.v i).hi⟩
def Oj (k:Wk) (v:Nat) (r:je):je:=⟨lq k v r.vessel.toNat,r.scale,r.shown,r.err⟩
def rF (k:Wk) (v m:Nat):List nN:=((List.range m).filter (inB k v)).map (DK k v)
def kQ (k:Wk) (v m:Nat):List je:=((k.rdg.take m).filter fun r=>inB k v r.vessel.toNat).map (Oj k v)
def Wk.branch (k:Wk) (v:Nat):Wk:=⟨rF k v k.n,kQ k v k.rdg.length⟩
theorem RX {k:Wk} (hok:k.Ok) (v:Nat):∀ (f g i:Nat),i < f→i < g→i < k.n→LJ k v f i=LJ k v g i:=fun f=>by
 induction f with
 | zero=>exact fun g i h=>absurd h (by omega)
 | succ f ih =>
  intro g i hf hg hi
  obtain ⟨g,rfl⟩:∃ g',g=g'+1:=⟨g - 1,by omega⟩
  rw [LJ,LJ]
  by_cases h:0≤(k.v i).from_
  ·have h2:=(hok.ves i hi).2.1
   rw [ih g (k.v i).from_.toNat (by omega) (by omega) (by omega)]
  ·simp [h]
theorem kJ {k:Wk} (hok:k.Ok) (v:Nat) {i:Nat} (hi:i < k.n):inB k v i=(i == v || (decide (0≤(k.v i).from_) && inB k v (k.v i).from_.toNat)):=by
 unfold inB
 rw [LJ]
 by_cases h:0≤(k.v i).from_
 ·have h2:=(hok.ves i hi).2.1
  rw [RX hok v i ((k.v i).from_.toNat+1) (k.v i).from_.toNat (by omega) (by omega) (by omega)]
 ·simp [h]
theorem DN {k:Wk} (hok:k.Ok) (v:Nat) (i:Nat):i < k.n→inB k v i=true→v≤i:=by
 induction i using Nat.strongRecOn with
 | ind i ih =>
  intro hi h
  rw [kJ hok v hi,Bool.or_eq_true,Bool.and_eq_true,beq_iff_eq,decide_eq_true_eq] at h
  rcases h with h | ⟨h1,h2⟩
  ·omega
  ·have h3:=(hok.ves i hi).2.1
   have:=ih _ (by omega) (by omega) h2
   omega
theorem gq (k:Wk) (v:Nat):inB k v v=true:=by
 unfold inB
 rw [LJ]
 simp
theorem yZ (k:Wk) (v i:Nat):cB k v (i+1)=cB k v i+if inB k v i then 1 else 0:=by
 unfold cB
 rw [List.range_succ,List.filter_append,List.length_append]
 by_cases h:inB k v i=true <;> simp [h]
theorem XU (k:Wk) (v:Nat) {i j:Nat} (h:i≤j):cB k v i≤cB k v j:=by
 induction j with
 | zero =>
  obtain rfl:i=0:=by omega
  exact Nat.le_refl _
 | succ j ih =>
  rw [yZ]
  by_cases e:i=j+1
  ·subst e;rw [yZ];omega
  ·have:=ih (by omega);omega
theorem vH (k:Wk) (v:Nat) {i j:Nat} (h:i < j) (hi:inB k v i=true):cB k v i < cB k v j:=by
 have h1:=XU k v h
 rw [Nat.succ_eq_add_one,yZ,if_pos hi] at h1
 omega
theorem VQ (k:Wk) (v i:Nat):cB k v i≤i:=by
 have:=List.length_filter_le (inB k v) (List.range i)
 rwa [List.length_range] at this
theorem Ld (k:Wk) (v i:Nat):lq k v i < 0↔inB k v i=false:=by
 unfold lq
 by_cases h:inB k v i=true
 ·rw [if_pos h,h]
  exact ⟨fun h2=>by omega,fun h2=>nomatch h2⟩
 ·rw [if_neg h]
  exact ⟨fun _=>by simpa using h,fun _=>by decide⟩
theorem PO (k:Wk) (v m:Nat):rF k v (m+1)=if inB k v m then rF k v m ++ [DK k v m] else rF k v m:=by
 unfold rF
 rw [List.range_succ,List.filter_append,List.map_append]
 by_cases h:inB k v m=true <;> simp [h]
theorem Gp (k:Wk) (v m:Nat):(rF k v m).length=cB k v m:=by simp [rF,cB]
theorem NH (k:Wk) (v:Nat) {m:Nat} (hm:m < k.rdg.length):kQ k v (m+1)=if inB k v (k.rdg.getD m default).vessel.toNat then kQ k v m ++ [Oj k v (k.rdg.getD m default)] else kQ k v m:=by
 unfold kQ
 rw [List.take_add_one,List.getElem?_eq_getElem hm,List.filter_append,List.map_append]
 have e:k.rdg.getD m default=k.rdg[m]:=by simp [List.getD_eq_getElem?_getD,List.getElem?_eq_getElem hm]
 rw [e]
 by_cases h:inB k v (k.rdg[m]).vessel.toNat=true <;> simp [h]
theorem wG (k:Wk) (v m:Nat):(kQ k v m).length≤m:=by
 unfold kQ
 rw [List.length_map]
 have:=List.length_filter_le (fun r=>inB k v r.vessel.toNat) (k.rdg.take m)
 rw [List.length_take] at this
 omega
theorem jy (k:Wk) (v:Nat):(k.branch v).n=cB k v k.n:=Gp k v k.n
def gB (k:Wk) (v p:Nat):Nat:=((List.range k.n).filter (inB k v)).getD p 0
theorem Yt (k:Wk) (v:Nat) {i m:Nat} (hi:i < m) (hb:inB k v i=true):((List.range m).filter (inB k v))[cB k v i]? = some i:=by
 induction m with
 | zero=>omega
 | succ m ih =>
  rw [List.range_succ,List.filter_append]
  by_cases e:i=m
  ·subst e
   rw [List.getElem?_append_right (by unfold cB;omega)]
   simp [cB,hb]
  ·have h1:=ih (by omega)
   rw [List.getElem?_append_left (List.getElem?_eq_some_iff.1 h1).1]
   exact h1
theorem Lj (k:Wk) (v:Nat) {i:Nat} (hi:i < k.n) (hb:inB k v i=true):gB k v (cB k v i)=i:=by
 unfold gB
 rw [List.getD_eq_getElem?_getD,Yt k v hi hb]
 rfl
theorem uV (k:Wk) (v:Nat) {p:Nat} (hp:p < cB k v k.n):gB k v p < k.n∧inB k v (gB k v p)=true:=by
 have h:gB k v p∈(List.range k.n).filter (inB k v):=by
  unfold gB
  have hp':p < ((List.range k.n).filter (inB k v)).length:=hp
  rw [List.getD_eq_getElem?_getD,List.getElem?_eq_getElem hp']
  exact List.getElem_mem hp'
 obtain ⟨h1,h2⟩:=List.mem_filter.1 h
 exact ⟨List.mem_range.1 h1,h2⟩
theorem Qo (k:Wk) (v:Nat) {p:Nat} (hp:p < cB k v k.n):cB k v (gB k v p)=p:=by
 obtain ⟨h1,h2⟩:=uV k v hp
 have h3:=Yt k v h1 h2
 have hp':p < ((List.range k.n).filter (inB k v)).length:=hp
 have h4:((List.range k.n).filter (inB k v))[p]? = some (gB k v p):=by
  unfold gB
  rw [List.getD_eq_getElem?_getD,List.getElem?_eq_getElem hp']
  rfl
 have hpw:((List.range k.n).filter (inB k v)).Pairwise (· < ·):=List.pairwise_lt_range.filter _
 obtain ⟨q1,q2⟩:=List.getElem?_eq_some_iff.1 h3
 obtain ⟨q3,q4⟩:=List.getElem?_eq_some_iff.1 h4
 have hlt:=List.pairwise_iff_getElem.1 hpw
 rcases Nat.lt_trichotomy (cB k v (gB k v p)) p with h | h | h
 ·have:=hlt _ _ q1 q3 h
  omega
 ·exact h
 ·have:=hlt _ _ q3 q1 h
  omega
theorem zM (k:Wk) (v:Nat) {p:Nat} (hp:p < cB k v k.n):(k.branch v).v p=DK k v (gB k v p):=by
 have hp':p < ((List.range k.n).filter (inB k v)).length:=hp
 show (rF k v k.n).getD p default=_
 unfold rF gB
 simp [List.getD_eq_getElem?_getD,List.getElem?_map,List.getElem?_eq_getElem hp']
theorem Zc (k:Wk) (v:Nat):(List.range (cB k v k.n)).map (gB k v)=(List.range k.n).filter (inB k v):=by
 refine List.ext_getElem? fun p=>?_
 by_cases hp:p < cB k v k.n
 ·have hp':p < ((List.range k.n).filter (inB k v)).length:=hp
  simp [List.getElem?_map,hp,gB,List.getD_eq_getElem?_getD,List.getElem?_eq_getElem hp']
 ·rw [List.getElem?_eq_none (by simp;omega),List.getElem?_eq_none (by show cB k v k.n≤p;omega)]
theorem I7 {k:Wk} (hok:k.Ok) (v:Nat) {p:Nat} (hp:p < cB k v k.n):((k.branch v).fills p).map (gB k v)=k.fills (gB k v p):=by
 obtain ⟨g1,g2⟩:=uV k v hp
 have h1:(k.branch v).fills p=(List.range (cB k v k.n)).filter ((fun i=>(DK k v i).from_ == (p:Int)) ∘ gB k v):=by
  unfold Wk.fills
  rw [jy]
  refine List.filter_congr fun q hq=>?_
  rw [zM k v (List.mem_range.1 hq)]
  rfl
 rw [h1,← List.filter_map,Zc,List.filter_filter]
 unfold Wk.fills
 refine List.filter_congr fun i hi=>?_
 have hi:=List.mem_range.1 hi
 obtain ⟨o1,o2,_⟩:=hok.ves i hi
 rw [Bool.eq_iff_iff,Bool.and_eq_true,beq_iff_eq,beq_iff_eq]
 constructor
 ·rintro ⟨h2,h3⟩
  unfold DK at h2
  simp only at h2
  by_cases e:i=v
  ·rw [if_pos e] at h2;omega
  ·rw [if_neg e] at h2
   rw [kJ hok v hi,Bool.or_eq_true,Bool.and_eq_true,beq_iff_eq,decide_eq_true_eq] at h3
   rcases h3 with h3 | ⟨h3,h4⟩
   ·exact absurd h3 e
   ·unfold lq at h2
    rw [if_pos h4] at h2
    have h5:=Lj k v (i:=(k.v i).from_.toNat) (by omega) h4
    rw [show cB k v (k.v i).from_.toNat=p by omega] at h5
    omega
 ·intro h2
  have e2:(k.v i).from_.toNat=gB k v p:=by omega
  have h3:inB k v i=true:=by
   rw [kJ hok v hi,e2,g2]
   simp
   omega
  have hge:=DN hok v _ g1 g2
  refine ⟨?_,h3⟩
  unfold DK
  simp only
  rw [if_neg (by omega),e2]
  unfold lq
  rw [if_pos g2,Qo k v hp]
theorem J9 {k:Wk} (hok:k.Ok) (s:SS):∀ m,m≤k.n→∀ i,k.n - m≤i→i < k.n→(mJ k s m).getD i 0=(up k s).getD i 0:=by
 have key:∀ d m,m+d≤k.n→∀ i,k.n - m≤i→i < k.n→(mJ k s (m+d)).getD i 0=(mJ k s m).getD i 0:=fun d=>by
  induction d with
  | zero=>exact fun _ _ _ _ _=>rfl
  | succ d ih =>
   intro m hm i h1 h2
   have hl:=kZ k s (m+d)
   have h6:=hok.le
   rw [show m+(d+1)=(m+d)+1 by omega,mJ,fC _ _ _ _ _ (by omega),if_neg (by omega)]
   exact ih m (by omega) i h1 h2
 intro m hm i h1 h2
 have:=key (k.n - m) m (by omega) i h1 h2
 rw [show m+(k.n - m)=k.n by omega] at this
 exact this.symm
theorem OL {out out':List Nat} {f:List Nat} (h:∀ x∈f,out.getD x 0=out'.getD x 0):sums out f=sums out' f:=by
 have key:∀ (f:List Nat) (m:Nat),(∀ x∈f,out.getD x 0=out'.getD x 0)→f.foldl (fun m x=>nV m (out.getD x 0)) m=f.foldl (fun m x=>nV m (out'.getD x 0)) m:=fun f=>by
  induction f with
  | nil=>exact fun _ _=>rfl
  | cons x f ih =>
   intro m h
   rw [List.foldl_cons,List.foldl_cons,h x (by simp)]
   exact ih _ fun y hy=>h y (by simp [hy])
 exact key f 1 h
theorem aaT {k:Wk} (hok:k.Ok) (s:SS) {i:Nat} (hi:i < k.n):(up k s).getD i 0=if k.fills i=[] then s.aK i else s.aK i &&& nV (sums (up k s) (k.fills i)) (dO (s.aP i).1 (s.aP i).2):=by
 have h6:=hok.le
 have hl:=kZ k s (k.n - 1 - i)
 have h1:=J9 hok s (k.n - 1 - i+1) (by omega) i (by omega) hi
 rw [← h1,mJ,show k.n - 1 - (k.n - 1 - i)=i by omega,fC _ _ _ _ _ (by omega),if_pos rfl]
 unfold uX
 by_cases h:k.fills i=[]
 ·rw [if_pos h,if_pos h]
 ·rw [if_neg h,if_neg h]
  congr 2
  refine OL fun x hx=>?_
  have hx:=rV hok hx
  rw [fC _ _ _ _ _ (by omega),if_neg (by omega)]
  exact J9 hok s _ (by omega) x (by omega) hx.2
theorem acu (m:Nat):nV m 0=0:=by
 have key:∀ (l:List Nat),l.foldl (rQ m 0) 0=0:=fun l=>by
  induction l with
  | nil=>rfl
  | cons n l ih =>
   rw [List.foldl_cons]
   have:rQ m 0 0 n=0:=by unfold rQ;simp
   rw [this];exact ih
 unfold nV gZ
 rw [key]
 rfl
theorem abC (v:Nat):nV 0 v=0:=by
 have key:∀ (l:List Nat),l.foldl (rQ 0 v) 0=0:=fun l=>by
  induction l with
  | nil=>rfl
  | cons n l ih =>
   rw [List.foldl_cons]
   have:rQ 0 v 0 n=0:=by unfold rQ;simp
   rw [this];exact ih
 unfold nV gZ
 rw [key]
 rfl
theorem acB {out f:List Nat} {x:Nat} (hx:x∈f) (h0:out.getD x 0=0):sums out f=0:=by
 have k0:∀ (f:List Nat),f.foldl (fun m x=>nV m (out.getD x 0)) 0=0:=fun f=>by
  induction f with
  | nil=>rfl
  | cons y f ih=>rw [List.foldl_cons,abC];exact ih
 have key:∀ (f:List Nat) (m:Nat),x∈f→f.foldl (fun m x=>nV m (out.getD x 0)) m=0:=fun f=>by
  induction f with
  | nil=>exact fun _ h=>nomatch h
  | cons y f ih =>
   intro m h
   rw [List.foldl_cons]
   rcases List.mem_cons.1 h with rfl | h
   ·rw [h0,acu];exact k0 f
   ·exact ih _ h
 exact key f 1 hx
theorem up_down {k:Wk} (hok:k.Ok) (s:SS) {i x:Nat} (hi:i < k.n) (hx:x∈k.fills i) (h:(up k s).getD i 0≠0):(up k s).getD x 0≠0:=fun h0=>by
 rw [aaT hok s hi,if_neg (fun e=>by rw [e] at hx;cases hx),acB hx h0,abC,Nat.and_zero] at h
 exact h rfl
theorem abO {k:Wk} (hok:k.Ok) (s:SS) {v:Nat} (h:(up k s).getD v 0≠0) (i:Nat):i < k.n→inB k v i=true→(up k s).getD i 0≠0:=by
 induction i using Nat.strongRecOn with
 | ind i ih =>
  intro hi hb
  rw [kJ hok v hi,Bool.or_eq_true,Bool.and_eq_true,beq_iff_eq,decide_eq_true_eq] at hb
  rcases hb with rfl | ⟨h1,h2⟩
  ·exact h
  ·have h3:=(hok.ves i hi).2.1
   have h4:=ih _ (by omega) (by omega) h2
   refine up_down hok s (by omega) (List.mem_filter.2 ⟨List.mem_range.2 hi,?_⟩) h4
   rw [beq_iff_eq]
   omega
theorem kP {k:Wk} (hok:k.Ok) {v:Nat} (hv:v < k.n):(k.branch v).Ok:=by
 have h0:0 < cB k v k.n:=by
  have:=vH k v hv (gq k v)
  omega
 have h6:=hok.le
 have hcl:=VQ k v k.n
 refine ⟨by rw [jy];exact h0,by rw [jy];omega,fun p hp=>?_,?_,fun q hq=>?_⟩
 ·rw [jy] at hp
  obtain ⟨g1,g2⟩:=uV k v hp
  obtain ⟨o1,o2,o3⟩:=hok.ves _ g1
  rw [zM k v hp]
  refine ⟨?_,?_,o3⟩
  ·show -1≤(DK k v (gB k v p)).from_
   unfold DK lq
   simp only
   split
   ·omega
   ·split <;> omega
  ·show (DK k v (gB k v p)).from_ < p
   unfold DK
   simp only
   split
   ·omega
   ·next e =>
    rw [kJ hok v g1,Bool.or_eq_true,Bool.and_eq_true,beq_iff_eq,decide_eq_true_eq] at g2
    rcases g2 with g2 | ⟨g2,g3⟩
    ·exact absurd g2 e
    ·unfold lq
     rw [if_pos g3]
     have:=vH k v (i:=(k.v (gB k v p)).from_.toNat) (j:=gB k v p) (by omega) g3
     rw [Qo k v hp] at this
     omega
 ·have:=wG k v k.rdg.length
  have:=hok.rdl
  show (kQ k v k.rdg.length).length≤6
  omega
 ·rw [jy]
  have hq':q < (kQ k v k.rdg.length).length:=hq
  have hm:(k.branch v).rdg.getD q default∈kQ k v k.rdg.length:=by
   show (kQ k v k.rdg.length).getD q default∈_
   rw [List.getD_eq_getElem?_getD,List.getElem?_eq_getElem hq']
   exact List.getElem_mem hq'
  obtain ⟨r,hr,he⟩:=List.mem_map.1 hm
  obtain ⟨hr1,hr2⟩:=List.mem_filter.1 hr
  rw [List.take_length] at hr1
  obtain ⟨j,hj,hjr⟩:=List.getElem_of_mem hr1
  have hro:=hok.rdg j hj
  have e:k.rdg.getD j default=r:=by simp [List.getD_eq_getElem?_getD,List.getElem?_eq_getElem hj,hjr]
  rw [e] at hro
  obtain ⟨o1,o2,o3⟩:=hro
  rw [← he]
  refine ⟨?_,?_,o3⟩
  ·show 0≤lq k v r.vessel.toNat
   unfold lq
   rw [if_pos hr2]
   omega
  ·show lq k v r.vessel.toNat < _
   unfold lq
   rw [if_pos hr2]
   have:=vH k v (i:=r.vessel.toNat) (j:=k.n) (by omega) hr2
   omega
theorem Vm (k:Wk) (h6:k.n≤6) (m:Nat) (hm:m≤k.n) (i:Nat):(lS k m).aK i=if i < m then dO 0 (k.v i).room else 0:=by
 induction m with
 | zero =>
  show (List.replicate 6 0).getD i 0=_
  rw [List.getD_eq_getElem?_getD,List.getElem?_replicate]
  split <;> simp
 | succ m ih =>
  have hl:=(nX k m).lim
  show ((lS k m).lim.set m (dO 0 (k.v m).room)).getD i 0=_
  rw [fC _ _ _ _ _ (by omega)]
  have ih':(lS k m).lim.getD i 0=_:=ih (by omega)
  by_cases e:m=i
  ·subst e;simp
  ·rw [if_neg e,ih']
   by_cases h2:i < m
   ·rw [if_pos h2,if_pos (by omega)]
   ·rw [if_neg h2,if_neg (by omega)]
def BD (x:Nat) (l:List je):Nat:=l.foldl (fun m r=>m &&& dO (r.shown - r.err) (r.shown+r.err)) x
theorem Dh {k:Wk} (h6:k.n≤6) (hr:∀ r∈k.rdg,0≤r.vessel∧r.vessel < k.n) (b:je→Bool) {i:Nat} (hi:i < k.n):(aN k b).aK i=BD (dO 0 (k.v i).room) (k.rdg.filter fun r=>!b r && r.vessel.toNat == i):=by
 have key:∀ (l:List je) (s:SS),s.WF→(∀ r∈l,0≤r.vessel∧r.vessel < k.n)→(l.foldl (lU b) s).aK i=BD (s.aK i) (l.filter fun r=>!b r && r.vessel.toNat == i):=fun l=>by
  induction l with
  | nil=>exact fun _ _ _=>rfl
  | cons r l ih =>
   intro s hs hl
   have hl0:=hl r (by simp)
   have hsl:=hs.lim
   rw [List.foldl_cons,ih _ (J7 hs r) fun x hx=>hl x (by simp [hx])]
   unfold lU
   by_cases hb:b r=true
   ·simp [hb]
   ·rw [if_neg hb]
    have e1:(s.cu r.vessel.toNat (s.aK r.vessel.toNat &&& dO (r.shown - r.err) (r.shown+r.err))).aK i=if r.vessel.toNat=i then s.aK r.vessel.toNat &&& dO (r.shown - r.err) (r.shown+r.err) else s.aK i:=fC _ _ _ _ _ (by omega)
    rw [e1]
    by_cases e:r.vessel.toNat=i
    ·subst e
     simp [hb,BD]
    ·simp [e]
 unfold aN
 rw [key k.rdg _ (nX k _) hr,Vm k h6 k.n (Nat.le_refl _),if_pos hi]
theorem yF {k:Wk} (hok:k.Ok):∀ r∈k.rdg,0≤r.vessel∧r.vessel < k.n:=fun r hr=>by
 obtain ⟨j,hj,hjr⟩:=List.getElem_of_mem hr
 have hro:=hok.rdg j hj
 have e:k.rdg.getD j default=r:=by simp [List.getD_eq_getElem?_getD,List.getElem?_eq_getElem hj,hjr]
 rw [e] at hro
 exact ⟨hro.1,hro.2.1⟩
theorem RZ (x:Nat) (l:List je) (f:je→je) (h:∀ r,(f r).shown=r.shown∧(f r).err=r.err):BD x (l.map f)=BD x l:=by
 unfold BD
 rw [List.foldl_map]
 congr 1
 funext m r
 rw [(h r).1,(h r).2]
theorem NW {k:Wk} (hok:k.Ok) {v:Nat} (hv:v < k.n) {p:Nat} (hp:p < cB k v k.n):(aN (k.branch v) aC).aK p=(aN k aC).aK (gB k v p):=by
 have hb:=kP hok hv
 obtain ⟨g1,g2⟩:=uV k v hp
 rw [Dh hb.le (yF hb) aC (by rw [jy];exact hp),Dh hok.le (yF hok) aC g1,zM k v hp]
 have e:(k.branch v).rdg.filter (fun r=>!aC r && r.vessel.toNat == p)=(k.rdg.filter fun r=>!aC r && r.vessel.toNat == gB k v p).map (Oj k v):=by
  show (kQ k v k.rdg.length).filter _=_
  unfold kQ
  rw [List.take_length,List.filter_map,List.filter_filter]
  congr 1
  refine List.filter_congr fun r hr=>?_
  obtain ⟨r1,r2⟩:=yF hok r hr
  rw [Bool.eq_iff_iff]
  simp only [aC,Bool.not_false,Bool.true_and,Function.comp,Bool.and_eq_true,beq_iff_eq]
  constructor
  ·rintro ⟨h1,h2⟩
   unfold Oj lq at h1
   simp only at h1
   rw [if_pos h2] at h1
   have:=Lj k v (i:=r.vessel.toNat) (by omega) h2
   rw [← this]
   congr 1
  ·intro h1
   rw [h1]
   refine ⟨?_,g2⟩
   unfold Oj lq
   simp only
   rw [h1,if_pos g2,Qo k v hp]
   omega
 rw [e,RZ _ _ (Oj k v) fun r=>⟨rfl,rfl⟩]
 rfl
theorem Oz {k:Wk} (hok:k.Ok) {v:Nat} (hv:v < k.n) {p:Nat} (hp:p < cB k v k.n):(aN (k.branch v) aC).aP p=(aN k aC).aP (gB k v p):=by
 have hb:=kP hok hv
 obtain ⟨g1,_⟩:=uV k v hp
 rw [rW _ hb,rW _ hok,if_pos (by rw [jy];exact hp),if_pos g1,zM k v hp]
 rfl
theorem fold_map {A B:List Nat} {g:Nat→Nat}:∀ (f:List Nat) (m:Nat),(∀ x∈f,A.getD x 0=B.getD (g x) 0)→f.foldl (fun m x=>nV m (A.getD x 0)) m=(f.map g).foldl (fun m x=>nV m (B.getD x 0)) m
 | [],_,_=>rfl
 | x :: f,m,h=>by
  rw [List.map_cons,List.foldl_cons,List.foldl_cons,h x (by simp)]
  exact fold_map f _ fun y hy=>h y (by simp [hy])
theorem acL {A B:List Nat} {g:Nat→Nat} {f:List Nat} (h:∀ x∈f,A.getD x 0=B.getD (g x) 0):sums A f=sums B (f.map g):=fold_map f 1 h
theorem acd {k:Wk} (hok:k.Ok) {v:Nat} (hv:v < k.n) {s t:SS} {p:Nat} (hp:p < cB k v k.n) (hl:s.aK p=t.aK (gB k v p)) (ho:s.aP p=t.aP (gB k v p))
  (ih:∀ x,p < x→x < cB k v k.n→(up (k.branch v) s).getD x 0=(up k t).getD (gB k v x) 0):(up (k.branch v) s).getD p 0=(up k t).getD (gB k v p) 0:=by
 have hb:=kP hok hv
 obtain ⟨g1,_⟩:=uV k v hp
 have hfl:=I7 hok v hp
 have hx:∀ x∈(k.branch v).fills p,(up (k.branch v) s).getD x 0=(up k t).getD (gB k v x) 0:=fun x hx=>by
  have h:=rV hb hx
  rw [jy] at h
  exact ih x h.1 h.2
 have e1:=aaT hb s (by rw [jy];exact hp)
 have e2:=aaT hok t g1
 have e3:=acL hx
 rw [hfl] at e3
 rw [e1,e2,hl,ho,e3]
 generalize (k.branch v).fills p=F at hfl
 generalize k.fills (gB k v p)=F' at hfl
 subst hfl
 by_cases e:F=[]
 ·rw [if_pos e,if_pos (by rw [e];rfl)]
 ·rw [if_neg e,if_neg (by simpa using e)]
theorem acH {k:Wk} (hok:k.Ok) {v:Nat} (hv:v < k.n) {s t:SS} (hl:∀ p,p < cB k v k.n→s.aK p=t.aK (gB k v p)) (ho:∀ p,p < cB k v k.n→s.aP p=t.aP (gB k v p)) (p:Nat) (hp:p < cB k v k.n) :
  (up (k.branch v) s).getD p 0=(up k t).getD (gB k v p) 0:=by
 have key:∀ d p,cB k v k.n - p≤d→p < cB k v k.n→(up (k.branch v) s).getD p 0=(up k t).getD (gB k v p) 0:=fun d=>by
  induction d with
  | zero=>exact fun p h1 h2=>by omega
  | succ d ih=>exact fun p h1 h2=>acd hok hv h2 (hl p h2) (ho p h2) fun x h3 h4=>ih x (by omega) h4
 exact key _ p (Nat.le_refl _) hp
theorem aco {k:Wk} (hok:k.Ok) {v:Nat} (hv:v < k.n):can (k.branch v) (aN (k.branch v) aC)=((up k (aN k aC)).getD v 0 != 0):=by
 rw [Bool.eq_iff_iff,XA,bne_iff_ne,jy]
 have hu:=fun p hp=>acH hok hv (s:=aN (k.branch v) aC) (t:=aN k aC) (fun p hp=>NW hok hv hp) (fun p hp=>Oz hok hv hp) p hp
 constructor
 ·intro h
  have hp:=vH k v hv (gq k v)
  have h1:=h _ hp
  rw [hu _ hp,Lj k v hv (gq k v)] at h1
  exact h1
 ·intro h p hp
  obtain ⟨g1,g2⟩:=uV k v hp
  rw [hu p hp]
  exact abO hok _ h _ g1 g2
end Go.Wg
namespace Go.Proofs.YtjjmefieegcddaaDoor
open Go.RowKit Go.Wg Go.Mm
variable {w:World} {V:View}
theorem TV {w0:World} {X:List Nat} {L:List dF} {v:Value} {t:TypeId} {s n:Nat} {xs:List Value} (h:St w0 X V (.row v t s n xs :: L) w):∃ a cap,v=.slice a n cap:=by
 rcases rO h with ⟨rfl,h0⟩ | ⟨g,cap,_,rfl,_⟩
 ·exact ⟨none,0,by rw [h0]⟩
 ·exact ⟨_,_,rfl⟩
theorem X4 {k:Wk} {v i:Nat} {N:List Int} (hN:N.length=k.n) (hi:i < k.n) (h:∀ j,j < i→N.getD j 0=lq k v j) {x:Int} (hx:x=lq k v i):∀ j,j < i+1→((N.set i (-1)).set i x).getD j 0=lq k v j:=fun j hj=>by
 rw [List.set_set,fC _ _ _ _ _ (by omega)]
 by_cases e:i=j
 ·subst e;rw [if_pos rfl,hx]
 ·rw [if_neg e];exact h j (by omega)
theorem VU {k:Wk} {v i:Nat} {N:List Int} (hN:N.length=k.n) (hi:i < k.n) (h:∀ j,j < i→N.getD j 0=lq k v j) (hx:inB k v i=false):∀ j,j < i+1→(N.set i (-1)).getD j 0=lq k v j:=fun j hj=>by
 rw [fC _ _ _ _ _ (by omega)]
 by_cases e:i=j
 ·subst e;rw [if_pos rfl];unfold lq;rw [hx];rfl
 ·rw [if_neg e];exact h j (by omega)
theorem XO {k:Wk} {v i:Nat} (h:inB k v i=true):lq k v i=(cB k v i:Int):=by
 unfold lq
 rw [if_pos h]
set_option maxRecDepth 40000 in
theorem Rq {vv rv:Value} {k:Wk} (hk:iJ V vv rv k) (hok:k.Ok) {v:Nat} (hv:v < k.n) (hV:V.In w) :
  Calls Tryd.prog 35 #[.agg #[vv,rv],.int .i64 (v:Int)] w fun e w'=>∃ vv' rv',e=.returned (.agg #[vv',rv']) ∧
   St w [] V [.row vv' 29 4 (k.branch v).n (fD (k.branch v).ves),.row rv' 59 4 (k.branch v).rdg.length (fH (k.branch v).rdg)] w':=by
 obtain ⟨va,vcap,rfl,hvc,hvm,hve⟩:=hk.ves.is
 obtain ⟨ra,rcap,rfl,hrc,hrm,hre⟩:=hk.rdg.is
 obtain ⟨vg,vo,rfl,hvr⟩:=hve (by omega)
 have hn6:=hok.le
 have hr6:=hok.rdl
 have hS:=St.start w V hV
 clear hk hve
 go_enter Tryd.func35,Tryd.ntmps35
 go_wp2_with (first | (first | (((with_reducible refine gL ?_);refine gY hS rfl rfl rfl ?_);refine ⟨_,zd,?_⟩;clear hS;(try clear w');intro a' hp;(try simp only [fr] at hp);subst hp;intro w' hS;(try simp only [sE] at hS)) | ((with_reducible refine gB ?_);refine iK 2 rfl hS rfl rfl rfl ?_;refine ⟨_,za,?_⟩;clear hS;(try clear w');intro b2;intro a' hp;(try simp only [fr] at hp);subst hp;intro w' hS) | ((with_reducible refine gA ?_);refine aT 4 rfl hS rfl rfl ?_;clear hS;(try clear w');intro b4;intro a' hp;(try simp only [fr] at hp);subst hp;intro w' hS) | ((with_reducible refine gA ?_);refine aT 6 rfl hS rfl rfl ?_;clear hS;(try clear w');intro b6;intro a' hp;(try simp only [fr] at hp);subst hp;intro w' hS)) | ((with_reducible refine gMk ?_);refine U6 14 rfl hS rfl rfl rfl rfl (by omega) ?_;clear hS;(try clear w');intro b14;intro a' hp;(try simp only [fr] at hp);subst hp;intro w' hS))
 replace hS:=hS.nilRow 29 4
 have hN0:(List.replicate k.n (0:Int)).length=k.n:=List.length_replicate
 go_loopw [7] (fun iv wr=>∃ (i:Nat) (va:Value) (N:List Int),iv=.int .i64 (i:Int)∧i≤k.n∧N.length=k.n∧(∀ j,j < i→N.getD j 0=lq k v j) ∧
  St w [] V [.row va 29 4 (cB k v i) (fD (rF k v i)),.blk b6 25 [va,.slice none 0 0],.blk b14 3 (aV N),.blk b4 25 [.slice none 0 0,.slice none 0 0],.blk b2 25 [.slice (some ⟨vg,vo,none⟩) k.n vcap,.slice ra k.rdg.length rcap]] wr) (fun iv _=>k.n - (intOf iv).toNat)
 case atStart=>exact ⟨0,.slice none 0 0,_,rfl,by omega,hN0,(fun j hj=>absurd hj (by omega)),hS⟩
 case round =>
  clear hS hN0
  obtain ⟨i,va,N,rfl,hi,hNl,hN,hS⟩:=hrel
  by_cases hlt:i < k.n
  ·have h0:(0:Int)≤i:=by omega
   have h1:(i:Int) < k.n:=by omega
   have hcell:=hvr i hlt
   have hcl:(k.v i).cells.length=4:=rfl
   have hvi:=hok.ves i hlt
   have hfi:=hvi.2.1
   have hin:=kJ hok v hlt
   have hlN:(aV N).length=k.n:=by rw [iD,hNl]
   have hlN1:(aV (N.set i (-1))).length=k.n:=Fe hlN
   have hcB:=yZ k v i
   have hvB:=PO k v i
   have hle:=VQ k v i
   have hnh:=fun x hx=>X4 (x:=x) hNl hlt hN hx
   have hnm:=VU hNl hlt hN
   have hnum:=XO (k:=k) (v:=v) (i:=i)
   have hvl:=Gp k v i
   have hNf:∀ f,f < i→(aV (N.set i (-1)))[f]? = some (.int .i64 (lq k v f)):=fun f hf=>by
    rw [nI rfl (by rw [List.length_set];omega),fC _ _ _ _ _ (by omega),if_neg (by omega),hN f hf]
   have hneg:=fun f=>Ld k v f
   have hve':DK k v i=⟨if i=v then -1 else lq k v (k.v i).from_.toNat,(k.v i).room,(k.v i).lo,(k.v i).hi⟩:=rfl
   have hf0:=hvi.1
   unfold nN.cells at hcell
   obtain ⟨a0,cp,rfl⟩:=TV hS
   generalize rF k v i=O at hS hvB hvl
   generalize hc:cB k v i=c at hS hcB hle hnum hvl
   have hol:(fD O).length=c * 4:=by rw [fD,jK _ (fun _=>rfl),hvl]
   clear hvi hN
   generalize (k.v i).from_=f at hcell hfi hin hve' hf0
   generalize (k.v i).room=ro at hcell hve'
   generalize (k.v i).lo=lo at hcell hve'
   generalize (k.v i).hi=hi' at hcell hve'
   by_cases hiv:i=v
   ·subst hiv
    have hb:inB k i i=true:=gq k i
    rw [if_pos hb] at hcB hvB
    rw [if_pos rfl] at hve'
    rw [hve'] at hvB
    have hnn:=hnh _ (hnum hb).symm
    replace hcB:=aj hcB;replace hvB:=aj hvB;replace hnn:=aj hnn;replace hc:=aj hc
    clear hnh hnm hnum hNf hneg hve' hin hb hfi hf0
    go_wp2_with (first | ((first | ((first | ((with_reducible refine gL ?_);first | refine gY hS rfl rfl rfl ?_ | refine lW hS rfl rfl rfl ?_ | refine zQ hS rfl rfl rfl ?_) | ((with_reducible refine gS ?_);first | refine pX hS rfl rfl rfl ?_ | refine bQ hS rfl rfl rfl ?_));refine ⟨_,zd,?_⟩;clear hS;(try clear w');intro a' hp;(try simp only [fr] at hp);subst hp;intro w' hS;(try simp only [sE] at hS)) | (((with_reducible refine gA ?_);refine dM hS rfl rfl ?_);clear hS;(try clear w');intro _;intro a' hp;(try simp only [fr] at hp);subst hp;intro w' hS));try (simp only [jJ] at hS)) | ((with_reducible refine uP ?_);refine zU hS rfl (pK (a:=⟨_,_,_,_⟩) rfl rfl) ?_;clear hS;(try clear w');intro _ a' hp;(try simp only [fr] at hp);subst hp;intro w' hS) | ((with_reducible refine Q5 ?_);refine Ui rfl rfl ?_;refine ⟨_,_,_,_,by exact rfl,by exact rfl,?_⟩;refine eH hS zd ?_;clear hS;(try clear w');intro va w' hS;intro a' hp;(try simp only [fr] at hp);subst hp;(try simp only [sE] at hS);have hva:=dY hS va))
    go_roundw
    case rel =>
     rw [uO] at hS
     refine ⟨i+1,va,_,by go_num,by omega,by simp [hNl],hnn.out,?_⟩
     rw [hcB.out,hvB.out]
     exact hS.aG
    case measure=>simp only [intOf];omega
   ·have hiv':¬ ((i:Int)=(v:Int)):=by omega
    rw [if_neg hiv] at hve'
    by_cases hfr:f < 0
    ·have hb:inB k v i=false:=by rw [hin];simp [hiv];omega
     rw [hb,if_neg (by decide),Nat.add_zero] at hcB
     rw [hb,if_neg (by decide)] at hvB
     have hnn:=hnm hb
     replace hcB:=aj hcB;replace hvB:=aj hvB;replace hnn:=aj hnn;replace hc:=aj hc
     clear hnh hnm hnum hNf hneg hve' hin hb hfi hf0
     go_wp2_with ((first | ((first | ((with_reducible refine gL ?_);first | refine gY hS rfl rfl rfl ?_ | refine zQ hS rfl rfl rfl ?_) | ((with_reducible refine gS ?_);first | refine pX hS rfl rfl rfl ?_ | refine bQ hS rfl rfl rfl ?_));refine ⟨_,zd,?_⟩;clear hS;(try clear w');intro a' hp;(try simp only [fr] at hp);subst hp;intro w' hS;(try simp only [sE] at hS)) | (((with_reducible refine gA ?_);refine dM hS rfl rfl ?_);clear hS;(try clear w');intro _;intro a' hp;(try simp only [fr] at hp);subst hp;intro w' hS));try (simp only [jJ] at hS))
     go_roundw
     case rel =>
      refine ⟨i+1,.slice a0 c cp,N.set i (-1),by go_num,by omega,by simp [hNl],hnn.out,?_⟩
      rw [hcB.out,hvB.out]
      exact hS.aG
     case measure=>simp only [intOf];omega
    ·obtain ⟨fn,rfl⟩:∃ fn:Nat,f=(fn:Int):=⟨f.toNat,by omega⟩
     have hfi':fn < i:=by omega
     have hfk:(fn:Int) < k.n:=by omega
     have hf0':(0:Int)≤fn:=by omega
     have hcf:=hNf fn hfi'
     have hng:=hneg fn
     rw [Int.toNat_natCast] at hin hve'
     generalize lq k v fn=y at hcf hng hve'
     by_cases hy:y < 0
     ·have hb:inB k v i=false:=by rw [hin,hng.1 hy];simp [hiv]
      rw [hb,if_neg (by decide),Nat.add_zero] at hcB
      rw [hb,if_neg (by decide)] at hvB
      have hnn:=hnm hb
      replace hcB:=aj hcB;replace hvB:=aj hvB;replace hnn:=aj hnn;replace hc:=aj hc
      clear hnh hnm hnum hNf hneg hve' hin hb hfi hf0 hng
      go_wp2_with ((first | ((first | ((with_reducible refine gL ?_);first | refine gY hS rfl rfl rfl ?_ | refine zQ hS rfl rfl rfl ?_) | ((with_reducible refine gS ?_);first | refine pX hS rfl rfl rfl ?_ | refine bQ hS rfl rfl rfl ?_));refine ⟨_,zd,?_⟩;clear hS;(try clear w');intro a' hp;(try simp only [fr] at hp);subst hp;intro w' hS;(try simp only [sE] at hS)) | (((with_reducible refine gA ?_);refine dM hS rfl rfl ?_);clear hS;(try clear w');intro _;intro a' hp;(try simp only [fr] at hp);subst hp;intro w' hS));try (simp only [jJ] at hS))
      go_roundw
      case rel =>
       refine ⟨i+1,.slice a0 c cp,N.set i (-1),by go_num,by omega,by simp [hNl],hnn.out,?_⟩
       rw [hcB.out,hvB.out]
       exact hS.aG
      case measure=>simp only [intOf];omega
     ·have hb:inB k v i=true:=by
       rw [hin]
       have:inB k v fn=true:=by
        cases hh:inB k v fn
        ·exact absurd (hng.2 hh) hy
        ·rfl
       rw [this]
       simp
      rw [if_pos hb] at hcB hvB
      rw [hve'] at hvB
      have hnn:=hnh _ (hnum hb).symm
      replace hcB:=aj hcB;replace hvB:=aj hvB;replace hnn:=aj hnn;replace hc:=aj hc
      clear hnh hnm hnum hNf hneg hve' hin hb hfi hf0 hng
      go_wp2_with (first | ((first | ((first | ((with_reducible refine gL ?_);first | refine gY hS rfl rfl rfl ?_ | refine lW hS rfl rfl rfl ?_ | refine zQ hS rfl rfl rfl ?_) | ((with_reducible refine gS ?_);first | refine pX hS rfl rfl rfl ?_ | refine bQ hS rfl rfl rfl ?_));refine ⟨_,zd,?_⟩;clear hS;(try clear w');intro a' hp;(try simp only [fr] at hp);subst hp;intro w' hS;(try simp only [sE] at hS)) | (((with_reducible refine gA ?_);refine dM hS rfl rfl ?_);clear hS;(try clear w');intro _;intro a' hp;(try simp only [fr] at hp);subst hp;intro w' hS));try (simp only [jJ] at hS)) | ((with_reducible refine uP ?_);refine zU hS rfl (pK (a:=⟨_,_,_,_⟩) rfl rfl) ?_;clear hS;(try clear w');intro _ a' hp;(try simp only [fr] at hp);subst hp;intro w' hS) | ((with_reducible refine Q5 ?_);refine Ui rfl rfl ?_;refine ⟨_,_,_,_,by exact rfl,by exact rfl,?_⟩;refine eH hS zd ?_;clear hS;(try clear w');intro va w' hS;intro a' hp;(try simp only [fr] at hp);subst hp;(try simp only [sE] at hS);have hva:=dY hS va))
      go_roundw
      case rel =>
       rw [uO] at hS
       refine ⟨i+1,va,_,by go_num,by omega,by simp [hNl],hnn.out,?_⟩
       rw [hcB.out,hvB.out]
       exact hS.aG
      case measure=>simp only [intOf];omega
  ·obtain rfl:i=k.n:=by omega
   have hva:=dY hS va
   have hm:=fun r hr=>yF hok r hr
   have hlN:(aV N).length=k.n:=by rw [iD,hNl]
   have hcN:∀ j,j < k.n→(aV N)[j]? = some (.int .i64 (lq k v j)):=fun j hj=>by
    rw [nI rfl (by omega),hN j hj]
   clear hlt hi hN hvr
   replace hS:=hS.nilRow 59 4
   go_wp2_with (((with_reducible refine gL ?_);refine gY hS rfl rfl rfl ?_);refine ⟨_,zd,?_⟩;clear hS;(try clear w');intro a' hp;(try simp only [fr] at hp);subst hp;intro w' hS;(try simp only [sE] at hS))
   go_loopw [9] (fun iv wr=>∃ (q:Nat) (ru:Value),iv=.int .i64 (q:Int)∧q≤k.rdg.length ∧
    St w [] V [.row ru 59 4 (kQ k v q).length (fH (kQ k v q)),.row va 29 4 (cB k v k.n) (fD (rF k v k.n)),.blk b6 25 [va,ru],.blk b14 3 (aV N),.blk b4 25 [.slice none 0 0,.slice none 0 0],.blk b2 25 [.slice (some ⟨vg,vo,none⟩) k.n vcap,.slice ra k.rdg.length rcap]] wr) (fun iv _=>k.rdg.length - (intOf iv).toNat)
   case atStart=>exact ⟨0,.slice none 0 0,rfl,by omega,hS⟩
   case round =>
    clear hS
    obtain ⟨q,ru,rfl,hq,hS⟩:=hrel
    by_cases hlt:q < k.rdg.length
    ·have h0:(0:Int)≤q:=by omega
     have h1:(q:Int) < k.rdg.length:=by omega
     obtain ⟨rg,rx,rfl,hrr⟩:=hre (by omega)
     have hcell:=hrr q hlt
     have hcl:(k.rdg.getD q default).cells.length=4:=rfl
     have hmr:=hm (k.rdg.getD q default) (by
      rw [List.getD_eq_getElem?_getD,List.getElem?_eq_getElem hlt]
      exact List.getElem_mem hlt)
     have hsu:=NH k v hlt
     have hrB:Oj k v (k.rdg.getD q default)=⟨lq k v (k.rdg.getD q default).vessel.toNat,(k.rdg.getD q default).scale,(k.rdg.getD q default).shown,(k.rdg.getD q default).err⟩:=rfl
     rw [hrB] at hsu
     have hll:=wG k v q
     unfold je.cells at hcell
     generalize kQ k v q=O at hS hsu hll
     have hol:(fH O).length=O.length * 4:=by rw [fH,jK _ (fun _=>rfl)]
     clear hrB hrr hre hm
     generalize (k.rdg.getD q default).vessel=f at hcell hsu hmr
     generalize (k.rdg.getD q default).scale=sc at hcell hsu
     generalize (k.rdg.getD q default).shown=sh at hcell hsu
     generalize (k.rdg.getD q default).err=er at hcell hsu
     obtain ⟨hm0,hm1⟩:=hmr
     obtain ⟨fn,rfl⟩:∃ fn:Nat,f=(fn:Int):=⟨f.toNat,by omega⟩
     have hcf:=hcN fn (by omega)
     have hng:=Ld k v fn
     rw [Int.toNat_natCast] at hsu
     generalize lq k v fn=y at hcf hng hsu
     by_cases hy:0≤y
     ·have hb:inB k v fn=true:=by
       cases hh:inB k v fn
       ·have:=hng.2 hh;omega
       ·rfl
      rw [if_pos hb] at hsu
      replace hsu:=aj hsu
      clear hng hb hcN
      go_wp2_with (first | (first | ((first | ((with_reducible refine gL ?_);first | refine gY hS rfl rfl rfl ?_ | refine lW hS rfl rfl rfl ?_ | refine zQ hS rfl rfl rfl ?_) | ((with_reducible refine gS ?_);first | refine pX hS rfl rfl rfl ?_ | refine bQ hS rfl rfl rfl ?_));refine ⟨_,zd,?_⟩;clear hS;(try clear w');intro a' hp;(try simp only [fr] at hp);subst hp;intro w' hS;(try simp only [sE] at hS)) | (((with_reducible refine gA ?_);refine dM hS rfl rfl ?_);clear hS;(try clear w');intro _;intro a' hp;(try simp only [fr] at hp);subst hp;intro w' hS)) | ((with_reducible refine uP ?_);refine zU hS rfl (oP (a:=⟨_,_,_,_⟩) rfl rfl) ?_;clear hS;(try clear w');intro _ a' hp;(try simp only [fr] at hp);subst hp;intro w' hS) | ((with_reducible refine Q5 ?_);refine Ui rfl rfl ?_;refine ⟨_,_,_,_,by exact rfl,by exact rfl,?_⟩;refine eH hS zd ?_;clear hS;(try clear w');intro va w' hS;intro a' hp;(try simp only [fr] at hp);subst hp;(try simp only [sE] at hS);have hva:=dY hS va))
      go_roundw
      case rel =>
       rw [Np] at hS
       refine ⟨q+1,va,by go_num,by omega,?_⟩
       rw [hsu.out,List.length_append]
       exact hS.aG
      case measure=>simp only [intOf];omega
     ·have hb:inB k v fn=false:=hng.1 (by omega)
      rw [hb,if_neg (by decide)] at hsu
      replace hsu:=aj hsu
      clear hng hb hcN
      go_wp2_with (first | ((first | ((with_reducible refine gL ?_);first | refine gY hS rfl rfl rfl ?_ | refine zQ hS rfl rfl rfl ?_) | ((with_reducible refine gS ?_);refine bQ hS rfl rfl rfl ?_));refine ⟨_,zd,?_⟩;clear hS;(try clear w');intro a' hp;(try simp only [fr] at hp);subst hp;intro w' hS;(try simp only [sE] at hS)) | (((with_reducible refine gA ?_);refine dM hS rfl rfl ?_);clear hS;(try clear w');intro _;intro a' hp;(try simp only [fr] at hp);subst hp;intro w' hS))
      go_roundw
      case rel =>
       refine ⟨q+1,ru,by go_num,by omega,?_⟩
       rw [hsu.out]
       exact hS.aG
      case measure=>simp only [intOf];omega
    ·obtain rfl:q=k.rdg.length:=by omega
     have hone2:∀ u∈[va,ru],u.oneCell'=true:=qB hva (dY hS ru)
     go_wp2_with ((first | ((with_reducible refine gL ?_);first | refine gY hS rfl rfl rfl ?_ | refine lW hS rfl rfl rfl ?_) | ((with_reducible refine gS ?_);refine bQ hS rfl rfl rfl ?_));refine ⟨_,zd,?_⟩;clear hS;(try clear w');intro a' hp;(try simp only [fr] at hp);subst hp;intro w' hS;(try simp only [sE] at hS))
     ((try simp only [Exit.inBlock,Exit.then]);(try refine aB ?_);refine bK ⟨_,by exact bH (r1:=.cell 4 25) (by kernel_rfl) (by exact rX hS rfl zd),?_⟩ rfl)
     refine ⟨va,ru,rfl,?_⟩
     rw [jy]
     have h1:St w [] V [.row ru 59 4 (kQ k v k.rdg.length).length (fH (kQ k v k.rdg.length)),.row va 29 4 (cB k v k.n) (fD (rF k v k.n))] _:=hS.aG
     exact h1.perm (List.Perm.swap _ _ _)
open Go.Wk
open Go Go.Sr Go.Ph Go.Tm Go.Conc
def jk (w:World) (b n:Nat) (l:List Nat):Prop :=
 ∃ D:DataW Nat,Go.Maps.IsMap D∧w.ownsMap Tryd.prog 95 (plainElem Tryd.prog 4) b n D∧∀ m:Nat,m < 18446744073709551616→D.atKey (.int .u64 (m:Int)) (.lit (.bool false))=.lit (.bool (l.contains m))
theorem Zp {m:Nat} (h:m < 18446744073709551616):(Lit.int .u64 (m:Int)).wf=true:=by
 simp [Lit.wf,IntKind.min,IntKind.max,IntKind.bits,IntKind.signed]
 omega
theorem Yr {m:Nat} (h:m < 18446744073709551616):keyOf Tryd.prog 95 (.int .u64 (m:Int))=some (.int .u64 (m:Int)):=Go.Maps.keyOf_int_mk Tryd.underlying95 (Zp h)
theorem jk.made (w:World):jk (w.alloc (.map #[] 0)) w.heap.size 0 [] :=
 ⟨.map [],Go.Maps.isMap_empty,World.ownsMap_made w _ _ _,fun m _=>rfl⟩
theorem jk.of_heap {w w':World} {b n:Nat} {l:List Nat} (h:jk w b n l) (hb:w'.heap[b]? = w.heap[b]?):jk w' b n l:=by
 obtain ⟨D,h1,⟨es,clock,h2,h3,h4,h5⟩,h6⟩:=h
 exact ⟨D,h1,⟨es,clock,hb.trans h2,h3,h4,h5⟩,h6⟩
theorem jk.lt {b n:Nat} {l:List Nat} (h:jk w b n l):b < w.heap.size:=by
 obtain ⟨D,_,h,_⟩:=h
 exact h.lt
theorem jk.obj {b n:Nat} {l:List Nat} (h:jk w b n l):∃ es clock,w.heap[b]? = some (.map es clock):=by
 obtain ⟨D,_,⟨es,clock,h,_⟩,_⟩:=h
 exact ⟨es,clock,h⟩
theorem aaI (w:World):(zeroValue 4).run Tryd.prog w=.ok (.bool false) w:=by
 have hi:(Tryd.prog.info? 4).bind (·.zero)=some (.bool false):=by kernel_rfl
 cases hq:Tryd.prog.info? 4 with
 | none=>rw [hq] at hi;cases hi
 | some i =>
  rw [hq] at hi
  have hz:i.zero=some (.bool false):=by simpa using hi
  simp [Go.zeroValue,Go.typeInfo,hq,hz]
theorem WV {P:Program} {e:TypeId} (he:P.underlying e=some .bool) {v:Value} {x:Bool} {ps:List MemPlace} (h:plainElem (H:=Nat) P e v=some (.lit (.bool x),ps)):v=.bool x:=by
 unfold plainElem at h
 rw [he] at h
 cases v <;> simp at h
 rw [h.1]
theorem jk.look {b n:Nat} {l:List Nat} (h:jk w b n l) {m:Nat} (hm:m < 18446744073709551616):(Instr.lookup 134 (.map (some b)) (.int .u64 (m:Int)) false).run Tryd.prog w=.ok (.bool (l.contains m)) w:=by
 obtain ⟨D,h1,h2,h3⟩:=h
 obtain ⟨v,ps,hr,hv⟩:=h2.lookup (Go.Maps.int_keyed Tryd.underlying95) Tryd.underlying134 (aaI w) (plainElem_bool Tryd.underlying4 false) (Yr hm)
 rw [h3 m hm] at hv
 have e:v=.bool (l.contains m):=WV Tryd.underlying4 hv
 subst e
 exact hr
theorem jk.put {b n:Nat} {l:List Nat} (h:jk w b n l) {m:Nat} (hm:m < 18446744073709551616) (hn:n < 1000000):∃ w',(Instr.mapUpdate 134 (.map (some b)) (.int .u64 (m:Int)) (.bool true)).run Tryd.prog w=.ok () w'∧jk w' b (n+1) (m :: l)∧w.grownBy w' (some b):=by
 obtain ⟨D,h1,h2,h3⟩:=h
 obtain ⟨w',hr,ho,hg⟩:=h2.update (Go.Maps.int_keyed Tryd.underlying95) Tryd.underlying134 (Nat.lt_trans hn (by decide)) (Yr hm) (plainElem_bool Tryd.underlying4 true)
 refine ⟨w',hr,⟨D.put (.int .u64 (m:Int)) (.lit (.bool true)),?_,ho,fun m' hm'=>?_⟩,hg⟩
 ·obtain ⟨es,rfl⟩:=h1
  exact ⟨_,rfl⟩
 ·by_cases e:m'=m
  ·subst e
   rw [Go.Maps.atKey_put_same h1 (by simp [Go.WideAt.IsKeyLit])]
   simp
  ·rw [Go.Maps.atKey_put_other (by
    intro h
    simp only [Lit.int.injEq,true_and] at h
    exact e (by omega)),h3 m' hm']
   simp [e]
theorem DX {o:Oper} {ρ:Operand→Value} (ho:o.op=.makeMap 134 none) (w:World):(execOp ρ o).run Tryd.prog w=.ok (.value (.map (some w.heap.size))) (w.alloc (.map #[] 0)):=by
 unfold execOp
 simp [ho,Instr.makeMap,Tryd.underlying134]
set_option maxRecDepth 20000 in
theorem Nl (a:Int × Int) (h:Pb 100000000000 a) (w:World) :
  Calls Tryd.prog 98 #[aJ a] w fun r w'=>r=.returned (.int .i64 (oQ a))∧Kp w w':=by
 unfold Pb at h
 unfold oQ
 obtain ⟨a1,a2⟩:=a
 simp only at h
 obtain ⟨h1,h2,h3,h4⟩:=h
 have hS:=St.start w (fun _=>none) (fun k o h=>by cases h)
 unfold aJ
 go_enter Tryd.func98,Tryd.ntmps98
 go_wp2_with (first | (((with_reducible refine gL ?_);refine gY hS rfl rfl rfl ?_);refine ⟨_,zd,?_⟩;clear hS;(try clear w');intro a' hp;(try simp only [fr] at hp);subst hp;intro w' hS;(try simp only [sE] at hS)) | (((with_reducible refine gB ?_);refine jQ hS rfl rfl rfl ?_;refine ⟨_,za,?_⟩);clear hS;(try clear w');intro _;intro a' hp;(try simp only [fr] at hp);subst hp;intro w' hS))
 go_ret
 exact ⟨rfl,hS.bM⟩
theorem GH (k:Wk) (hk:k.n≤6) (s:SS) (st:Bool) (hlo:∀ i,0≤(s.aP i).1):Pb 70589400 (dW k s st):=by
 rw [Dw]
 have h:=Xv (l:=k.sources.map (kX k s st)) (c:=11764900) (fun x hx=>by
  obtain ⟨i,_,rfl⟩:=List.mem_map.1 hx
  exact Hy k hk s st hlo i)
 refine h.mono ?_
 have:=Nat.le_trans (sD k k.n) hk
 rw [List.length_map]
 have e:k.sources.length≤6:=this
 omega
end Go.Proofs.YtjjmefieegcddaaDoor
