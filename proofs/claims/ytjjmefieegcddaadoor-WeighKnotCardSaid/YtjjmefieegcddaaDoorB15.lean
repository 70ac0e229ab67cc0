/- A part of the proof: W40, W41, T24, W42, T25, T26, W56, W57, W58, W59. -/
import Derived.Test.YtjjmefieegcddaaDoorB14
import Derived.Defers
import Derived.Test.YtjjmefieegcddaaDoorB12
import Derived.Test.YtjjmefieegcddaaDoorB07
import Derived.RangeFuncRecord
import Derived.RangeFuncWrites
import Derived.OrdersHeld
import Derived.TacticsIn
import Derived.Scope
import Derived.Deep.OwnRows
import Derived.Shelf.Abstract
set_option linter.unusedVariables false
set_option linter.unusedSimpArgs false
namespace Go.Proofs.YtjjmefieegcddaaDoor
open Go.RowKit Go.Wg Go.Mm Go.Wk
open Go Go.Sr Go.Ph Go.Tm Go.Conc
section
variable {V:View} {wA w w1 w2:World} {p:Nat} {k:Wk} {ts:List Nat} {vv rv:Value} {s:SS} {st:Bool} {b4 b5 b6 b7 c g cap bo:Nat} {D:List Nat} {cur:Array Value} {D1 wr1 x:Nat→Prop} {E WW:List Nat}
def TotQ (wA:World) (k:Wk) (s:SS) (st:Bool) (b6 c:Nat) (b:Frame) (cs:List Frame):PostC:=fun _ _ vs a w =>
 vs=[]∧∃ a':Act,a=G (b.at a' [.code .ret]) cs∧a'.defers=[]∧a'.tmps.getD 6 undef=ptr b6∧w.heap[b6]? = some (.cells #[.int .i64 (totalS k s st).1,.int .i64 (totalS k s st).2] 27 (0,0)) ∧
  (∀ b,b < wA.heap.size→b≠b6→b≠c→w.heap[b]? = wA.heap[b]?)∧wA.heap.size≤w.heap.size∧w.os=wA.os∧w.output=wA.output
set_option maxRecDepth 20000 in
set_option maxHeartbeats 2000000 in
theorem tot_end (X:PhX V wA p k ts vv rv s st b4 b5 b6 b7 c g cap D cur) (hG:Wg.gN≤wA.heap.size) {b:Frame} (hbf:b.fn=97) (hbk:b.kind=.normal) {cs:List Frame} {x10 x18 x19 x20 x21 x22 x26 x27 x28 x29 x30 x31:Value}
  (hL:PhL V wA k s st b4 b5 b6 b7 c g D E bo k.sources.length D1 wr1 [] (totalS k s st) w) (hx:∀ v∈[x10,x18,x19,x20,x21,x22,x26,x27,x28,x29,x30,x31],VR (idR (ddl b4 b5 b7 c g D E ++ [b6,bo])) v v) :
  ToC Tryd.prog c D1 wr1 [] (G (b.at ⟨tm2 p s st b4 b5 b6 b7 c bo (.slice (some ⟨g,0,none⟩) k.sources.length cap) k.sources.length k.sources.length k.sources.length x10 x18 x19 x20 x21 x22 x26 x27 x28 x29 x30 x31,[]⟩ head2) cs) w (TotQ wA k s st b6 c b cs):=by
 refine toC_ok fun w1 hr1 hh1 _=>?_
 replace hL:=hL.rely X hr1
 clear hr1
 have hW:=phW2 X hL.I hL.o hG
 have hseg:=phSeg X hL.I hL.e hW hG
 have n6:b6 ∉ ddl b4 b5 b7 c g D E:=hseg.dis b6 (by simp)
 have no:bo ∉ ddl b4 b5 b7 c g D E:=hseg.dis bo (by simp)
 have h6o:b6≠bo:=by
  have:=X.v6lt
  have:=hL.o.ge
  omega
 refine phLone (tgt:=[.code .ret]) X hL.I hL.e hW hG hh1 it_head2 (tm2_self X (by simp) (by simp) hx) hbf hbk
  (S:=fun a w'=>a.tmps[6]? = some (ptr b6)∧w'.heap[b6]? = some (.cells #[.int .i64 (totalS k s st).1,.int .i64 (totalS k s st).2] 27 (0,0))) (fun _ _ _ _ h=>h) (fun τ d=>?_) ?_
 ·obtain ⟨VL,hVL⟩:∃ VL:View,VL=fun i=>if i=b6 then none else lv (ddl b4 b5 b7 c g D E) [b6,bo] w1 i:=⟨_,rfl⟩
  have hin:VL.In ((frzW (ddl b4 b5 b7 c g D E) w1).re τ d):=fun i o h=>by
   subst hVL
   simp only at h
   split at h
   ·cases h
   ·exact lv_in _ _ w1 τ d i o h
  have hr:VL.Range bo 0 [.int .i64 (totalS k s st).1,.int .i64 (totalS k s st).2]:=fun i v hi=>by
   have h1:(lv (ddl b4 b5 b7 c g D E) [b6,bo] w1).Cell bo i v:=lv_cell (by simp) hL.o.obj (by simpa using hi)
   obtain ⟨cs',t',f',h2,h3⟩:=h1
   refine ⟨cs',t',f',?_,by rw [Nat.zero_add];exact h3⟩
   subst hVL
   simp only [Ne.symm h6o,if_false]
   exact h2
  have h6l:((frzW (ddl b4 b5 b7 c g D E) w1).re τ d).heap[b6]? = some (.cells #[.int .i64 0,.int .i64 0] 27 (0,0)):=by
   show (frzW (ddl b4 b5 b7 c g D E) w1).heap[b6]? = _
   rw [lv_own (WW:=[]) n6]
   exact hL.I.h6
  refine (seg7 p s st b4 b5 b6 b7 c bo k.sources.length k.sources.length (totalS k s st) _ x10 x18 x19 x20 x21 x22 x26 x27 x28 x29 x30 x31 X.n6 h6l (by subst hVL;simp) hr hin).mono ?_
  rintro a w' ⟨⟨x26',x32',rfl⟩,hS⟩
  exact ⟨rfl,hS.has1⟩
 ·rintro R' a' a2 wl w2 ⟨h6t,h6l⟩ hle hAF hdf hWR hkept hfr
  refine toC_ok fun w3 hr3 _ _=>toC_here fun w4 hr4=>⟨rfl,a2,rfl,hdf,?_,?_,fun i h1 h2 h3=>?_,?_,?_,?_⟩
  ·have:=af_fix (keep_id hWR hle) hAF h6t (.ptr (by simp))
   rw [Array.getD_eq_getD_getElem?,this]
   rfl
  ·have h1:=own_after hWR hle (b:=b6) (by simp) n6 (by simp [flat0]) h6l
   have w6:wr1 b6∨own (inL (ddl b4 b5 b7 c g D E)) R' b6:=.inl hL.I.w6
   exact ((sameNe (hr4.keep b6 (.inr w6)) X.n6c).trans (sameNe (hr3.keep b6 (.inr w6)) X.n6c)).trans h1
  ·have hn:¬ wr1 i:=fun h=>by
    rcases hL.I.low i h with h | h
    ·exact h2 h
    ·omega
   have hd:=hL.I.rd i h1 h2
   exact ((sameNe (hr4.keep i (.inl hd)) h3).trans (sameNe (hr3.keep i (.inl hd)) h3)).trans ((sameNe (hkept.keep i (Nat.lt_of_lt_of_le h1 hL.I.size) hd hn) h3).trans (hL.I.kept i h1 h2 h3))
  ·exact Nat.le_trans hL.I.size (Nat.le_trans hkept.size (Nat.le_trans hr3.size hr4.size))
  ·exact hr4.os.trans (hr3.os.trans (hkept.os.trans hL.I.os))
  ·exact hr4.output.trans (hr3.output.trans (hkept.output.trans hL.I.out))
set_option maxRecDepth 20000 in
set_option maxHeartbeats 2000000 in
theorem tot_mid (X:PhX V wA p k ts vv rv s st b4 b5 b6 b7 c g cap D cur) (hG:Wg.gN≤wA.heap.size) {b:Frame} (hbf:b.fn=97) (hbk:b.kind=.normal) {cs:List Frame} {x10 x18 x19 x20 x21 x22:Value}
  (I:PhI wA b6 c D1 wr1 w) (hE:PhE wA D E D1 wr1 w) (h22:Sr.flat x22=true) (hx:∀ v∈[x10,x18,x19,x20,x21,x22],VR (idR (ddl b4 b5 b7 c g D E ++ [b6])) v v) :
  ToC Tryd.prog c D1 wr1 (valsTo k s st k.sources.length) (G (b.at ⟨tm1 p s st b4 b5 b6 b7 c (.slice (some ⟨g,0,none⟩) k.sources.length cap) k.sources.length k.sources.length x10 x18 x19 x20 x21 x22,[]⟩ head1) cs) w (TotQ wA k s st b6 c b cs):=by
 refine toC_ok fun w1 hr1 hh1 hc1=>?_
 replace I:=I.rely X hr1
 replace hE:=hE.rely X hr1
 clear hr1 hc1
 have hW:=ph6 X I
 have hn6:=ph6_not X I hE hG
 have hlts:=phSeg_lt X I hE hW hG
 have sf:=tm1_self (E:=E) (WW:=[b6]) (n:=k.sources.length) (i:=k.sources.length) X (by simp) hx
 refine phLone (tgt:=head2) X I hE hW hG hh1 it_head1 sf hbf hbk
  (S:=fun a w'=>∃ bl,a=⟨tm2 p s st b4 b5 b6 b7 c bl (.slice (some ⟨g,0,none⟩) k.sources.length cap) k.sources.length k.sources.length 0 x10 (.bool false) x19 x20 x21 x22 undef undef undef undef undef undef,[]⟩ ∧
   w'.heap[bl]? = some (.cells #[.int .i64 0,.int .i64 0] 27 (0,0))∧w1.heap.size≤bl∧w'.heap[b6]? = some (.cells #[.int .i64 0,.int .i64 0] 27 (0,0)))
  (fun _ _ _ _ h=>h) (fun τ d=>?_) ?_
 ·refine (seg3 p s st b4 b5 b6 b7 c g cap k.sources.length x10 x18 x19 x20 x21 x22 X.n6 _ (lv_in (ddl b4 b5 b7 c g D E) [b6] w1 τ d)).mono ?_
  rintro a w' ⟨bl,rfl,hS⟩
  have hl6:(lv (ddl b4 b5 b7 c g D E) [b6] w1) b6=some (.cells #[.int .i64 0,.int .i64 0] 27 (0,0)):=by
   simp only [lv,List.mem_append,List.mem_singleton,or_true,if_true]
   rw [lv_own (WW:=[]) hn6]
   exact I.h6
  have hb:=(hS.new (.blk bl 27 [.int .i64 0,.int .i64 0]) (by simp) bl rfl).elim id (fun h=>nomatch h)
  refine ⟨bl,rfl,hS.has1,?_,hS.view _ _ hl6⟩
  have e:((frzW (ddl b4 b5 b7 c g D E) w1).re τ d).heap.size=w1.heap.size:=frzW_size _ _
  omega
 ·rintro R' a' a2 wl w2 ⟨bl,rfl,hbl,lbl,h6l⟩ hle hAF hdf hWR hkept hfr
  have hfx:=keep_id hWR hle
  obtain ⟨v11,hv11,r11⟩:=hAF.2 11 (ptr bl) rfl
  obtain ⟨bo,rfl,rbo⟩:=vr_ptr r11
  have nD:¬ inL (ddl b4 b5 b7 c g D E) bl:=fun h=>by
   have:=hlts bl h
   omega
  obtain ⟨c',hc',hAF1⟩:=new_block hWR rbo nD hbl
  have ec:c'=#[.int .i64 0,.int .i64 0]:=af1_fix hfx hAF1 fun v hv=>by
   have:v=.int .i64 0:=by simpa using hv
   subst this
   exact .flat rfl
  subst ec
  have h62:=ph6_after hWR hle (by simp) hn6 h6l
  have obo:own (inL (ddl b4 b5 b7 c g D E)) R' bo:=⟨bl,rbo,nD⟩
  have lbo:wA.heap.size≤bo:=by
   rcases hfr bo obo with h | h
   ·rcases I.low bo h with h | h
    ·subst h
     have e:=hWR.inj bl bo bo rbo (hle bo bo ⟨rfl,by simp⟩)
     have h1:=lt_of_heap I.h6
     omega
    ·exact h
   ·exact Nat.le_trans I.size h
  have hbo:∀ v',VR R' (ptr bl) v'→v'=ptr bo:=fun v' h=>by
   obtain ⟨b',rfl,hb'⟩:=vr_ptr h
   rw [hWR.fn _ _ _ hb' rbo]
  have hall:AllEq R' (tm2 p s st b4 b5 b6 b7 c bl (.slice (some ⟨g,0,none⟩) k.sources.length cap) k.sources.length k.sources.length 0 x10 (.bool false) x19 x20 x21 x22 undef undef undef undef undef undef).toList
    (tm2 p s st b4 b5 b6 b7 c bo (.slice (some ⟨g,0,none⟩) k.sources.length cap) k.sources.length k.sources.length 0 x10 (.bool false) x19 x20 x21 x22 undef undef undef undef undef undef).toList :=
   ⟨fun v' h=>vr_same hfx (sf _ (by simp [tm1])) h,fun v' h=>vr_same hfx (sf _ (by simp [tm1])) h,fun v' h=>vr_same hfx (sf _ (by simp [tm1])) h,fun v' h=>vr_same hfx (sf _ (by simp [tm1])) h,fun v' h=>vr_same hfx (sf _ (by simp [tm1])) h,fun v' h=>vr_same hfx (sf _ (by simp [tm1])) h,fun v' h=>vr_same hfx (sf _ (by simp [tm1])) h,fun v' h=>vr_same hfx (sf _ (by simp [tm1])) h,fun v' h=>vr_same hfx (sf _ (by simp [tm1])) h,fun v' h=>vr_same hfx (sf _ (by simp [tm1])) h,fun v' h=>vr_same hfx (sf _ (by simp [tm1])) h,hbo,fun v' h=>vr_same hfx (sf _ (by simp [tm1])) h,fun v' h=>vr_same hfx (sf _ (by simp [tm1])) h,fun v' h=>vr_same hfx (sf _ (by simp [tm1])) h,fun v' h=>vr_same hfx (sf _ (by simp [tm1])) h,fun v' h=>vr_same hfx (sf _ (by simp [tm1])) h,fun v' h=>vr_same hfx (sf _ (by simp [tm1])) h,fun v' h=>vr_same hfx (.of_flat rfl) h,fun v' h=>vr_same hfx (sf _ (by simp [tm1])) h,fun v' h=>vr_same hfx (sf _ (by simp [tm1])) h,fun v' h=>vr_same hfx (sf _ (by simp [tm1])) h,fun v' h=>vr_same hfx (sf _ (by simp [tm1])) h,fun v' h=>vr_same hfx (sf _ (by simp [tm1])) h,fun v' h=>vr_same hfx (.of_flat rfl) h,fun v' h=>vr_same hfx (.of_flat rfl) h,fun v' h=>vr_same hfx (sf _ (by simp [tm1])) h,fun v' h=>vr_same hfx (sf _ (by simp [tm1])) h,fun v' h=>vr_same hfx (sf _ (by simp [tm1])) h,fun v' h=>vr_same hfx (sf _ (by simp [tm1])) h,fun v' h=>vr_same hfx (sf _ (by simp [tm1])) h,fun v' h=>vr_same hfx (sf _ (by simp [tm1])) h,fun v' h=>vr_same hfx (sf _ (by simp [tm1])) h,trivial⟩
  have htm:=tmps_eq hAF hall
  obtain ⟨tmps2,defers2⟩:=a2
  simp only at hdf htm
  subst hdf
  subst htm
  have I2:=I.after X hkept hfr h62
  have E2:=hE.after X hkept hWR hle
  have hxx:∀ v∈[x10,.bool false,x19,x20,x21,x22,undef,undef,undef,undef,undef,undef],VR (idR (ddl b4 b5 b7 c g D E ++ [b6,bo])) v v:=fun v hv=>by
   have hm:∀ u,VR (idR (ddl b4 b5 b7 c g D E ++ [b6])) u u→VR (idR (ddl b4 b5 b7 c g D E ++ [b6,bo])) u u:=fun u hu=>hu.mono fun i i' ⟨h1,h2⟩=>⟨h1,by
    simp only [List.mem_append,List.mem_cons,List.not_mem_nil,or_false] at h2 ⊢
    rcases h2 with h2 | h2
    ·exact .inl h2
    ·exact .inr (.inl h2)⟩
   simp only [List.mem_cons,List.not_mem_nil,or_false] at hv
   rcases hv with rfl | rfl | rfl | rfl | rfl | rfl | rfl | rfl | rfl | rfl | rfl | rfl
   all_goals first | exact .of_flat rfl | exact hm _ (hx _ (by simp))
  have hv:valsTo k s st k.sources.length=((k.sources.map (foundS k s st)).reverse).map spanV:=by
   unfold valsTo
   rw [List.take_length,List.map_reverse,List.map_map]
   rfl
  rw [hv]
  have hlo:=X.lo
  refine loop2 X hG hbf hbk (fun wr3 w3 y10 y18 y19 y20 y21 y22 y26 y27 y28 y29 y30 y31 hL hy=>tot_end X hG hbf hbk hL hy) k.sources.length 0 (by omega) _ _ _ _ _ _ _ _ _ _ _ _ _ _ _ (0,0) ⟨I2,E2,⟨.inr obo,lbo,hc'⟩,by simp,?_,fun y hy=>?_,?_⟩ hxx
  ·rw [both_zero,sumS_perm (List.reverse_perm _),totalS_sum]
  ·rw [List.mem_reverse] at hy
   obtain ⟨i,_,rfl⟩:=List.mem_map.1 hy
   exact foundS_bd k X.cel.le s st hlo i
  ·unfold Pb
   simp
end
end Go.Proofs.YtjjmefieegcddaaDoor
namespace Go.Proofs.YtjjmefieegcddaaDoor
open Go.RowKit Go.Wg Go.Mm Go.Wk
open Go Go.Sr Go.Ph Go.Tm Go.Conc
noncomputable def phV (V:View) (w wA:World) (b6 c:Nat):View:=fun b=>if b=b6∨b=c then none else newV V w wA b
theorem phX_of {V:View} {w wA:World} {p:Nat} {k:Wk} {ts:List Nat} {vv rv:Value} {s:SS} {st:Bool} {b4 b5 b6 b7 c:Nat} {sl:Value} {D:List Nat} (hC:Cel V p k ts vv rv) (hok:k.Ok) (hs:s.WF) (hlo:∀ i,0≤(s.losAt i).1) (hhi:∀ i,(s.losAt i).2≤1000) (hD:Closed V D) (hp:p∈D) (hV:V.In w)
  (T:TotA V w p k ts s st b4 b5 b6 b7 c sl wA):∃ g cap cur,sl=.slice (some ⟨g,0,none⟩) k.sources.length cap∧PhX (phV V w wA b6 c) wA p k ts vv rv s st b4 b5 b6 b7 c g cap D cur:=by
 have hpos:=sources_pos hok
 have hle:k.sources.length≤6:=Nat.le_trans (srcTo_len k k.n) hC.le
 have hGw:Wg.gN≤w.heap.size:=by
  obtain ⟨o,ho⟩:=hD.last
  have:=lt_of_heap (hV _ _ ho)
  omega
 have hnew:∀ {b:Nat},w.heap.size≤b→V b=none:=fun {b} h=>by
  cases hv:V b with
  | none=>rfl
  | some o =>
   have:=lt_of_heap (hV b o hv)
   omega
 have hsub:∀ j o,V j=some o→phV V w wA b6 c j=some o:=fun j o h=>by
  have h1:j≠b6:=by rintro rfl;rw [hnew T.n6] at h;cases h
  have h2:j≠c:=by rintro rfl;rw [hnew T.nc] at h;cases h
  simp only [phV,h1,h2,or_self,if_false]
  exact newV_sub hV j o h
 have hN:∀ {b:Nat} {o:Obj},w.heap.size≤b→wA.heap[b]? = some o→b≠b6→b≠c→phV V w wA b6 c b=some o:=fun {b o} h1 h2 h3 h4=>by
  simp only [phV,h3,h4,or_self,if_false,newV,show ¬ b < w.heap.size by omega]
  exact h2
 have n6c:b6≠c:=by
  rintro rfl
  have:=T.h6
  rw [T.hc] at this
  cases this
 have ne_c:∀ {b:Nat} {cs:Array Value} {t:TypeId} {f:Nat × Nat},wA.heap[b]? = some (.cells cs t f)→b≠c:=fun h=>by
  rintro rfl
  rw [T.hc] at h
  cases h
 obtain ⟨g,cap,cur,rfl,_,_,hcur,hget⟩:=row_slice T.row.1 hpos
 have hg:=T.new g rfl
 have hti:=(hC.keep hD hp).2
 have hsz:cur.toList.length ≥ k.sources.length:=by
  have:=congrArg List.length hget
  simp only [List.length_take,List.length_map] at this
  omega
 have hsrc:∀ (i x:Nat),k.sources[i]? = some x→cur[i]? = some (ptr (ts.getD x 0)):=fun i x h=>by
  have h1:(cur.toList.take k.sources.length)[i]? = some (ptr (ts.getD x 0)):=by rw [hget,List.getElem?_map,h];rfl
  have hi:i < k.sources.length:=(List.getElem?_eq_some_iff.1 h).1
  rw [List.getElem?_take,if_pos hi] at h1
  simpa using h1
 refine ⟨g,cap,cur,rfl,?_⟩
 have n6:=T.n64
 have h6g:g≠b6:=fun h=>n6.2.2.2 (by rw [h];rfl)
 refine ⟨fun b o h=>?_,hC.mono hsub,hok,hs,hlo,hhi,closed_mono hD hsub,hp,hN T.n4 T.h4 (Ne.symm n6.1) (ne_c T.h4),hN T.n5 T.h5 (Ne.symm n6.2.1) (ne_c T.h5),hN T.n7 T.h7 (Ne.symm n6.2.2.1) (ne_c T.h7),hN hg hcur h6g (ne_c hcur),fun v hv=>?_,hsrc,by simp [phV],by simp [phV],T.h6,T.hc,
  ⟨Nat.le_trans hGw T.n4,Nat.le_trans hGw T.n5,Nat.le_trans hGw T.n6,Nat.le_trans hGw T.n7,Nat.le_trans hGw T.nc,Nat.le_trans hGw hg⟩,hle,hpos⟩
 ·unfold phV at h
  split at h
  ·cases h
  ·unfold newV at h
   split at h
   ·rename_i hlt
    rw [T.kp.old b hlt]
    exact hV b o h
   ·exact h
 ·obtain ⟨i,hi,rfl⟩:=Array.mem_iff_getElem.1 hv
  by_cases hlt:i < k.sources.length
  ·have h1:=hsrc i _ (List.getElem?_eq_getElem hlt)
   rw [Array.getElem?_eq_getElem hi] at h1
   rw [Option.some.inj h1]
   exact .inr (.inl ⟨_,_,rfl,hti _ (sources_lt (List.getElem?_eq_getElem hlt))⟩)
  ·exact .inl (T.row.2 g rfl cur 124 (0,0) hcur i _ (by omega) (Array.getElem?_eq_getElem hi))
theorem ins_kp {w:World} {v:Value}:Ins fun e w'=>e=.returned v∧Kp w w':=fun e w' τ d h=>⟨h.1,⟨h.2.os,h.2.output,h.2.size,h.2.old⟩⟩
set_option maxHeartbeats 2000000 in
theorem total_B {V:View} {p:Nat} {k:Wk} {ts:List Nat} {vv rv:Value} (hC:Cel V p k ts vv rv) (hok:k.Ok) (s:SS) (hs:s.WF) (hlo:∀ i,0≤(s.losAt i).1) (hhi:∀ i,(s.losAt i).2≤1000) (st:Bool) {D:List Nat} (hD:Closed V D) (hp:p∈D) {w:World} (hV:V.In w) (hh:HeapOk OC w) :
  CallsB Tryd.prog 97 #[ptr p,.agg (stC s).toArray,.bool st] w fun e w'=>e=.returned (spanV (totalS k s st))∧Kp w w':=by
 refine callsB_of_body Tryd.func97 (show Tryd.f97.body=some B97 from rfl) fun cs b hbf hbk hbr=>?_
 have e30:Tryd.f97.ntmps - (#[ptr p,.agg (stC s).toArray,.bool st]:Array Value).size=30:=by kernel_rfl
 rw [e30]
 obtain ⟨tm0,htm⟩:∃ tm0,#[ptr p,.agg (stC s).toArray,.bool st] ++ Array.replicate 30 undef=tm0:=⟨_,rfl⟩
 rw [htm]
 have hst:Stk 97 (b.at { tmps:=tm0,defers:=[] } [.code B97]) []:=by
  refine ⟨⟨fun x hx=>?_,(fun d hd=>nomatch hd),.inl hbk⟩,rfl,hbk,hbf⟩
  have:x=.code B97:=by simpa [Frame.at] using hx
  subst this
  exact (show okCode true B97=true by kernel_rfl)
 have hGw:Wg.gN≤w.heap.size:=by
  obtain ⟨o,ho⟩:=hD.last
  have:=lt_of_heap (hV _ _ ho)
  omega
 refine toB_lone sokAll hst hh (S:=fun a w'=>∃ b4 b5 b6 b7 c sl,a=⟨tm1 p s st b4 b5 b6 b7 c sl k.sources.length 0 undef undef undef undef undef undef,[]⟩∧TotA V w p k ts s st b4 b5 b6 b7 c sl w') ?_ (fun τ d=>?_) ?_ (tgt:=[.code (.block 0 (.loop L1)),.code K8])
 ·rintro a w' τ d ⟨b4,b5,b6,b7,c,sl,rfl,T⟩
  exact ⟨b4,b5,b6,b7,c,sl,rfl,⟨⟨T.kp.os,T.kp.output,T.kp.size,T.kp.old⟩,T.h4,T.h5,T.h6,T.h7,T.hc,⟨T.row.1,T.row.2⟩,T.new,T.n4,T.n5,T.n6,T.n7,T.nc,T.n64⟩⟩
 ·rw [← htm]
  refine (total_start p k ts vv rv hC hok s hs st (w.re τ d) hV).mono ?_
  rintro a w' ⟨b4,b5,b6,b7,c,sl,rfl,T⟩
  exact ⟨b4,b5,b6,b7,c,sl,rfl,⟨⟨T.kp.os,T.kp.output,T.kp.size,T.kp.old⟩,T.h4,T.h5,T.h6,T.h7,T.hc,T.row,T.new,T.n4,T.n5,T.n6,T.n7,T.nc,T.n64⟩⟩
 ·rintro a' wA ⟨b4,b5,b6,b7,c,sl,rfl,T⟩ hhA _
  obtain ⟨g,cap,cur,rfl,X⟩:=phX_of hC hok hs hlo hhi hD hp hV T
  have hGA:Wg.gN≤wA.heap.size:=Nat.le_trans hGw T.kp.size
  refine toB_block (toB_loop ?_)
  have I:PhI wA b6 c (fun i=>i < wA.heap.size∧i≠b6) (fun i=>i=b6) wA:=⟨fun _ _ _ _=>rfl,Nat.le_refl _,rfl,rfl,fun i h1 h2=>⟨h1,h2⟩,rfl,fun i h=>.inl h,X.h6,⟨_,X.hc,rfl⟩⟩
  have hC1:=loop1 X hGA hbf hbk (cs:=cs) (Q:=TotQ wA k s st b6 c b cs) (fun D1 wr1 w x10 x18 x19 x20 x21 x22 E I hE h22 hx=>tot_mid X hGA hbf hbk I hE h22 hx) k.sources.length 0 (by omega) _ _ wA undef undef undef undef undef undef [] I ⟨fun b hb=>nomatch hb⟩ rfl (fun v hv=>by
   simp only [List.mem_cons,List.not_mem_nil,or_false,or_self] at hv
   subst hv
   exact .of_flat rfl)
  have hB:=toB_phase (P:=Tryd.prog) (c:=c) (QB:=fun a w'=>TotQ wA k s st b6 c b cs (fun _=>False) (fun _=>False) [] a w'∧HeapOk OC w') hhA ⟨0,X.hc⟩ (fun h=>X.n6c h.symm) (fun i h=>by
   rcases h with h | h
   ·exact h.1
   ·rw [h];exact X.v6lt) hC1 (fun D wr vs a w h hh=>⟨h.1,⟨rfl,h.2⟩,hh⟩)
  refine hB.bind fun a1 w1 ⟨⟨_,a',ha,hd,h6t,h6,hkept,hsz,hos,hout⟩,hh1⟩=>?_
  subst ha
  refine toB_ret (toB_leave (v:=spanV (totalS k s st)) (fn:=Tryd.f97) hbf hbk hd Tryd.func97 hh1 ?_ ⟨rfl,?_⟩ ins_kp)
  ·have hS:St w1 [b6] (fun _=>none) [.blk b6 27 [.int .i64 (totalS k s st).1,.int .i64 (totalS k s st).2]] w1:=St.own1 (fun _ _ h=>by cases h) h6 rfl
   exact results1 (r1:=.cell 6 27) (by kernel_rfl) (res_celln hS (n:=2) 0 h6t rfl (by kernel_rfl) rfl rfl)
  ·refine ⟨hos.trans T.kp.os,hout.trans T.kp.output,Nat.le_trans T.kp.size hsz,fun i hi=>?_⟩
   have h1:=T.n6
   have h2:=T.nc
   have h3:=T.kp.size
   exact (hkept i (by omega) (by omega) (by omega)).trans (T.kp.old i hi)
end Go.Proofs.YtjjmefieegcddaaDoor
namespace Go.Tm
open Go
open Go.Conc
variable {P:Program}
theorem toB_leavesP (hS:Sok P fun _=>True) {f0:FuncId} {fn:Func} {R:Ending→World→Prop} (hins:Ins R) (hout:∀ w,¬ R .outgrown w) {fr:Frame} {w:World} (hst:Stk f0 fr []) (hf:P.funcs[f0]? = some fn) (hw:HeapOk OC w) (hm:fr.mode=.returning)
  (h:∀ τ d,Leaves P fn fr.tmps R fr.defers .returning (w.re τ d)) (cs:List Frame) :
  ToB P (G fr cs) w (fun a' w'=>∃ e fr,a'=G fr cs∧R e w'∧fr.fn=f0∧fr.leaving P w' e∧e≠.outgrown∧HeapOk OC w'):=by
 let Stop:Frame→List Frame→World→Prop:=fun fr mine w=>mine=[]∧∃ e,R e w∧e≠.outgrown∧fr.fn=f0∧fr.leaving P w e
 have hfn:fr.fn=f0:=hst.2.2.2
 have hterm:Term P (SH f0 Stop) fr [] w:=by
  refine term_of_plain hS ?_ hst hw ?_
  ·rintro fr mine w τ d hw ⟨rfl,e,h1,h2,h3,h4⟩
   exact ⟨rfl,e,hins _ _ _ _ h1,h2,h3,leaving_re hw h4 τ d⟩
  ·intro τ d
   obtain ⟨e,w',fr',h1,h2,h3,h4⟩:=leaves_steps fr.defers .returning (w.re τ d) fr [floor P] hm rfl rfl (by rw [hfn];exact hf) hst.2.2.1 (h τ d)
   cases e with
   | outgrown=>exact (hout _ h1).elim
   | returned v=>exact ⟨fr',[],w',⟨rfl,_,h1,by simp,h3.trans hfn,h4⟩,h2⟩
   | panicked chain=>exact ⟨fr',[],w',⟨rfl,_,h1,by simp,h3.trans hfn,h4⟩,h2⟩
 have:=toB_of_term (fun fr mine w d h=>by
  obtain ⟨⟨rfl,e,h1,h2,h3,h4⟩,h5,h6⟩:=h
  exact ⟨⟨rfl,e,hins _ _ w.tape d h1,h2,h3,leaving_re h5 h4 w.tape d⟩,h5,h6⟩) hterm cs
 refine this.mono fun a' w' ⟨fr',mine',h1,⟨h2,e,h3,h4,h5,h6⟩,h7,h8⟩=>?_
 subst h2
 exact ⟨e,fr',h1,h3,h5,h6,h4,h7⟩
end Go.Tm
namespace Go.Proofs.YtjjmefieegcddaaDoor
open Go.RowKit Go.Wg Go.Mm Go.Wk
open Go Go.Sr Go.Ph Go.Tm Go.Conc
variable {w:World} {V:View}
def dC (b:Nat):Deferred:={ target:=.fn (.func 82) #[],args:=#[.pointer (some ⟨b,0,none⟩)] }
noncomputable def B40:Code:=match Tryd.f40.body with | some c=>c | none=>.skip
noncomputable def ops40:Array Oper:=match Tryd.f40.body with | some (.seq _ (.seq _ (.seq _ (.seq _ (.seq (.region _ o _) _)))))=>o | _=>#[]
set_option maxRecDepth 20000 in
set_option maxHeartbeats 2000000 in
theorem lost_start (vv rv:Value) (k:Wk) (hk:WkIn V vv rv k) (hG:GV V) (hV:V.In w) (hb:beginE k []=0) (hst:Go.Wg.settle k (nowS k noneB)=none) :
  Rch Tryd.prog [.inRegion ops40 [3,4,5],.code .ret] (fun a w'=>∃ p V' D b1 b2 b3,(∃ x5 x7 x8 x9 x10 x11,a=⟨#[.agg #[vv,rv],ptr b1,ptr b2,ptr b3,ptr p,x5,.agg #[vv,rv],x7,x8,x9,x10,x11,undef,undef,ptr p,ptr p,.agg (stC (nowS k noneB)).toArray,undef],[dC b3]⟩) ∧
    Cellar V' p k∧Closed V' D∧p∈D∧St w [] V' [.blk b3 38 [.int .i64 0],.blk b2 27 [.int .i64 0,.int .i64 0]] w')
   [.code B40] { tmps:=#[.agg #[vv,rv]] ++ Array.replicate 17 undef,defers:=[] } w:=by
 have hk0:=hk
 obtain ⟨va,vcap,rfl,hvc,hvm,hve⟩:=hk0.ves.is
 obtain ⟨ra,rcap,rfl,hrc,hrm,hre⟩:=hk0.rdg.is
 have hS:=St.start w V hV
 clear hk0 hve hre
 have hok:=beginE_check hb
 have hcan:can k (nowS k noneB)=true:=by unfold can;rw [hst];rfl
 replace hst:=mkHid hst;replace hcan:=mkHid hcan;replace hb:=mkHid hb
 simp only [Array.replicate_succ,Array.replicate_zero,List.push_toArray,List.append_toArray,List.nil_append,List.cons_append]
 unfold ptr
 refine rch_seq (rch_code ?_)
 go_wp2_with (first | ((with_reducible refine gB ?_);refine qboxd 1 rfl hS rfl rfl rfl ?_;refine ⟨_,za,?_⟩;clear hS;(try clear w');intro b1;intro a' hp;(try simp only [fr] at hp);subst hp;intro w' hS) | ((with_reducible refine gA ?_);refine qallocd 2 rfl hS rfl rfl ?_;clear hS;(try clear w');intro b2;intro a' hp;(try simp only [fr] at hp);subst hp;intro w' hS) | ((with_reducible refine gA ?_);refine qallocd 3 rfl hS rfl rfl ?_;clear hS;(try clear w');intro b3;intro a' hp;(try simp only [fr] at hp);subst hp;intro w' hS))
 refine rch_seq (rch_code ?_)
 go_wp2_with (fail)
 refine rch_seq (rch_code ?_)
 go_wp2_with (first | ((first | ((with_reducible refine gL ?_);refine qln hS rfl rfl rfl ?_) | ((with_reducible refine gS ?_);refine qs1 hS rfl rfl rfl ?_));refine ⟨_,zd,?_⟩;clear hS;(try clear w');intro a' hp;(try simp only [fr] at hp);subst hp;intro w' hS;(try simp only [sE] at hS)) | (go_at_call 77;refine calls_beginD hS hk nilSl (by simp) hb.out ?_;clear hS;(try clear w');intro p V' w' D hVV hcel hD hpD hS;have hG':GV V':=hG.mono hVV))
 refine rch_seq (rch_seq (rch_code ?_))
 go_wp2_with (((with_reducible refine gL ?_);refine ql1 hS rfl rfl rfl ?_);refine ⟨_,zd,?_⟩;clear hS;(try clear w');intro a' hp;(try simp only [fr] at hp);subst hp;intro w' hS;(try simp only [sE] at hS))
 refine rch_cond (t:=false) rfl (rch_skip (rch_seq (rch_region ?_)))
 refine rch_op (i:=0) (v:=.pointer (some ⟨p,0,none⟩)) (w':=w') rfl rfl rfl ?_
 refine rch_op (i:=1) (v:=.pointer (some ⟨p,0,none⟩)) (w':=w') rfl rfl rfl ?_
 refine rch_call (i:=2) rfl rfl (run_call_body rfl Tryd.func83 (by kernel_rfl) rfl) ?_
 simp only [List.map_toArray,List.map_cons,List.map_nil]
 show Calls Tryd.prog 83 #[ptr p] w' _
 refine (must_ok V' p k hcel hok hcan.out _ (St.view hS)).mono ?_
 rintro e w2 ⟨rfl,hkp⟩
 refine ⟨_,rfl,?_⟩
 replace hS:=hS.kp hkp
 exact rch_here (tgt:=[.inRegion ops40 [3,4,5],.code .ret]) ⟨p,V',D,b1,b2,b3,⟨_,_,_,_,_,_,rfl⟩,hcel,hD,hpD,hS.sub (List.Sublist.cons_cons _ (List.Sublist.cons_cons _ (List.Sublist.cons _ (List.Sublist.refl _))))⟩
theorem lost_end {w0:World} {V':View} {b1 b2 b3 p:Nat} {r:Int × Int} {x0 x5 x6 x7 x8 x9 x10 x11 x14 x15 x16:Value} (hS:St w0 [] V' [.blk b3 38 [.int .i64 0],.blk b2 27 [.int .i64 0,.int .i64 0]] w) :
  Rch Tryd.prog [.code .ret] (fun a w'=>a=⟨#[x0,ptr b1,ptr b2,ptr b3,ptr p,x5,x6,x7,x8,x9,x10,x11,undef,undef,x14,x15,x16,spanV r],[dC b3]⟩∧St w0 [] V' [.blk b3 38 [.int .i64 0],.blk b2 27 [.int .i64 r.1,.int .i64 r.2]] w')
   [.inRegion ops40 [4,5],.code .ret] ⟨#[x0,ptr b1,ptr b2,ptr b3,ptr p,x5,x6,x7,x8,x9,x10,x11,undef,undef,x14,x15,x16,spanV r],[dC b3]⟩ w:=by
 refine rch_storen hS (i:=4) (vs:=[.int .i64 r.1,.int .i64 r.2]) rfl rfl rfl (j:=1) (i':=0) (n:=2) rfl rfl rfl (by simp [Value.oneCell']) (by kernel_rfl) rfl (by simp) fun w1 hS1=>?_
 refine rch_store1 hS1 (i:=5) (v:=.int .i64 0) rfl rfl rfl (j:=0) (i':=0) rfl rfl rfl rfl (by kernel_rfl) (by simp) fun w2 hS2=>?_
 exact rch_region_end (rch_here (tgt:=[.code .ret]) ⟨rfl,hS2⟩)
def lostE (k:Wk):(Int × Int) × Int :=
 if beginE k []=0 then (if (Go.Wg.settle k (nowS k noneB)).isNone then (totalS k (nowS k noneB) false,0) else ((0,0),9)) else ((0,0),beginE k [])
set_option maxRecDepth 20000 in
set_option maxHeartbeats 2000000 in
theorem Lost_bad (vv rv:Value) (k:Wk) (hk:WkIn V vv rv k) (hG:GV V) (hV:V.In w) (hbs:¬ (beginE k []=0∧Go.Wg.settle k (nowS k noneB)=none)) :
  Calls Tryd.prog 40 #[.agg #[vv,rv]] w fun r w'=>r=.returned (.tuple #[spanV (lostE k).1,.int .i64 (lostE k).2])∧Kp w w':=by
 have hk0:=hk
 obtain ⟨va,vcap,rfl,hvc,hvm,hve⟩:=hk0.ves.is
 obtain ⟨ra,rcap,rfl,hrc,hrm,hre⟩:=hk0.rdg.is
 have hS:=St.start w V hV
 clear hk0 hve hre
 by_cases hb:beginE k []=0
 ·have hok:=beginE_check hb
  cases hst:Go.Wg.settle k (nowS k noneB) with
  | none=>exact (hbs ⟨hb,hst⟩).elim
  | some i =>
   have hC:lostE k=((0,0),9):=by unfold lostE;rw [if_pos hb,hst];rfl
   rw [hC]
   simp only
   replace hC:=mkHid hC;replace hst:=mkHid hst;replace hb:=mkHid hb
   clear hbs
   go_enter_defers Tryd.func40,Tryd.ntmps40
   go_wp2_with (first | (first | ((first | ((with_reducible refine gL ?_);first | refine ql1 hS rfl rfl rfl ?_ | refine qln hS rfl rfl rfl ?_) | ((with_reducible refine gS ?_);refine qs1 hS rfl rfl rfl ?_));refine ⟨_,zd,?_⟩;clear hS;(try clear w');intro a' hp;(try simp only [fr] at hp);subst hp;intro w' hS;(try simp only [sE] at hS)) | ((with_reducible refine gB ?_);refine qboxd 1 rfl hS rfl rfl rfl ?_;refine ⟨_,za,?_⟩;clear hS;(try clear w');intro b1;intro a' hp;(try simp only [fr] at hp);subst hp;intro w' hS) | ((with_reducible refine gA ?_);refine qallocd 2 rfl hS rfl rfl ?_;clear hS;(try clear w');intro b2;intro a' hp;(try simp only [fr] at hp);subst hp;intro w' hS) | ((with_reducible refine gA ?_);refine qallocd 3 rfl hS rfl rfl ?_;clear hS;(try clear w');intro b3;intro a' hp;(try simp only [fr] at hp);subst hp;intro w' hS)) |
    (go_at_call 77;refine calls_begin hS hk nilSl (by simp) hb.out ?_;clear hS;(try clear w');intro p V' w' hVV hcel hS;have hG':GV V':=hG.mono hVV) |
    (go_at_call 83;refine calls_panic hS (must_no V' p k hcel hok i hst.out _ (St.view hS)) ?_;clear hS;(try clear w');intro w' hS))
   (refine door_hit hS ?_;clear hS;(try clear w');intro w' hS;(try simp only [sE] at hS);refine ⟨_,by exact results2 (r1:=.cell 2 27) (r2:=.cell 3 38) (by kernel_rfl) (by exact rs_n hS rfl zd) (by exact rs_1 hS rfl zd),?_⟩)
   exact ⟨rfl,hS.toKp⟩
 ·clear hbs
  have hC:lostE k=((0,0),beginE k []):=by unfold lostE;rw [if_neg hb]
  rw [hC]
  simp only
  have hb':(beginE k [] == 0)=false:=by rw [beq_eq_false_iff_ne];exact hb
  have hE:Go.RowKit.Hid (∃ e,beginE k []=e):=mkHid ⟨_,rfl⟩
  obtain ⟨e,he⟩:=hE.out
  rw [he] at hb' ⊢
  replace hC:=mkHid hC;replace he:=mkHid he
  go_enter_defers Tryd.func40,Tryd.ntmps40
  go_wp2_with (first | (first | ((first | ((with_reducible refine gL ?_);first | refine ql1 hS rfl rfl rfl ?_ | refine qln hS rfl rfl rfl ?_) | ((with_reducible refine gS ?_);refine qs1 hS rfl rfl rfl ?_));refine ⟨_,zd,?_⟩;clear hS;(try clear w');intro a' hp;(try simp only [fr] at hp);subst hp;intro w' hS;(try simp only [sE] at hS)) | ((with_reducible refine gB ?_);refine qboxd 1 rfl hS rfl rfl rfl ?_;refine ⟨_,za,?_⟩;clear hS;(try clear w');intro b1;intro a' hp;(try simp only [fr] at hp);subst hp;intro w' hS) | ((with_reducible refine gA ?_);refine qallocd 2 rfl hS rfl rfl ?_;clear hS;(try clear w');intro b2;intro a' hp;(try simp only [fr] at hp);subst hp;intro w' hS) | ((with_reducible refine gA ?_);refine qallocd 3 rfl hS rfl rfl ?_;clear hS;(try clear w');intro b3;intro a' hp;(try simp only [fr] at hp);subst hp;intro w' hS)) |
   (go_at_call 77;refine calls_begin_bad hS hk nilSl (by simp) hb ?_;rw [he.out];clear hS;(try clear w');intro w' hS))
  (refine held_start (S:=(St w [] V [.blk b3 38 [.int .i64 e]])) [false,false,false,false] rfl (by kernel_rfl) ?_;replace hS:=St.drew1 hS;(iterate 2 ((first | refine hxp 0 rfl ?_ | refine hxa 1 rfl ?_);intro a' l' hp hl;(try simp only [fr] at hp);(try simp only [sB] at hl);subst hp;subst hl));((refine he_sall 2 (by kernel_rfl) rfl hS rfl  rfl rfl ?_;refine ⟨_,zd,?_⟩);clear hS;(try clear w');intro a' l' hp hl;(try simp only [fr] at hp);(try simp only [sB] at hl);subst hp;subst hl;intro w' hS;(try simp only [sE] at hS);refine ⟨(St.subI hS),?_⟩);((refine he_s1 3 (by kernel_rfl) rfl hS rfl  rfl rfl ?_;refine ⟨_,zd,?_⟩);clear hS;(try clear w');intro a' l' hp hl;(try simp only [fr] at hp);(try simp only [sB] at hl);subst hp;subst hl;intro w' hS;(try simp only [sE] at hS);refine ⟨(St.subI hS),?_⟩);refine wpAnyH_done (by kernel_rfl) ?_ _)
  go_wp2_with (fail)
  (refine door_idle hS ?_;clear hS;(try clear w');intro w' hS;(try simp only [sE] at hS);refine ⟨_,by exact results2 (r1:=.cell 2 27) (r2:=.cell 3 38) (by kernel_rfl) (by exact rs_n hS rfl zd) (by exact rs_1 hS rfl zd),?_⟩)
  exact ⟨by rfl,(hS.toKp)⟩
theorem Lost_B (vv rv:Value) (k:Wk) (hk:WkIn V vv rv k) (hG:GV V) (hV:V.In w) (hh:HeapOk OC w) :
  CallsB Tryd.prog 40 #[.agg #[vv,rv]] w fun r w'=>r=.returned (.tuple #[spanV (lostE k).1,.int .i64 (lostE k).2])∧Kp w w':=by
 by_cases hbs:beginE k []=0∧Go.Wg.settle k (nowS k noneB)=none
 ·obtain ⟨hb,hst⟩:=hbs
  have hC:lostE k=(totalS k (nowS k noneB) false,0):=by unfold lostE;rw [if_pos hb,hst];rfl
  rw [hC]
  have hok:=beginE_check hb
  refine callsB_of_body Tryd.func40 (show Tryd.f40.body=some B40 from rfl) fun cs b hbf hbk hbr=>?_
  have e17:Tryd.f40.ntmps - (#[.agg #[vv,rv]]:Array Value).size=17:=by kernel_rfl
  rw [e17]
  obtain ⟨tm0,htm⟩:∃ tm0,#[Value.agg #[vv,rv]] ++ Array.replicate 17 undef=tm0:=⟨_,rfl⟩
  rw [htm]
  have hsk:Stk 40 (b.at { tmps:=tm0,defers:=[] } [.code B40]) []:=by
   refine ⟨⟨fun x hx=>?_,(fun d hd=>nomatch hd),.inl hbk⟩,rfl,hbk,hbf⟩
   have:x=.code B40:=by simpa [Frame.at] using hx
   subst this
   exact (show okCode true B40=true by kernel_rfl)
  have hio:(ops40.all fun o=>okOp true o.op)=true:=by kernel_rfl
  have hdC:∀ b3,OkDef (dC b3):=fun b3=>by simp [OkDef,dC]
  refine toB_lone sokAll hsk hh (fun a w' τ d h=>?_) (fun τ d=>?_) ?_ (tgt:=[.inRegion ops40 [3,4,5],.code .ret]) (S:=fun a w'=>∃ p V' D b1 b2 b3,(∃ x5 x7 x8 x9 x10 x11,a=⟨#[.agg #[vv,rv],ptr b1,ptr b2,ptr b3,ptr p,x5,.agg #[vv,rv],x7,x8,x9,x10,x11,undef,undef,ptr p,ptr p,.agg (stC (nowS k noneB)).toArray,undef],[dC b3]⟩) ∧
    Cellar V' p k∧Closed V' D∧p∈D∧St w [] V' [.blk b3 38 [.int .i64 0],.blk b2 27 [.int .i64 0,.int .i64 0]] w')
  ·obtain ⟨p,V',D,b1,b2,b3,h1,h2,h3,h4,h5⟩:=h
   exact ⟨p,V',D,b1,b2,b3,h1,h2,h3,h4,h5.re1 τ d⟩
  ·rw [← htm]
   refine (lost_start (w:=w.re τ d) vv rv k hk hG hV hb hst).mono ?_
   rintro a w' ⟨p,V',D,b1,b2,b3,h1,h2,h3,h4,h5⟩
   exact ⟨p,V',D,b1,b2,b3,h1,h2,h3,h4,h5.re0⟩
  ·rintro a' wA ⟨p,V',D,b1,b2,b3,⟨x5,x7,x8,x9,x10,x11,rfl⟩,⟨ts,vv',rv',hcel⟩,hD,hpD,hS⟩ hhA _
   have htot:=total_B hcel hok (nowS k noneB) (nowS_wf _ _) (nowS_lo k hok noneB) (fun i=>Int.le_trans (nowS_hi k hok noneB i) (by decide)) false hD hpD hS.view hhA
   refine toB_op sokAll (i:=3) (o:=ops40[3]!) (r:=true) rfl rfl (by rw [hbk];decide) rfl hhA (fun _ _ _=>trivial) fun d=>?_
   rw [run_call_body rfl Tryd.func97 (by kernel_rfl) rfl]
   intro hhd
   simp only [List.map_toArray,List.map_cons,List.map_nil]
   have hat:∀ {Q:Goroutine→World→Prop} {g:Goroutine},ToB Tryd.prog g wA Q→ToB Tryd.prog g (wA.at d) Q:=fun h=>h.at
   refine hat (toB_called (i:=3) (o:=ops40[3]!) rfl htot (fun v w1 ⟨hv,hk1⟩ hh1=>?_) fun ch w1 ⟨hv,_⟩ _=>nomatch hv)
   cases hv
   replace hS:=hS.kp hk1
   show ToB Tryd.prog (G (b.at ⟨#[.agg #[vv,rv],ptr b1,ptr b2,ptr b3,ptr p,x5,.agg #[vv,rv],x7,x8,x9,x10,x11,undef,undef,ptr p,ptr p,.agg (stC (nowS k noneB)).toArray,spanV (totalS k (nowS k noneB) false)],[dC b3]⟩ [.inRegion ops40 [4,5],.code .ret]) cs) w1 _
   refine toB_lone sokAll (f0:=40) ⟨⟨fun x hx=>?_,fun d hd=>?_,.inl hbk⟩,rfl,hbk,hbf⟩ hh1 (fun a w' τ d h=>⟨h.1,h.2.re1 τ d⟩) (fun τ d=>lost_end (hS.re1 τ d)) ?_
   ·have:x=.inRegion ops40 [4,5]∨x=.code .ret:=by simpa [Frame.at] using hx
    rcases this with rfl | rfl
    ·exact hio
    ·exact (show okCode true .ret=true from rfl)
   ·have:d=dC b3:=by simpa [Frame.at] using hd
    subst this
    exact hdC b3
   ·rintro a' w2 ⟨rfl,hS2⟩ hh2 _
    refine toB_ret ?_
    refine (toB_leavesP (fr:={ b.at ⟨#[.agg #[vv,rv],ptr b1,ptr b2,ptr b3,ptr p,x5,.agg #[vv,rv],x7,x8,x9,x10,x11,undef,undef,ptr p,ptr p,.agg (stC (nowS k noneB)).toArray,spanV (totalS k (nowS k noneB) false)],[dC b3]⟩ [.code .ret] with mode:=.returning }) sokAll ins_kp (fun w h=>nomatch h.1) (fn:=Tryd.f40) ⟨⟨fun x hx=>?_,fun d hd=>?_,.inl hbk⟩,rfl,hbk,hbf⟩ Tryd.func40 hh2 rfl (fun τ d=>?_) cs)
    ·have:x=.code .ret:=by simpa [Frame.at] using hx
     subst this
     exact (show okCode true .ret=true from rfl)
    ·have:d=dC b3:=by simpa [Frame.at] using hd
     subst this
     exact hdC b3
    ·refine door_idle (R:=fun r w'=>r=.returned (.tuple #[spanV (totalS k (nowS k noneB) false),.int .i64 0])∧Kp w w') (hS2.re1 τ d) fun w3 hS3=>⟨_,results2 (r1:=.cell 2 27) (r2:=.cell 3 38) (by kernel_rfl) (res_celln hS3 (n:=2) 1 rfl rfl (by kernel_rfl) rfl rfl) (res_cell1 hS3 0 rfl rfl (by kernel_rfl) rfl),rfl,hS3.toKp⟩
 ·refine callsB_of_calls sokAll ins_kp (fun w h=>nomatch h.1) hh fun τ d=>?_
  exact (Lost_bad (w:=w.re τ d) vv rv k hk hG hV hbs).mono fun e w' h=>⟨h.1,⟨h.2.os,h.2.output,h.2.size,h.2.old⟩⟩
end Go.Proofs.YtjjmefieegcddaaDoor
namespace Go.Tm
open Go
open Go.Conc
variable {P:Program}
def RchR (P:Program) (ro:Option Nat) (tgt:List Item) (S:Act→World→Prop) (todo:List Item) (a:Act) (w:World):Prop :=
 ∀ (b:Frame) (cs:List Frame),b.kind=.normal→b.roundOf=ro→∃ a' w',S a' w'∧Steps P (lone (b.atR a todo) cs w) (lone (b.atR a' tgt) cs w')
section
variable {ro:Option Nat} {tgt k:List Item} {S:Act→World→Prop} {a:Act} {w:World}
theorem rr_here (h:S a w):RchR P ro tgt S tgt a w:=fun _ _ _ _=>⟨a,w,h,.refl _ _⟩
theorem rr_move {todo todo':List Item} {a':Act} {w':World} (hs:∀ (b:Frame) (cs:List Frame),b.kind=.normal→b.roundOf=ro→step P (lone (b.atR a todo) cs w)=.next (lone (b.atR a' todo') cs w')) (h:RchR P ro tgt S todo' a' w'):RchR P ro tgt S todo a w:=by
 intro b cs hb hr
 obtain ⟨a2,w2,h1,h2⟩:=h b cs hb hr
 exact ⟨a2,w2,h1,.head (hs b cs hb hr) h2⟩
theorem rr_skip (h:RchR P ro tgt S k a w):RchR P ro tgt S (.code .skip :: k) a w:=rr_move (fun _ _ _ _=>stepR_skip) h
theorem rr_label {l:Nat} (h:RchR P ro tgt S k a w):RchR P ro tgt S (.code (.label l) :: k) a w:=rr_move (fun _ _ _ _=>stepR_label) h
theorem rr_seq {x y:Code} (h:RchR P ro tgt S (.code x :: .code y :: k) a w):RchR P ro tgt S (.code (.seq x y) :: k) a w:=rr_move (fun _ _ _ _=>stepR_seq) h
theorem rr_block {id:Nat} {x:Code} (h:RchR P ro tgt S (.code x :: .inBlock id :: k) a w):RchR P ro tgt S (.code (.block id x) :: k) a w:=rr_move (fun _ _ _ _=>stepR_block) h
theorem rr_inBlock {id:Nat} (h:RchR P ro tgt S k a w):RchR P ro tgt S (.inBlock id :: k) a w:=rr_move (fun _ _ _ _=>stepR_inBlock) h
theorem rr_loop {x:Code} (h:RchR P ro tgt S (.code x :: .inLoop x :: k) a w):RchR P ro tgt S (.code (.loop x) :: k) a w:=rr_move (fun _ _ _ _=>stepR_loop) h
theorem rr_inLoop {x:Code} (h:RchR P ro tgt S (.code x :: .inLoop x :: k) a w):RchR P ro tgt S (.inLoop x :: k) a w:=rr_move (fun _ _ _ _=>stepR_inLoop) h
theorem rr_cond {o:Operand} {x y:Code} {t:Bool} (hc:a.eval o=.bool t) (h:RchR P ro tgt S (.code (if t then x else y) :: k) a w):RchR P ro tgt S (.code (.cond o x y) :: k) a w:=rr_move (fun _ _ _ _=>stepR_cond hc) h
theorem rr_exit {id:Nat} {k':List Item} (hk:exitTo id k=some k') (h:RchR P ro tgt S k' a w):RchR P ro tgt S (.code (.exit id) :: k) a w:=rr_move (fun _ _ _ _=>stepR_exit hk) h
theorem rr_round {ops:Array Oper} {i:Nat} {rest:List Nat} {o:Oper} {l:Nat} {f:FuncId} {tmps:Array Value} {assign body:Code} {w':World} (ho:ops[i]? = some o) (hw:Region.wanted o (yielded ops a.tmps)=true) (hd:∀ c,o.op≠.defer c) (hr:(execOp a.eval o).run P w=.ok (.round l f tmps assign body) w')
  (h:RchR P (some l) [] (fun _ w2=>∃ v w3,(Instr.endRound l none).run P w2=.ok v w3∧RchR P ro tgt S (.inRegion ops rest :: k) (a.put o.dst v) w3) [.code assign,.beginRound,.code body] ⟨tmps,[]⟩ w'):RchR P ro tgt S (.inRegion ops (i :: rest) :: k) a w:=by
 intro b cs hb hro
 let br:Frame:={ (default:Frame) with fn:=f,kind:=.normal,roundOf:=some l }
 have hb0:Frame.round l f tmps assign body .normal=br.atR { tmps:=tmps,defers:=[] } [.code assign,.beginRound,.code body]:=by
  simp [Frame.round,Frame.atR,br]
 obtain ⟨a1,w2,⟨v,w3,hend,hR⟩,hst⟩:=h br (b.atR a (.inRegion ops (i :: rest) :: k) :: cs) rfl rfl
 obtain ⟨a',w4,hs,hst2⟩:=hR b cs hb hro
 have hg:=stepGR_op (P:=P) (b:=b) (a:=a) (k:=k) (cs:=cs) (w:=w) (rest:=rest) ho hw
 have henter:step P (lone (b.atR a (.inRegion ops (i :: rest) :: k)) cs w)=.next (lone (Frame.round l f tmps assign body .normal) (b.atR a (.inRegion ops (i :: rest) :: k) :: cs) w') :=
  step_lone_go (by rw [hg,Oper.semAt_eq _ _ _ hd];simp [stepG.apply,hr,Frame.atR])
 have hfin:(b.atR a (.inRegion ops (i :: rest) :: k)).finish v=b.atR (a.put o.dst v) (.inRegion ops rest :: k):=by rw [Frame.finish_atR,ho];rfl
 refine ⟨a',w4,hs,.head henter ?_⟩
 rw [hb0]
 refine Steps.trans hst (.head ?_ hst2)
 rw [← hfin]
 exact stepR_round_end rfl rfl hend
theorem rr_beginRound {l:Nat} {w':World} (hr:(Instr.beginRound l).run P w=.ok () w') (h:RchR P (some l) tgt S k a w'):RchR P (some l) tgt S (.beginRound :: k) a w :=
 rr_move (fun _ _ _ hb=>stepR_beginRound hb hr) h
theorem RchR.mono {S':Act→World→Prop} {todo:List Item} (h:RchR P ro tgt S todo a w) (hs:∀ a w,S a w→S' a w):RchR P ro tgt S' todo a w:=fun b cs hb hr=>by
 obtain ⟨a',w',h1,h2⟩:=h b cs hb hr
 exact ⟨a',w',hs _ _ h1,h2⟩
theorem RchR.bind {mid:List Item} {S':Act→World→Prop} {todo:List Item} (h:RchR P ro mid S' todo a w) (hs:∀ a w,S' a w→RchR P ro tgt S mid a w):RchR P ro tgt S todo a w:=fun b cs hb hr=>by
 obtain ⟨a',w',h1,h2⟩:=h b cs hb hr
 obtain ⟨a2,w2,h3,h4⟩:=hs _ _ h1 b cs hb hr
 exact ⟨a2,w2,h3,Steps.trans h2 h4⟩
theorem rch_of_rr {todo:List Item} (h:RchR P none tgt S todo a w):Rch P tgt S todo a w:=fun b cs hb=>by
 obtain ⟨a',w',h1,h2⟩:=h { b with roundOf:=none } cs hb rfl
 exact ⟨a',w',h1,h2⟩
theorem rr_of_rch {todo:List Item} (h:Rch P tgt S todo a w):RchR P none tgt S todo a w:=fun b cs hb hr=>by
 obtain ⟨a',w',h1,h2⟩:=h b cs hb
 refine ⟨a',w',h1,?_⟩
 rw [Frame.atR_of_none hr,Frame.atR_of_none hr]
 exact h2
theorem Rch.bind {mid:List Item} {S':Act→World→Prop} {todo:List Item} (h:Rch P mid S' todo a w) (hs:∀ a w,S' a w→Rch P tgt S mid a w):Rch P tgt S todo a w:=fun b cs hb=>by
 obtain ⟨a',w',h1,h2⟩:=h b cs hb
 obtain ⟨a2,w2,h3,h4⟩:=hs _ _ h1 b cs hb
 exact ⟨a2,w2,h3,Steps.trans h2 h4⟩
theorem rr_code {l n:Nat} {x:Code} (h:x.wpIn (Fence.wide.inRound l) n P (fun e a' w'=>e=.normal∧RchR P (some l) tgt S k a' w') a w):RchR P (some l) tgt S (.code x :: k) a w:=by
 intro b cs hb hr
 obtain ⟨e,a1,w1,⟨rfl,hR⟩,harr⟩:=h b k cs hr trivial (room_wide _)
 obtain ⟨a',w',hs,hst⟩:=hR b cs hb hr
 exact ⟨a',w',hs,Steps.trans (StepsIn.steps harr) hst⟩
def recOf (fn:FuncId) (tmps:Array Value) (ps:Array Tmp) (assign body:Code) (D:Nat) (st:LoopState) (pe:Option Code):Loop :=
 { state:=st,pending:=pe,fn,tmps,params:=ps,assign,body,defers:=D }
theorem rch_rangeFunc {g:Operand} {ps:Array Tmp} {assign body:Code} {gf:Nat} {lb:Array Value} (hg:a.eval g=.func (.func gf) #[] lb) (eg:∀ args w,(callFunc gf args).run P w=.ok (.enter gf args) w)
  (h:∀ fn,Calls P gf (#[.func (.yield (w.heap.size+1)) #[] #[]] ++ lb) ((w.alloc (.deferred (some []))).alloc (.loop (recOf fn a.tmps ps assign body w.heap.size .ready none))) fun e w3=>∃ v,e=.returned v ∧
   w3.heap[w.heap.size+1]? = some (.loop (recOf fn a.tmps ps assign body w.heap.size .ready none)) ∧
   Rch P tgt S k { a with defers:={ target:=.collected w.heap.size,args:=#[] } :: a.defers } (w3.putObj (w.heap.size+1) (.loop (recOf fn a.tmps ps assign body w.heap.size .exhausted none)))) :
  Rch P tgt S (.code (.rangeFunc g ps assign body) :: k) a w:=by
 refine rch_code (wpIn_wide.1 (wpIn_rangeFunc (n:=1) fun fn _=>?_))
 have hc:=h fn
 obtain ⟨W1,hW1⟩:∃ W1,(w.alloc (.deferred (some []))).alloc (.loop (recOf fn a.tmps ps assign body w.heap.size .ready none))=W1:=⟨_,rfl⟩
 rw [hW1] at hc
 refine ⟨w.heap.size+1,[{ target:=.collected w.heap.size,args:=#[] }],W1,{ target:=.fn (.func gf) lb,args:=#[.func (.yield (w.heap.size+1)) #[] #[]] },W1,gf,
  #[.func (.yield (w.heap.size+1)) #[] #[]] ++ lb,W1,?_,?_,fun _ _=>trivial,?_,fun _=>Nat.le_refl _,callsIn_wide.2 ?_⟩
 ·rw [← hW1]
  exact run_enterLoop_outer _ _ _ _ _
 ·simp only [resolve,hg]
  simp [go_sem]
 ·simp [invoke,go_sem,eg]
 ·refine hc.mono ?_
  rintro e w3 ⟨v,rfl,h1,h2⟩
  exact ⟨none,_,run_endLoop h1 (by simp [recOf]),rfl,h2⟩
def shutAll:List Nat→World→World
 | [],w=>w
 | d :: ds,w=>shutAll ds (w.putObj d (.deferred none))
def marks (ds:List Nat):List Deferred:=ds.map fun d=>{ target:=.collected d,args:=#[] }
theorem shutAll_other {ds:List Nat} {w:World} {j:Nat} (h:j ∉ ds):(shutAll ds w).heap[j]? = w.heap[j]?:=by
 induction ds generalizing w with
 | nil=>rfl
 | cons d ds ih =>
  rw [shutAll,ih (fun hj=>h (List.mem_cons_of_mem _ hj)),World.putObj_heap_other (fun e=>h (by rw [e];exact List.mem_cons_self ..))]
theorem shutAll_size {ds:List Nat} {w:World}:(shutAll ds w).heap.size=w.heap.size:=by
 induction ds generalizing w with
 | nil=>rfl
 | cons d ds ih=>rw [shutAll,ih,World.putObj_size]
theorem shutAll_os {ds:List Nat} {w:World}:(shutAll ds w).os=w.os∧(shutAll ds w).output=w.output:=by
 induction ds generalizing w with
 | nil=>exact ⟨rfl,rfl⟩
 | cons d ds ih=>rw [shutAll];exact ih
theorem leave_marks {fr:Frame} {cs:List Frame} {ds:List Nat} {w:World} (hm:fr.mode=.returning) (hd:fr.defers=marks ds) (hn:ds.Nodup) (hh:∀ d∈ds,w.heap[d]? = some (.deferred (some []))) :
  Steps P (lone fr cs w) (lone { fr with defers:=[] } cs (shutAll ds w)):=by
 induction ds generalizing fr w with
 | nil =>
  have:{ fr with defers:=[] }=fr:=by cases fr;simp only [marks,List.map_nil] at hd;subst hd;rfl
  rw [this]
  exact .refl _ _
 | cons d ds ih =>
  have h1:=step_collected (P:=P) (cs:=cs) (fr:=fr) (d:={ target:=.collected d,args:=#[] }) (ds:=marks ds) (by rw [hm];simp) hd rfl (run_takeDeferred (hh d (List.mem_cons_self ..)))
  have hnd:=List.nodup_cons.1 hn
  refine .head h1 ?_
  have:=ih (fr:={ fr with defers:=[] ++ marks ds }) (w:=w.putObj d (.deferred none)) hm rfl hnd.2 fun x hx=>by
   rw [World.putObj_heap_other (fun e=>hnd.1 (by rw [← e];exact hx))]
   exact hh x (List.mem_cons_of_mem _ hx)
  exact this
theorem calls_of_rch {f:FuncId} {fn:Func} {c:Code} {args:Array Value} {R:Ending→World→Prop} {k0:List Item} (hf:P.funcs[f]? = some fn) (hb:fn.body=some c)
  (h:Rch P (.code .ret :: k0) (fun a' w'=>∃ ds v,a'.defers=marks ds∧ds.Nodup∧(∀ d∈ds,w'.heap[d]? = some (.deferred (some [])))∧(results fn a'.tmps).run P (shutAll ds w')=.ok v (shutAll ds w')∧R (.returned v) (shutAll ds w'))
   [.code c] { tmps:=args ++ Array.replicate (fn.ntmps - args.size) undef,defers:=[] } w):Calls P f args w R:=by
 intro cs
 let b:Frame:={ (default:Frame) with fn:=f,kind:=.normal,roundOf:=none }
 have henter:Frame.enter P f args .normal=b.at { tmps:=args ++ Array.replicate (fn.ntmps - args.size) undef,defers:=[] } [.code c]:=by
  simp [Frame.enter,Frame.at,hf,hb,b]
 obtain ⟨a',w',⟨ds,v,hd,hn,hh,hrs,hR⟩,hst⟩:=h b cs rfl
 refine ⟨.returned v,shutAll ds w',{ { b.at a' (.code .ret :: k0) with mode:=.returning } with defers:=[] },hR,?_,rfl,?_⟩
 ·rw [henter]
  refine Steps.trans hst (.head (m₁:=lone { b.at a' (.code .ret :: k0) with mode:=.returning } cs w') ?_ (leave_marks rfl hd hn hh))
  have:=stepR_ret (P:=P) (b:=b) (a:=a') (k:=k0) (cs:=cs) (w:=w') rfl
  exact this
 ·exact ⟨rfl,rfl,rfl,fn,hf,hrs⟩
end
end Go.Tm
namespace Go.Tm
open Go
open Go.Conc
variable {P:Program}
def noDef (o:Oper):Bool:=match o.op with
 | .defer _=>false
 | _=>true
theorem noDef_ok {o:Oper} (h:noDef o=true):∀ c,o.op≠.defer c:=by
 intro c hc
 simp [noDef,hc] at h
theorem rows_round {l n:Nat} {row:String} {args:Array Value} {w:World} {R:Value→World→Prop} (h:Rows P row args w R):RowsIn (Fence.wide.inRound l) n P row args w R:=fun c cs _=>by
 obtain ⟨v,w',r,s⟩:=h c cs
 exact ⟨v,w',r,stepsIn_wide.2 s⟩
theorem upon_in {l n:Nat} {o:Oper} {a:Act} {next next':Act→World→Prop} {Q:Exit→Act→World→Prop} {r:Result Next} (hn:∀ a w,next a w→next' a w) (h:o.upon P a next Q r):o.uponIn (Fence.wide.inRound l) n P a next' Q r:=by
 cases r with
 | ok nx w' =>
  cases nx with
  | value v=>exact hn _ _ h
  | skip=>exact hn _ _ h
  | defer d=>exact hn _ _ h
  | enter f args =>
   refine And.intro (fun h=>Bool.noConfusion (show false=true from h)) (callsIn_wide.2 (Calls.mono h fun e w'' he=>?_))
   cases e with
   | returned v=>exact hn _ _ he
   | panicked c=>exact he
   | outgrown=>exact he
  | row row args=>exact And.intro (fun h=>Bool.noConfusion (show false=true from h)) (rows_round (Rows.mono h fun u w'' he=>hn _ _ he))
  | _=>exact h.elim
 | halt x w' =>
  cases x with
  | panic u=>exact h
  | _=>exact h.elim
theorem wp_in {l n:Nat} {o:Oper} {a:Act} {w:World} {next next':Act→World→Prop} {Q:Exit→Act→World→Prop} (hd:noDef o=true) (hn:∀ a w,next a w→next' a w) (h:o.wp P a w next Q):o.wpIn (Fence.wide.inRound l) n P a w next' Q:=by
 refine ⟨fun _ _=>trivial,?_⟩
 have e:o.semAt (Fence.wide.inRound l).round a.eval=execOp a.eval o:=Oper.semAt_eq _ _ _ (noDef_ok hd)
 rw [e]
 exact upon_in hn h
theorem wpList_in {l n:Nat} {ops:Array Oper} {Q:Exit→Act→World→Prop} (hQ:¬ LetsOut Q):∀ (os:List Oper),os.all noDef=true→∀ (a:Act) (w:World),wpList P ops Q os a w→wpListIn (Fence.wide.inRound l) n P ops Q os a w
 | [],_,_,_,h=>h
 | o :: os,hd,a,w,h=>by
  rw [List.all_cons,Bool.and_eq_true] at hd
  simp only [wpList,wpListIn] at h ⊢
  split at h
  ·rename_i hw
   rw [if_pos hw]
   rcases h with h | h
   ·exact wp_in hd.1 (fun a w h=>wpList_in hQ os hd.2 a w h) h
   ·exact (hQ h.2).elim
  ·rename_i hw
   rw [if_neg hw]
   exact ⟨fun _ _=>trivial,wpList_in hQ os hd.2 _ _ h⟩
theorem wpOps_in {l n:Nat} {ops:Array Oper} {Q:Exit→Act→World→Prop} (hQ:¬ LetsOut Q) (hd:∀ (i:Nat) (o:Oper),ops[i]? = some o→noDef o=true):∀ (is:List Nat) (a:Act) (w:World),wpOps P ops Q is a w→wpOpsIn (Fence.wide.inRound l) n P ops Q is a w
 | [],_,_,h=>h
 | i :: is,a,w,h=>by
  simp only [wpOps,wpOpsIn] at h ⊢
  cases ho:ops[i]? with
  | none =>
   simp only [ho] at h ⊢
   exact wpOps_in hQ hd is a w h
  | some o =>
   simp only [ho] at h ⊢
   split at h
   ·rename_i hw
    rw [if_pos hw]
    rcases h with h | h
    ·exact wp_in (hd i o ho) (fun a w h=>wpOps_in hQ hd is a w h) h
    ·exact (hQ h.2).elim
   ·rename_i hw
    rw [if_neg hw]
    exact ⟨fun _ _=>trivial,wpOps_in hQ hd is _ _ h⟩
section
variable {tgt k:List Item} {S:Act→World→Prop} {a:Act} {w:World} {l:Nat}
theorem noOut {R:Act→World→Prop}:¬ LetsOut (fun e a' w'=>e=Exit.normal∧R a' w'):=fun ⟨_,_,h⟩=>nomatch h.1
theorem rr_list {id:Nat} {os:List Oper} (hd:os.all noDef=true) (h:wpList P os.toArray (fun e a' w'=>e=.normal∧RchR P (some l) tgt S k a' w') os a w):RchR P (some l) tgt S (.code (.region id os.toArray false) :: k) a w :=
 rr_code (n:=0) (wpIn_region_lit (wpList_in noOut _ hd _ _ h))
theorem rr_draw {id:Nat} {os:List Oper} {S0:World→Prop} (bs:List Bool) (hb:bs=List.replicate os.length false) (hm:P.follows .mixedOrders=true) (hd:os.all noDef=true)
  (h:wpAnyH P .any os.toArray (fun e a' w'=>e=.normal∧RchR P (some l) tgt S k a' w') S0 os.length bs.toArray a { w with drawn:=w.drawn+1 }):RchR P (some l) tgt S (.code (.region id os.toArray true) :: k) a w:=by
 subst hb
 have e:(List.replicate os.length false).toArray=Array.replicate os.toArray.size false:=by apply Array.ext';simp
 rw [e,show os.length=os.toArray.size by simp] at h
 refine rr_code (n:=0) (wpIn_region_draw fun t=>?_)
 refine wpOps_in noOut (fun i o ho=>?_) _ _ _ ?_
 ·have:os[i]? = some o:=by simpa using ho
  exact List.all_eq_true.1 hd o (List.mem_of_getElem? this)
 ·simp only [Region.schedule,hm,Bool.true_or,if_true]
  exact wpAny_sound _ t _ a _ (wpAny_of_held _ _ _ _ h)
end
end Go.Tm
namespace Go.Proofs.YtjjmefieegcddaaDoor
open Go.RowKit Go.Wg Go.Mm Go.Wk
open Go Go.Sr Go.Ph Go.Tm Go.Conc
variable {w:World} {V:View}
def Vw (V:View) (j:Nat) (o:Obj):View:=fun i=>if i=j then some o else V i
theorem Vw.same (V:View) (j:Nat) (o:Obj):Vw V j o j=some o:=by simp [Vw]
theorem Vw.other (V:View) {i j:Nat} (o:Obj) (h:i≠j):Vw V j o i=V i:=by simp [Vw,h]
theorem st_swap {w0:World} {X:List Nat} {L:List Ent} {j:Nat} {o:Obj} (h:St w0 X V L w) (hj:w0.heap.size≤j) (hv:V j=some o) (o':Obj):St w0 X (Vw V j o') L (w.putObj j o'):=by
 have hlt:j < w.heap.size:=lt_of_heap (h.view j o hv)
 have hne:∀ e∈L,∀ b,e.foot=some b→b≠j:=fun e he b hb hbj=>by
  have:=h.off e he b hb
  rw [hbj,hv] at this
  cases this
 refine ⟨h.os,h.output,by rw [World.putObj_size];exact h.size,fun k hk hx=>?_,fun k u hk=>?_,fun e he=>?_,h.new,fun e he b hb=>?_,h.nd⟩
 ·rw [World.putObj_heap_other (by omega)]
  exact h.old k hk hx
 ·by_cases e:k=j
  ·subst e
   rw [Vw.same] at hk
   cases hk
   exact World.putObj_heap_same hlt
  ·rw [Vw.other V o' e] at hk
   rw [World.putObj_heap_other e]
   exact h.view k u hk
 ·exact (h.has e he).of_heap fun g hg=>World.putObj_heap_other (hne e he g hg)
 ·rw [Vw.other V o' (hne e he b hb)]
  exact h.off e he b hb
theorem Vw.back {V:View} {j:Nat} {o o':Obj} (hv:V j=some o):∀ k u,V k=some u→Vw (Vw V j o') j o k=some u:=fun k u hk=>by
 by_cases e:k=j
 ·subst e;rw [Vw.same];rw [hv] at hk;exact hk
 ·rw [Vw.other _ _ e,Vw.other _ _ e];exact hk
theorem Vw.sub {V:View} {j:Nat} {o:Obj} (hv:V j=none):∀ k u,V k=some u→Vw V j o k=some u:=fun k u hk=>by
 by_cases e:k=j
 ·subst e;rw [hv] at hk;cases hk
 ·rw [Vw.other _ _ e];exact hk
theorem run_yieldop {o:Oper} {ρ:Operand→Value} {x y:Operand} {ats:Array TypeId} {l:Nat} {r:Loop} {v:Value} (ho:o.op=.call { callee:=.value x,args:=#[y],argTypes:=ats }) (hx:ρ x=.func (.yield l) #[] #[]) (hy:ρ y=v)
  (h:w.heap[l]? = some (.loop r)) (hs:r.params.size=1):(execOp ρ o).run Tryd.prog w=.ok (.round l r.fn ((r.params.zip #[v]).foldl (fun t (p,u)=>t.setIfInBounds p u) r.tmps) r.assign r.body) w:=by
 have hr:=run_yield (P:=Tryd.prog) (args:=#[v]) h (by rw [hs];rfl)
 unfold execOp
 simp [ho,resolve,invoke,hx,hy,go_sem,hr]
theorem branch_ok (ti:Nat) (w:World):Calls Tryd.prog 94 #[ptr ti] w fun e w'=>∃ g,e=.returned (.func (.func 121) #[] #[ptr g])∧Kp w w'∧w.heap.size≤g∧w'.heap[g]? = some (.cells [ptr ti].toArray 124 (0,0)):=by
 have hS:=St.start w (fun _=>none) (fun k o h=>by cases h)
 unfold ptr
 go_enter Tryd.func94,Tryd.ntmps94
 go_wp2_with ((with_reducible refine gB ?_);refine qboxd 1 rfl hS rfl rfl rfl ?_;refine ⟨_,za,?_⟩;clear hS;(try clear w');intro b1;intro a' hp;(try simp only [fr] at hp);subst hp;intro w' hS)
 ((try simp only [Exit.inBlock,Exit.then]);(try refine bodyPost_norm ?_);refine ret_by ⟨_,by exact results1 (r1:=.tmp 2) (by kernel_rfl) (by exact rs_tmp rfl),?_⟩ rfl)
 exact ⟨b1,rfl,hS.toKp,hS.newAt (b:=b1),hS.has1 (b:=b1)⟩
def RoundAt (w0:World) (V:View) (kb:Nat) (c:List Nat→List Value) (lr:Nat) (rec:Loop) (n:Nat) (ts:List Nat):Prop :=
 ∀ V':View,(∀ j u,V j=some u→V' j=some u)→∀ (pre:List Nat) (x:Nat) (w:World),x < n→St w0 [] V' [.blk kb 4 (c pre)] w →
  RchR Tryd.prog (some lr) [] (fun _ w2=>∃ w3,(Instr.endRound lr none).run Tryd.prog w2=.ok (.bool true) w3∧St w0 [] V' [.blk kb 4 (c (pre ++ [x]))] w3)
   [.code rec.assign,.beginRound,.code rec.body] ⟨(rec.params.zip #[ptr (ts.getD x 0)]).foldl (fun t (p,u)=>t.setIfInBounds p u) rec.tmps,[]⟩ w
noncomputable def B122:Code:=match Tryd.f122.body with | some c=>c | none=>.skip
set_option maxRecDepth 20000 in
set_option maxHeartbeats 4000000 in
theorem from_ok {p:Nat} {k:Wk} {ts:List Nat} {vv rv:Value} (hC:Cel V p k ts vv rv) (hok:k.Ok) {w0:World} {kb lr by_ bf:Nat} {c:List Nat→List Value} {rec:Loop}
  (hby:V.Cell by_ 0 (.func (.yield lr) #[] #[])) (hbf:V.Cell bf 0 (.func (.func 122) #[] #[ptr by_,ptr bf])) (hrec:V lr=some (.loop rec)) (hps:rec.params.size=1) (hround:RoundAt w0 V kb c lr rec k.n ts) :
  ∀ (f i:Nat),i < k.n→k.n - i≤f→∀ pre w,St w0 [] V [.blk kb 4 (c pre)] w →
   Calls Tryd.prog 122 #[ptr (ts.getD i 0),ptr by_,ptr bf] w fun e w'=>e=.returned (.bool true)∧St w0 [] V [.blk kb 4 (c (pre ++ brF k f i))] w':=by
 intro f
 induction f with
 | zero=>intro i hi hf;omega
 | succ f ih =>
  intro i hi hf pre w hS
  have hR:=hround V (fun _ _ h=>h) pre i w hi hS
  obtain ⟨fv,hf5,hfs⟩:=hC.fil i hi
  obtain ⟨fa,fcap,rfl,hfc,hfm,hfe⟩:=hfs.is
  have hfl2:(k.fills i).length≤6:=by
   have:=fills_len k i
   have:=hC.le
   omega
  refine calls_of_rch (k0:=[]) Tryd.func122 (show Tryd.f122.body=some B122 from rfl) ?_
  have e22:Tryd.f122.ntmps - (#[ptr (ts.getD i 0),ptr by_,ptr bf]:Array Value).size=22:=by kernel_rfl
  rw [e22]
  have hcy:=hby.cell hS.view
  have hcl:=hS.view lr _ hrec
  unfold ptr at *
  generalize ts.getD i 0=ti at *
  simp only [Array.replicate_succ,Array.replicate_zero,List.push_toArray,List.append_toArray,List.nil_append,List.cons_append]
  refine rch_seq (rch_code ?_)
  go_wp2_with (fail)
  refine rch_seq (rch_seq (rch_region ?_))
  refine rch_op (i:=0) (v:=.func (.yield lr) #[] #[]) (w':=w) rfl rfl (run_load1 rfl rfl (by kernel_rfl) hcy) ?_
  refine rch_op (i:=1) (v:=.pointer (some ⟨ti,0,none⟩)) (w':=w) rfl rfl rfl ?_
  refine rch_of_rr (rr_round (i:=2) rfl rfl (noDef_ok rfl) (run_yieldop rfl rfl rfl hcl hps) (hR.mono ?_))
  rintro a w2 ⟨w3,hend,hS3⟩
  refine ⟨_,w3,hend,rr_of_rch ?_⟩
  clear hS hR hcy hcl
  have hS:=hS3
  clear hS3
  refine rch_op (i:=3) (v:=.bool false) (w':=w3) rfl rfl rfl ?_
  refine rch_region_end (rch_cond (t:=false) rfl (rch_skip ?_))
  have HB:brF k (f+1) i=i :: (k.fills i).flatMap (brF k f):=by rw [brF]
  have hmem:∀ q,q < (k.fills i).length→i < (k.fills i).getD q 0∧(k.fills i).getD q 0 < k.n:=fun q hq=>by
   refine fills_gt hok ?_
   rw [List.getD_eq_getElem?_getD,List.getElem?_eq_getElem hq]
   exact List.getElem_mem _
  have hihq:=fun q (hq:q < (k.fills i).length) pre w hS=>ih ((k.fills i).getD q 0) (hmem q hq).2 (by have:=(hmem q hq).1;omega) pre w hS
  have hst:∀ q,q < (k.fills i).length→pre ++ [i] ++ ((k.fills i).take (q+1)).flatMap (brF k f)=pre ++ [i] ++ ((k.fills i).take q).flatMap (brF k f) ++ brF k f ((k.fills i).getD q 0):=fun q hq=>by
   rw [List.take_add_one,List.getElem?_eq_getElem hq,List.flatMap_append,List.getD_eq_getElem?_getD,List.getElem?_eq_getElem hq]
   simp
  have hS0:St w0 [] V [.blk kb 4 (c (pre ++ [i] ++ ((k.fills i).take 0).flatMap (brF k f)))] w3:=by simpa using hS
  have hfin:pre ++ brF k (f+1) i=pre ++ [i] ++ ((k.fills i).take (k.fills i).length).flatMap (brF k f):=by rw [HB,List.take_length];simp
  rw [hfin]
  clear HB hmem ih hround hS hfin
  have hS:=hS0
  clear hS0
  generalize hfl:k.fills i=fl at *
  refine rch_seq (rch_code ?_)
  go_wp2_with (((with_reducible refine gL ?_);refine qv1 hS rfl rfl rfl ?_);refine ⟨_,zd,?_⟩;clear hS;(try clear w');intro a' hp;(try simp only [fr] at hp);subst hp;intro w' hS;(try simp only [sE] at hS))
  go_loopw [16] (fun qv wr=>∃ q:Nat,q≤fl.length∧qv=.int .i64 (q:Int)∧St w0 [] V [.blk kb 4 (c (pre ++ [i] ++ (fl.take q).flatMap (brF k f)))] wr) (fun qv _=>fl.length - (intOf qv).toNat)
  case atStart=>exact ⟨0,by omega,rfl,hS⟩
  case round =>
   clear hS
   obtain ⟨q,hq,rfl,hS⟩:=hrel
   by_cases hql:q < fl.length
   ·have hq1:(q:Int) < fl.length:=by omega
    have hq0:(0:Int)≤q:=by omega
    obtain ⟨fg,fo,rfl,hfr⟩:=hfe (by omega)
    have hpx:=hfr q hql 0 _ rfl
    have hihx:=hihq q hql
    have hstq:=hst q hql
    simp only [Nat.mul_one,Nat.add_zero] at hpx
    generalize ts.getD (fl.getD q 0) 0=tx at hpx hihx
    generalize brF k f (fl.getD q 0)=br at hihx hstq
    generalize pre ++ [i] ++ (fl.take q).flatMap (brF k f)=cur at hS hstq
    clear hfr hihq hst hfe
    replace hstq:=mkHid hstq
    go_wp2_with (first | (((with_reducible refine gL ?_);refine qv1 hS rfl rfl rfl ?_);refine ⟨_,zd,?_⟩;clear hS;(try clear w');intro a' hp;(try simp only [fr] at hp);subst hp;intro w' hS;(try simp only [sE] at hS)) | (go_at_call 122;refine (hihx _ _ hS).mono ?_;clear hihx hS;(try clear w');rintro e w' ⟨rfl,hS⟩))
    go_roundw
    case rel=>exact ⟨q+1,by omega,by go_num,by rw [hstq.out];exact hS⟩
    case measure=>simp only [intOf];omega
   ·obtain rfl:q=fl.length:=by omega
    clear hihq hst hfe
    go_wp2_with (fail)
    refine rch_seq (rch_code ?_)
    go_wp2_with (fail)
    refine rch_here (tgt:=[.code .ret]) ?_
    refine ⟨[],rfl,List.nodup_nil,(fun d hd=>nomatch hd),.bool true,?_,rfl,?_⟩
    ·exact results_tmp (t:=4) rfl _ _ _
    ·simp only [List.take_length,List.append_assoc,List.cons_append,List.nil_append] at hS
     exact hS
set_option maxRecDepth 20000 in
set_option maxHeartbeats 4000000 in
theorem iter_ok {p:Nat} {k:Wk} {ts:List Nat} {vv rv:Value} (hC:Cel V p k ts vv rv) (hok:k.Ok) {w0:World} {kb lr bt:Nat} {c:List Nat→List Value} {rec:Loop} (i:Nat) (hi:i < k.n)
  (hbt:V.Cell bt 0 (ptr (ts.getD i 0))) (hrec:V lr=some (.loop rec)) (hps:rec.params.size=1) (hround:RoundAt w0 V kb c lr rec k.n ts) (pre:List Nat) (hS:St w0 [] V [.blk kb 4 (c pre)] w) :
  Calls Tryd.prog 121 #[.func (.yield lr) #[] #[],ptr bt] w fun e w'=>∃ v,e=.returned v∧St w0 [] V [.blk kb 4 (c (pre ++ brF k (k.n - i) i))] w':=by
 have hfr:=fun V1 (hV1:∀ j u,V j=some u→V1 j=some u) by_ bf h1 h2 w hS=>from_ok (V:=V1) (hC.mono hV1) hok (w0:=w0) (kb:=kb) (lr:=lr) (by_:=by_) (bf:=bf) (c:=c) (rec:=rec) h1 h2 (hV1 _ _ hrec) hps (fun V' h=>hround V' fun j u hj=>h j u (hV1 j u hj)) (k.n - i) i hi (Nat.le_refl _) pre w hS
 unfold ptr at *
 generalize ts.getD i 0=ti at *
 clear hround
 go_enter Tryd.func121,Tryd.ntmps121
 go_wp2_with (first | (first | ((first | ((with_reducible refine gL ?_);first | refine ql1 hS rfl rfl rfl ?_ | refine qv1 hS rfl rfl rfl ?_) | ((with_reducible refine gS ?_);refine qs1 hS rfl rfl rfl ?_));refine ⟨_,zd,?_⟩;clear hS;(try clear w');intro a' hp;(try simp only [fr] at hp);subst hp;intro w' hS;(try simp only [sE] at hS)) | ((first | ((with_reducible refine gA ?_);refine qalloc hS rfl rfl ?_) | ((with_reducible refine gB ?_);refine qbox hS rfl rfl rfl ?_;refine ⟨_,za,?_⟩));clear hS;(try clear w');intro _;intro a' hp;(try simp only [fr] at hp);subst hp;intro w' hS)) | (go_at_call 122;obtain ⟨V1,hV1,hc1,hS1⟩:=pin hS;obtain ⟨V2,hV2,hc2,hS2⟩:=pin hS1;refine (hfr V2 (fun j u h=>hV2 _ _ (hV1 _ _ h)) _ _ (hc2 0 _ rfl) ((hc1 0 _ rfl).mono hV2) _ hS2).mono ?_;clear hS hS1 hS2;(try clear w');rintro e w' ⟨rfl,hS⟩))
 ((try simp only [Exit.inBlock,Exit.then]);(try refine bodyPost_norm ?_);refine ret_by ⟨_,by exact results0  (by kernel_rfl),?_⟩ rfl)
 exact ⟨_,rfl,hS.weaken fun j u h=>hV2 _ _ (hV1 _ _ h)⟩
end Go.Proofs.YtjjmefieegcddaaDoor
namespace Go.Proofs.YtjjmefieegcddaaDoor
open Go.RowKit Go.Wg Go.Mm Go.Wk
open Go Go.Sr Go.Ph Go.Tm Go.Conc
variable {w:World} {V:View}
noncomputable def B34:Code:=match Tryd.f34.body with | some c=>c | none=>.skip
noncomputable def K6:Code:=match B34 with | .seq _ (.seq _ (.seq _ (.seq _ (.seq _ r))))=>r | _=>.skip
noncomputable def KL:Code:=match K6 with | .seq (.seq _ (.block _ (.loop l))) _=>l | _=>.skip
noncomputable def KT:Code:=match K6 with | .seq _ r=>r | _=>.skip
noncomputable def KSc:Code:=match KL with | .seq _ (.seq _ (.seq (.block _ (.seq _ (.scope c))) _))=>c | _=>.skip
noncomputable def KR18:Code:=match KL with | .seq _ (.seq _ (.seq _ c))=>c | _=>.skip
noncomputable def KA:Code:=match KSc with | .seq _ (.seq _ (.block _ (.rangeFunc _ _ a _)))=>a | _=>.skip
noncomputable def KB:Code:=match KSc with | .seq _ (.seq _ (.block _ (.rangeFunc _ _ _ b)))=>b | _=>.skip
noncomputable def KIL:Code:=match KB with | .block _ (.seq _ (.seq (.seq _ (.block _ (.loop l))) _))=>l | _=>.skip
noncomputable def KR17:Code:=match KB with | .block _ (.seq _ (.seq _ c))=>c | _=>.skip
set_option maxRecDepth 20000 in
set_option maxHeartbeats 4000000 in
theorem knot_inner {lr lb b7 kb tx x:Nat} {k:Wk} {l pre:List Nat} {ts fl:List Nat} {w0:World} {fa:Option Addr} {fcap:Nat} {p:Nat} {vv rv:Value} (hC:Cel V p k ts vv rv) (hl6:l.length=6) (hlb:V.Range lb 0 (limC l)) (hb7:V.Cell b7 0 (.slice (some ⟨kb,0,none⟩) k.n k.n))
  (hx:x < k.n) (hn6:k.n≤6) (hnum:V.Cell tx 4 (.int .i64 (x:Int))) (hfl:k.fills x=fl) (hfl2:fl.length≤6) (hx0:l.getD x 0=0)
  (hfe:0 < fl.length→∃ g off,fa=some ⟨g,off,none⟩∧∀ i,i < fl.length→V.Range g (off+i * 1) [ptr (ts.getD (fl.getD i 0) 0)]) :
  ∀ (m q:Nat),q+m=fl.length→(∀ j,j < q→l.getD (fl.getD j 0) 0≠0)→∀ (w:World) (f:Nat→Value),St w0 [] V [.blk kb 4 (knC k l pre)] w →
   RchR Tryd.prog (some lr) [] (fun _ w'=>St w0 [] V [.blk kb 4 (knC k l (pre ++ [x]))] w') [.code KIL,.inLoop KIL,.inBlock 4,.code KR17,.inBlock 3]
    ⟨#[f 0,f 1,f 2,f 3,f 4,f 5,.pointer (some ⟨lb,0,none⟩),.pointer (some ⟨b7,0,none⟩),f 8,f 9,.pointer (some ⟨tx,0,none⟩),f 11,f 12,f 13,f 14,f 15,f 16,f 17,f 18,f 19,f 20,f 21,f 22,f 23,f 24,f 25,f 26,f 27,f 28,f 29,f 30,f 31,f 32,f 33,f 34,f 35,f 36,f 37,f 38,f 39,f 40,f 41,f 42,f 43,f 44,f 45,f 46,f 47,f 48,f 49,f 50,f 51,f 52,f 53,.slice fa fl.length fcap,.int .i64 fl.length,.int .i64 q,f 57,f 58,f 59,f 60,f 61,f 62,f 63,f 64,f 65,f 66,f 67,f 68,f 69,f 70,f 71,f 72,f 73,f 74,f 75,f 76,f 77,f 78,f 79,f 80,f 81,f 82,f 83,f 84,f 85,f 86,f 87,f 88],[]⟩ w:=by
 intro m
 induction m with
 | zero =>
  intro q hq hall w f hS
  obtain rfl:q=fl.length:=by omega
  have hkn:knotB k l x=true:=by
   unfold knotB
   rw [hx0,hfl]
   simp only [beq_self_eq_true,Bool.true_and,List.all_eq_true]
   intro y hy
   obtain ⟨j,hj,rfl⟩:=List.getElem_of_mem hy
   have e:fl.getD j 0=fl[j]:=by simp [List.getD_eq_getElem?_getD,hj]
   have:=hall j hj
   rw [e] at this
   simpa using this
  have HS:=knC_hit k l pre hx hkn
  have HN:=knC_len k l pre
  have h0:(0:Int)≤x:=by omega
  have h1:(x:Int) < k.n:=by omega
  replace HS:=mkHid HS
  clear hall hkn hfe
  refine rr_seq (rr_list rfl ?_)
  go_wp2_with (fail)
  refine rr_seq (rr_cond (t:=false) rfl (rr_exit rfl ?_))
  (refine rr_draw (S0:=(St w0 [] V [])) [false,false,false,false,false,false,false] rfl (by kernel_rfl) rfl ?_;replace hS:=St.drew1 hS;(iterate 6 ((first | refine hxc 0 rfl ?_ | refine hxm 1 rfl ?_ | refine hxp 2 rfl ?_ | refine hxp 3 rfl ?_ | refine hxc 4 rfl ?_ | refine hxp 5 rfl ?_);intro a' l' hp hl;(try simp only [fr] at hp);(try simp only [sB] at hl);subst hp;subst hl));(((refine he_s1 6 (by kernel_rfl) rfl hS rfl  rfl rfl ?_;refine ⟨_,zd,?_⟩));clear hS;(try clear w');intro a' l' hp hl;(try simp only [fr] at hp);(try simp only [sB] at hl);subst hp;subst hl;intro w' hS;(try simp only [sE] at hS);refine ⟨(St.subI hS),?_⟩);refine wpAnyH_done (by kernel_rfl) ?_ _)
  refine ⟨rfl,?_⟩
  refine rr_inBlock (rr_here (tgt:=[]) ?_)
  rw [← HS.out]
  exact hS
 | succ m ih =>
  intro q hq hall w f hS
  have hql:q < fl.length:=by omega
  have hq1:(q:Int) < fl.length:=by omega
  have hq0:(0:Int)≤q:=by omega
  obtain ⟨fg,fo,rfl,hfr⟩:=hfe (by omega)
  have hpx:=hfr q hql 0 _ rfl
  simp only [Nat.mul_one,Nat.add_zero] at hpx
  have hym:fl.getD q 0∈k.fills x:=by
   rw [hfl,List.getD_eq_getElem?_getD,List.getElem?_eq_getElem hql]
   exact List.getElem_mem _
  have hyn:fl.getD q 0 < k.n:=List.mem_range.1 (List.mem_filter.1 hym).1
  have hlast:∀ j,j < q+1→l.getD (fl.getD q 0) 0≠0→l.getD (fl.getD j 0) 0≠0:=fun j hj h=>by
   rcases Nat.lt_succ_iff_lt_or_eq.1 hj with h1 | rfl
   ·exact hall j h1
   ·exact h
  have hihq:=fun (h:l.getD (fl.getD q 0) 0≠0)=>ih (q+1) (by omega) (fun j hj=>hlast j hj h)
  have hmiss:l.getD (fl.getD q 0) 0=0→knotB k l x=false:=fun h=>by
   unfold knotB
   rw [Bool.and_eq_false_iff]
   refine .inr ?_
   rw [List.all_eq_false]
   exact ⟨_,hym,by rw [h];decide⟩
  have hty:=hC.tun _ hyn 4 _ rfl
  simp only [Nat.zero_add] at hty
  generalize hgy:fl.getD q 0=y at hpx hyn hihq hmiss hty
  generalize ts.getD y 0=ty at hpx hty
  have hy6:(y:Int) < 6:=by omega
  have hy0:(0:Int)≤y:=by omega
  have hly:=hlb y (.int .u64 (l.getD y 0:Nat)) (limC_get (l:=l) (i:=y) (by omega))
  rw [Nat.zero_add] at hly
  clear hfr hall hlast ih hfe
  unfold ptr at hpx
  refine rr_seq (rr_list rfl ?_)
  go_wp2_with (fail)
  refine rr_seq (rr_cond (t:=true) rfl (rr_skip ?_))
  refine rr_seq (rr_block (rr_seq (rr_list rfl ?_)))
  go_wp2_with (((with_reducible refine gL ?_);refine qv1 hS rfl rfl rfl ?_);refine ⟨_,zd,?_⟩;clear hS;(try clear w');intro a' hp;(try simp only [fr] at hp);subst hp;intro w' hS;(try simp only [sE] at hS))
  refine rr_seq (rr_list rfl ?_)
  by_cases hz:l.getD y 0=0
  ·rw [hz] at hly
   have HM:=knC_miss k l pre (hmiss hz)
   clear hihq hmiss
   go_wp2_with (((with_reducible refine gL ?_);refine qv1 hS rfl rfl rfl ?_);refine ⟨_,zd,?_⟩;clear hS;(try clear w');intro a' hp;(try simp only [fr] at hp);subst hp;intro w' hS;(try simp only [sE] at hS))
   refine rr_cond (t:=true) rfl (rr_exit rfl (rr_here (tgt:=[]) ?_))
   rw [← HM]
   exact hS
  ·have hih:=hihq hz
   have hzb:(((l.getD y 0:Nat):Int) == 0)=false:=by rw [beq_eq_false_iff_ne];omega
   clear hihq hmiss
   generalize l.getD y 0=ly at hly hz hzb
   go_wp2_with (((with_reducible refine gL ?_);refine qv1 hS rfl rfl rfl ?_);refine ⟨_,zd,?_⟩;clear hS;(try clear w');intro a' hp;(try simp only [fr] at hp);subst hp;intro w' hS;(try simp only [sE] at hS))
   refine rr_cond (t:=false) rfl (rr_skip (rr_inBlock ?_))
   refine rr_list rfl ?_
   go_wp2_with (fail)
   refine rr_inLoop ?_
   have key:∀ (a:Act) (u:World),St w0 [] V [.blk kb 4 (knC k l pre)] u→a=⟨#[a.tmps.getD 0 undef,a.tmps.getD 1 undef,a.tmps.getD 2 undef,a.tmps.getD 3 undef,a.tmps.getD 4 undef,a.tmps.getD 5 undef,.pointer (some ⟨lb,0,none⟩),.pointer (some ⟨b7,0,none⟩),a.tmps.getD 8 undef,a.tmps.getD 9 undef,.pointer (some ⟨tx,0,none⟩),a.tmps.getD 11 undef,a.tmps.getD 12 undef,a.tmps.getD 13 undef,a.tmps.getD 14 undef,a.tmps.getD 15 undef,a.tmps.getD 16 undef,a.tmps.getD 17 undef,a.tmps.getD 18 undef,a.tmps.getD 19 undef,a.tmps.getD 20 undef,a.tmps.getD 21 undef,a.tmps.getD 22 undef,a.tmps.getD 23 undef,a.tmps.getD 24 undef,a.tmps.getD 25 undef,a.tmps.getD 26 undef,a.tmps.getD 27 undef,a.tmps.getD 28 undef,a.tmps.getD 29 undef,a.tmps.getD 30 undef,a.tmps.getD 31 undef,a.tmps.getD 32 undef,a.tmps.getD 33 undef,a.tmps.getD 34 undef,a.tmps.getD 35 undef,a.tmps.getD 36 undef,a.tmps.getD 37 undef,a.tmps.getD 38 undef,a.tmps.getD 39 undef,a.tmps.getD 40 undef,a.tmps.getD 41 undef,a.tmps.getD 42 undef,a.tmps.getD 43 undef,a.tmps.getD 44 undef,a.tmps.getD 45 undef,a.tmps.getD 46 undef,a.tmps.getD 47 undef,a.tmps.getD 48 undef,a.tmps.getD 49 undef,a.tmps.getD 50 undef,a.tmps.getD 51 undef,a.tmps.getD 52 undef,a.tmps.getD 53 undef,.slice (some ⟨fg,fo,none⟩) fl.length fcap,.int .i64 fl.length,.int .i64 ((q:Int)+1),a.tmps.getD 57 undef,a.tmps.getD 58 undef,a.tmps.getD 59 undef,a.tmps.getD 60 undef,a.tmps.getD 61 undef,a.tmps.getD 62 undef,a.tmps.getD 63 undef,a.tmps.getD 64 undef,a.tmps.getD 65 undef,a.tmps.getD 66 undef,a.tmps.getD 67 undef,a.tmps.getD 68 undef,a.tmps.getD 69 undef,a.tmps.getD 70 undef,a.tmps.getD 71 undef,a.tmps.getD 72 undef,a.tmps.getD 73 undef,a.tmps.getD 74 undef,a.tmps.getD 75 undef,a.tmps.getD 76 undef,a.tmps.getD 77 undef,a.tmps.getD 78 undef,a.tmps.getD 79 undef,a.tmps.getD 80 undef,a.tmps.getD 81 undef,a.tmps.getD 82 undef,a.tmps.getD 83 undef,a.tmps.getD 84 undef,a.tmps.getD 85 undef,a.tmps.getD 86 undef,a.tmps.getD 87 undef,a.tmps.getD 88 undef],[]⟩→RchR Tryd.prog (some lr) [] (fun _ w'=>St w0 [] V [.blk kb 4 (knC k l (pre ++ [x]))] w') [.code KIL,.inLoop KIL,.inBlock 4,.code KR17,.inBlock 3] a u:=fun a u hS ha=>by
    have h1:=hih _ (fun j=>a.tmps.getD j undef) hS
    rw [ha]
    exact h1
   exact key _ _ hS rfl
end Go.Proofs.YtjjmefieegcddaaDoor
namespace Go.Proofs.YtjjmefieegcddaaDoor
open Go.RowKit Go.Wg Go.Mm Go.Wk
open Go Go.Sr Go.Ph Go.Tm Go.Conc
variable {w:World} {V:View}
def tmK (v6 v7:Value) (f:Nat→Value):Array Value:=#[f 0,f 1,f 2,f 3,f 4,f 5,v6,v7,f 8,f 9,f 10,f 11,f 12,f 13,f 14,f 15,f 16,f 17,f 18,f 19,f 20,f 21,f 22,f 23,f 24,f 25,f 26,f 27,f 28,f 29,f 30,f 31,f 32,f 33,f 34,f 35,f 36,f 37,f 38,f 39,f 40,f 41,f 42,f 43,f 44,f 45,f 46,f 47,f 48,f 49,f 50,f 51,f 52,f 53,f 54,f 55,f 56,f 57,f 58,f 59,f 60,f 61,f 62,f 63,f 64,f 65,f 66,f 67,f 68,f 69,f 70,f 71,f 72,f 73,f 74,f 75,f 76,f 77,f 78,f 79,f 80,f 81,f 82,f 83,f 84,f 85,f 86,f 87,f 88]
theorem fold1 (p:Tmp) (v:Value) (T:Array Value):((#[p]:Array Tmp).zip #[v]).foldl (fun (t:Array Value) (q:Tmp × Value)=>t.setIfInBounds q.1 q.2) T=T.setIfInBounds p v:=by
 first | rfl | simp
set_option maxRecDepth 20000 in
set_option maxHeartbeats 4000000 in
theorem knot_round {fn lr lb b7 kb D p:Nat} {k:Wk} {l ts:List Nat} {w0:World} {vv rv:Value} (f:Nat→Value) (hC:Cel V p k ts vv rv) (hl6:l.length=6) (hlb:V.Range lb 0 (limC l)) (hb7:V.Cell b7 0 (.slice (some ⟨kb,0,none⟩) k.n k.n))
  (hlr:w0.heap.size≤lr) (hrec:V lr=some (.loop (recOf fn (tmK (ptr lb) (ptr b7) f) #[43] KA KB D .ready none))) :
  RoundAt w0 V kb (knC k l) lr (recOf fn (tmK (ptr lb) (ptr b7) f) #[43] KA KB D .ready none) k.n ts:=by
 intro V' hV' pre x w hx hS
 have hrec':=hV' _ _ hrec
 have hn6:=hC.le
 have hC1:=(hC.mono hV').mono (V':=V') fun _ _ h=>h
 have hsw:=fun {w:World} (h:St w0 [] V' [.blk kb 4 (knC k l pre)] w)=>st_swap h hlr hrec' (.loop (recOf fn (tmK (ptr lb) (ptr b7) f) #[43] KA KB D .busy none))
 have hV1lr:∀ j u,V j=some u→j≠lr→Vw V' lr (.loop (recOf fn (tmK (ptr lb) (ptr b7) f) #[43] KA KB D .busy none)) j=some u:=fun j u h hj=>by
  rw [Vw.other _ _ hj];exact hV' j u h
 have hcel:∀ {b i:Nat} {v:Value},V.Cell b i v→(Vw V' lr (.loop (recOf fn (tmK (ptr lb) (ptr b7) f) #[43] KA KB D .busy none))).Cell b i v:=fun {b i v} ⟨cs,t,fz,h1,h2⟩=>by
  refine ⟨cs,t,fz,hV1lr b _ h1 ?_,h2⟩
  rintro rfl
  rw [hrec] at h1
  cases h1
 have hfin:∀ {w2:World} {cc:List Value},St w0 [] (Vw V' lr (.loop (recOf fn (tmK (ptr lb) (ptr b7) f) #[43] KA KB D .busy none))) [.blk kb 4 cc] w2 →
   ∃ w3,(Instr.endRound lr none).run Tryd.prog w2=.ok (.bool true) w3∧St w0 [] V' [.blk kb 4 cc] w3:=fun {w2 cc} h =>
  ⟨_,run_endRound none (h.view lr _ (Vw.same _ _ _)),(st_swap h hlr (Vw.same _ _ _) _).weaken (Vw.back hrec')⟩
 obtain ⟨fv,hf5,hfs⟩:=hC.fil x hx
 obtain ⟨fa,fcap,rfl,hfc,hfm,hfe⟩:=hfs.is
 have hfl2:(k.fills x).length≤6:=by
  have:=fills_len k x
  omega
 have hnum:=hcel (hC.tun x hx 4 _ rfl)
 simp only [Nat.zero_add] at hnum
 have hf5':=hcel hf5
 have hlx:=hcel (hlb x (.int .u64 (l.getD x 0:Nat)) (limC_get (l:=l) (i:=x) (by omega)))
 rw [Nat.zero_add] at hlx
 have hb7':=hcel hb7
 have hcelC:Cel (Vw V' lr (.loop (recOf fn (tmK (ptr lb) (ptr b7) f) #[43] KA KB D .busy none))) p k ts vv rv:=by
  have sl:∀ {v n sz get},VSl V v n sz get→VSl (Vw V' lr (.loop (recOf fn (tmK (ptr lb) (ptr b7) f) #[43] KA KB D .busy none))) v n sz get:=fun ⟨a,cap,h1,h2,h3,h4⟩ =>
   ⟨a,cap,h1,h2,h3,fun hn=>by obtain ⟨g,off,h5,h6⟩:=h4 hn;exact ⟨g,off,h5,fun i hi j v hj=>hcel (h6 i hi j v hj)⟩⟩
  refine ⟨hcel hC.c0,hcel hC.c1,?_,sl hC.ves,sl hC.rdg,fun i hi j v hj=>hcel (hC.tun i hi j v hj),fun i hi=>?_,hC.pos,hC.le⟩
  ·obtain ⟨g,cap,h1,h2⟩:=hC.c2
   exact ⟨g,cap,hcel h1,fun i hi=>hcel (h2 i hi)⟩
  ·obtain ⟨v,h1,h2⟩:=hC.fil i hi
   exact ⟨v,hcel h1,sl h2⟩
 have hlb':(Vw V' lr (.loop (recOf fn (tmK (ptr lb) (ptr b7) f) #[43] KA KB D .busy none))).Range lb 0 (limC l):=fun j v hj=>hcel (hlb j v hj)
 have hmiss:l.getD x 0≠0→knotB k l x=false:=fun h=>by
  unfold knotB
  rw [Bool.and_eq_false_iff]
  exact .inl (by simpa using h)
 have hfe':0 < (k.fills x).length→∃ g off,fa=some ⟨g,off,none⟩∧∀ i,i < (k.fills x).length→(Vw V' lr (.loop (recOf fn (tmK (ptr lb) (ptr b7) f) #[43] KA KB D .busy none))).Range g (off+i * 1) [ptr (ts.getD ((k.fills x).getD i 0) 0)]:=fun h=>by
  obtain ⟨g,off,h1,h2⟩:=hfe h
  exact ⟨g,off,h1,fun i hi j v hj=>hcel (h2 i hi j v hj)⟩
 have hin:=fun hz=>knot_inner (V:=Vw V' lr (.loop (recOf fn (tmK (ptr lb) (ptr b7) f) #[43] KA KB D .busy none))) (lr:=lr) (w0:=w0) (pre:=pre) (fcap:=fcap) hcelC hl6 hlb' hb7' hx hn6 hnum rfl hfl2 hz hfe' (k.fills x).length 0 (Nat.zero_add _) (fun j hj=>nomatch hj)
 have hrun:(Instr.beginRound lr).run Tryd.prog w=.ok () (w.putObj lr (.loop (recOf fn (tmK (ptr lb) (ptr b7) f) #[43] KA KB D .busy none))):=run_beginRound (P:=Tryd.prog) (hS.view lr _ hrec') rfl
 have hS1:=hsw hS
 generalize Vw V' lr (.loop (recOf fn (tmK (ptr lb) (ptr b7) f) #[43] KA KB D .busy none))=VB at *
 generalize w.putObj lr (.loop (recOf fn (tmK (ptr lb) (ptr b7) f) #[43] KA KB D .busy none))=w1 at *
 clear hfe hfe' hC hC1 hf5 hlb hb7 hV1lr hcelC hlb' hb7'
 generalize ts.getD x 0=tx at *
 have hx0:(0:Int)≤x:=by omega
 have hx6:(x:Int) < 6:=by omega
 have e43:=fold1 43 (ptr tx) (tmK (ptr lb) (ptr b7) f)
 have e44:(tmK (ptr lb) (ptr b7) f).setIfInBounds 43 (ptr tx)=#[f 0,f 1,f 2,f 3,f 4,f 5,.pointer (some ⟨lb,0,none⟩),.pointer (some ⟨b7,0,none⟩),f 8,f 9,f 10,f 11,f 12,f 13,f 14,f 15,f 16,f 17,f 18,f 19,f 20,f 21,f 22,f 23,f 24,f 25,f 26,f 27,f 28,f 29,f 30,f 31,f 32,f 33,f 34,f 35,f 36,f 37,f 38,f 39,f 40,f 41,f 42,.pointer (some ⟨tx,0,none⟩),f 44,f 45,f 46,f 47,f 48,f 49,f 50,f 51,f 52,f 53,f 54,f 55,f 56,f 57,f 58,f 59,f 60,f 61,f 62,f 63,f 64,f 65,f 66,f 67,f 68,f 69,f 70,f 71,f 72,f 73,f 74,f 75,f 76,f 77,f 78,f 79,f 80,f 81,f 82,f 83,f 84,f 85,f 86,f 87,f 88]:=rfl
 rw [e44] at e43
 show RchR Tryd.prog (some lr) [] _ [.code KA,.beginRound,.code KB] ⟨((#[43]:Array Tmp).zip #[ptr tx]).foldl (fun (t:Array Value) (q:Tmp × Value)=>t.setIfInBounds q.1 q.2) (tmK (ptr lb) (ptr b7) f),[]⟩ w
 rw [e43]
 refine rr_list rfl ?_
 go_wp2_with (fail)
 refine rr_beginRound hrun ?_
 clear hS hrun hsw
 have hS:=hS1
 clear hS1
 refine RchR.mono (S:=fun _ w'=>St w0 [] VB [.blk kb 4 (knC k l (pre ++ [x]))] w') ?_ fun a w2 h=>hfin h
 refine rr_block (rr_seq (rr_seq (rr_list rfl ?_)))
 by_cases hz:l.getD x 0=0
 ·have hin':=hin hz
  rw [hz] at hlx
  clear hin hmiss
  go_wp2_with (((with_reducible refine gL ?_);refine qv1 hS rfl rfl rfl ?_);refine ⟨_,zd,?_⟩;clear hS;(try clear w');intro a' hp;(try simp only [fr] at hp);subst hp;intro w' hS;(try simp only [sE] at hS))
  refine rr_cond (t:=false) rfl (rr_skip ?_)
  refine rr_seq (rr_seq (rr_list rfl ?_))
  go_wp2_with (((with_reducible refine gL ?_);refine qv1 hS rfl rfl rfl ?_);refine ⟨_,zd,?_⟩;clear hS;(try clear w');intro a' hp;(try simp only [fr] at hp);subst hp;intro w' hS;(try simp only [sE] at hS))
  refine rr_block (rr_loop ?_)
  have key:∀ (a:Act) (u:World),St w0 [] VB [.blk kb 4 (knC k l pre)] u→a=⟨#[a.tmps.getD 0 undef,a.tmps.getD 1 undef,a.tmps.getD 2 undef,a.tmps.getD 3 undef,a.tmps.getD 4 undef,a.tmps.getD 5 undef,.pointer (some ⟨lb,0,none⟩),.pointer (some ⟨b7,0,none⟩),a.tmps.getD 8 undef,a.tmps.getD 9 undef,.pointer (some ⟨tx,0,none⟩),a.tmps.getD 11 undef,a.tmps.getD 12 undef,a.tmps.getD 13 undef,a.tmps.getD 14 undef,a.tmps.getD 15 undef,a.tmps.getD 16 undef,a.tmps.getD 17 undef,a.tmps.getD 18 undef,a.tmps.getD 19 undef,a.tmps.getD 20 undef,a.tmps.getD 21 undef,a.tmps.getD 22 undef,a.tmps.getD 23 undef,a.tmps.getD 24 undef,a.tmps.getD 25 undef,a.tmps.getD 26 undef,a.tmps.getD 27 undef,a.tmps.getD 28 undef,a.tmps.getD 29 undef,a.tmps.getD 30 undef,a.tmps.getD 31 undef,a.tmps.getD 32 undef,a.tmps.getD 33 undef,a.tmps.getD 34 undef,a.tmps.getD 35 undef,a.tmps.getD 36 undef,a.tmps.getD 37 undef,a.tmps.getD 38 undef,a.tmps.getD 39 undef,a.tmps.getD 40 undef,a.tmps.getD 41 undef,a.tmps.getD 42 undef,a.tmps.getD 43 undef,a.tmps.getD 44 undef,a.tmps.getD 45 undef,a.tmps.getD 46 undef,a.tmps.getD 47 undef,a.tmps.getD 48 undef,a.tmps.getD 49 undef,a.tmps.getD 50 undef,a.tmps.getD 51 undef,a.tmps.getD 52 undef,a.tmps.getD 53 undef,.slice fa (k.fills x).length fcap,.int .i64 (k.fills x).length,.int .i64 (0:Nat),a.tmps.getD 57 undef,a.tmps.getD 58 undef,a.tmps.getD 59 undef,a.tmps.getD 60 undef,a.tmps.getD 61 undef,a.tmps.getD 62 undef,a.tmps.getD 63 undef,a.tmps.getD 64 undef,a.tmps.getD 65 undef,a.tmps.getD 66 undef,a.tmps.getD 67 undef,a.tmps.getD 68 undef,a.tmps.getD 69 undef,a.tmps.getD 70 undef,a.tmps.getD 71 undef,a.tmps.getD 72 undef,a.tmps.getD 73 undef,a.tmps.getD 74 undef,a.tmps.getD 75 undef,a.tmps.getD 76 undef,a.tmps.getD 77 undef,a.tmps.getD 78 undef,a.tmps.getD 79 undef,a.tmps.getD 80 undef,a.tmps.getD 81 undef,a.tmps.getD 82 undef,a.tmps.getD 83 undef,a.tmps.getD 84 undef,a.tmps.getD 85 undef,a.tmps.getD 86 undef,a.tmps.getD 87 undef,a.tmps.getD 88 undef],[]⟩ →
    RchR Tryd.prog (some lr) [] (fun _ w'=>St w0 [] VB [.blk kb 4 (knC k l (pre ++ [x]))] w') [.code KIL,.inLoop KIL,.inBlock 4,.code KR17,.inBlock 3] a u:=fun a u hS ha=>by
   have h1:=hin' _ (fun j=>a.tmps.getD j undef) hS
   rw [ha]
   exact h1
  exact key _ _ hS rfl
 ·have hzb:(((l.getD x 0:Nat):Int) != 0)=true:=by
   have:((l.getD x 0:Nat):Int)≠0:=by omega
   simpa using this
  have HM:=knC_miss k l pre (hmiss hz)
  clear hin hmiss
  generalize l.getD x 0=lx at hlx hz hzb
  have hz':¬ (lx:Int)=0:=by omega
  go_wp2_with (((with_reducible refine gL ?_);refine qv1 hS rfl rfl rfl ?_);refine ⟨_,zd,?_⟩;clear hS;(try clear w');intro a' hp;(try simp only [fr] at hp);subst hp;intro w' hS;(try simp only [sE] at hS))
  refine rr_cond (t:=true) rfl (rr_exit rfl (rr_here (tgt:=[]) ?_))
  rw [← HM]
  exact hS
end Go.Proofs.YtjjmefieegcddaaDoor
namespace Go.Proofs.YtjjmefieegcddaaDoor
open Go.RowKit Go.Wg Go.Mm Go.Wk
open Go Go.Sr Go.Ph Go.Tm Go.Conc
variable {w:World} {V:View}
theorem st_put {w0:World} {X:List Nat} {L:List Ent} (h:St w0 X V L w) (o:Obj):St w0 X (Vw V w.heap.size o) L (w.alloc o):=by
 have hlt:∀ e∈L,∀ b,e.foot=some b→b < w.heap.size:=fun e he b hb=>(h.has e he).lt hb
 have hold:∀ j,j < w.heap.size→(w.alloc o).heap[j]? = w.heap[j]?:=fun j hj=>heap_alloc_old w o hj
 refine ⟨h.os,h.output,?_,fun j hj hx=>?_,fun j u hj=>?_,fun e he=>?_,h.new,fun e he b hb=>?_,h.nd⟩
 ·have:=h.size
  show w0.heap.size≤(w.heap.push o).size
  simp
  omega
 ·rw [hold j (Nat.lt_of_lt_of_le hj h.size)]
  exact h.old j hj hx
 ·by_cases e:j=w.heap.size
  ·subst e
   rw [Vw.same] at hj
   cases hj
   show (w.heap.push o)[w.heap.size]? = _
   simp
  ·rw [Vw.other _ _ e] at hj
   have:=h.view j u hj
   rw [hold j (lt_of_heap this)]
   exact this
 ·exact (h.has e he).of_heap fun g hg=>hold g (hlt e he g hg)
 ·have:=hlt e he b hb
  rw [Vw.other _ _ (by omega)]
  exact h.off e he b hb
theorem st_none {w0:World} {X:List Nat} {L:List Ent} (h:St w0 X V L w) {j:Nat} (hj:w.heap.size≤j):V j=none:=by
 cases hv:V j with
 | none=>rfl
 | some o =>
  have:=lt_of_heap (h.view j o hv)
  omega
theorem st_view {w0:World} {X:List Nat} {L:List Ent} (h:St w0 X V L w) {g:Nat} {o:Obj} (hg:w.heap[g]? = some o) (hn:∀ e∈L,e.foot≠some g):St w0 X (Vw V g o) L w∧∀ j u,V j=some u→Vw V g o j=some u:=by
 refine ⟨⟨h.os,h.output,h.size,h.old,fun j u hj=>?_,h.has,h.new,fun e he b hb=>?_,h.nd⟩,fun j u hj=>?_⟩
 ·by_cases e:j=g
  ·subst e
   rw [Vw.same] at hj
   cases hj
   exact hg
  ·rw [Vw.other _ _ e] at hj
   exact h.view j u hj
 ·rw [Vw.other _ _ (fun e'=>hn e he (by rw [← e'];exact hb))]
  exact h.off e he b hb
 ·by_cases e:j=g
  ·subst e
   rw [Vw.same]
   have:=h.view j u hj
   rw [hg] at this
   exact this
  ·rw [Vw.other _ _ e]
   exact hj
theorem st_shut {w0:World} {X:List Nat} {L:List Ent} {ds:List Nat} (h:St w0 X V L w) (hd:∀ d∈ds,w0.heap.size≤d∧V d≠none):St w0 X (fun _=>none) L (shutAll ds w):=by
 refine ⟨shutAll_os.1.trans h.os,shutAll_os.2.trans h.output,by rw [shutAll_size];exact h.size,fun j hj hx=>?_,fun j u hj=>(nomatch hj),fun e he=>?_,h.new,fun _ _ _ _=>rfl,h.nd⟩
 ·rw [shutAll_other fun hm=>by have:=(hd j hm).1;omega]
  exact h.old j hj hx
 ·exact (h.has e he).of_heap fun g hg=>shutAll_other fun hm=>(hd g hm).2 (h.off e he g hg)
theorem rch_scope {tgt k:List Item} {S:Act→World→Prop} {a:Act} {c:Code} (h:Rch Tryd.prog tgt S (.code c :: .inScope c :: k) a w):Rch Tryd.prog tgt S (.code (.scope c) :: k) a w:=fun b cs hb=>by
 obtain ⟨a',w',h1,h2⟩:=h b cs hb
 exact ⟨a',w',h1,.head step_scope h2⟩
theorem rch_inScope {tgt k:List Item} {S:Act→World→Prop} {a:Act} {c:Code} (h:Rch Tryd.prog tgt S k a w):Rch Tryd.prog tgt S (.inScope c :: k) a w:=fun b cs hb=>by
 obtain ⟨a',w',h1,h2⟩:=h b cs hb
 exact ⟨a',w',h1,.head step_inScope h2⟩
theorem run_mk82 {o:Oper} {ρ:Operand→Value} {l c:Operand} (ho:o.op=.makeSlice 82 l c) {n:Nat} (hl:ρ l=.int .i64 (n:Int)) (hc:ρ c=.int .i64 (n:Int)) (hn:n≤1000) (w:World) :
  (execOp ρ o).run Tryd.prog w=.ok (.value (.slice (some ⟨w.heap.size,0,none⟩) n n)) (w.alloc (.cells (List.replicate n (.bool false)).toArray 4)):=by
 have h:=run_make_row' (P:=Tryd.prog) 82 4 (.bool false) 1 Tryd.underlying82 (by kernel_rfl) rfl .i64 .i64 n (by omega) (by omega) w
 have e:madeCells #[.bool false] n=(List.replicate n (.bool false)).toArray:=by
  apply Array.ext'
  rw [toList_madeCells_one]
 rw [e] at h
 unfold execOp
 simp [ho,hl,hc,h,Sem.run_bind,Result.andThen]
theorem qmk82 {w0:World} {X:List Nat} {L:List Ent} {ops:Array Oper} {o:Oper} {rest:List Oper} {a:Act} {Q:Exit→Act→World→Prop} (hS:St w0 X V L w) (hgd:Region.wanted o (yielded ops a.tmps)=true) {l c:Operand} (ho:o.op=.makeSlice 82 l c)
  {n:Nat} (hl:a.eval l=.int .i64 (n:Int)) (hc:a.eval c=.int .i64 (n:Int)) (hn:n≤1000)
  (h:∀ b a',a.put o.dst (.slice (some ⟨b,0,none⟩) n n)=a'→∀ w',St w0 X V (.blk b 4 (List.replicate n (.bool false)) :: L) w'→wpList Tryd.prog ops Q rest a' w'):wpList Tryd.prog ops Q (o :: rest) a w :=
 wpl_value hgd (run_mk82 ho hl hc hn w) (h _ _ rfl _ (hS.alloc 4 (List.replicate n (.bool false))))
set_option maxHeartbeats 1000000 in
theorem rch_branch {tgt k0:List Item} {S:Act→World→Prop} {p i lb b7 kb bt:Nat} {k:Wk} {l ts ds pre:List Nat} {w0:World} {vv rv:Value} {f:Nat→Value} (hC:Cel V p k ts vv rv) (hok:k.Ok) (hi:i < k.n) (hl6:l.length=6) (hlb:V.Range lb 0 (limC l)) (hb7:V.Cell b7 0 (.slice (some ⟨kb,0,none⟩) k.n k.n))
  (hf42:f 42=.func (.func 121) #[] #[ptr bt]) (hbt:V.Cell bt 0 (ptr (ts.getD i 0))) (hS:St w0 [] V [.blk kb 4 (knC k l pre)] w)
  (hk:∀ w',St w0 [] (Vw V w.heap.size (.deferred (some []))) [.blk kb 4 (knC k l (pre ++ brF k (k.n - i) i))] w'→Rch Tryd.prog tgt S k0 ⟨tmK (ptr lb) (ptr b7) f,marks (w.heap.size :: ds)⟩ w') :
  Rch Tryd.prog tgt S (.code (.rangeFunc (.tmp 42) #[43] KA KB) :: k0) ⟨tmK (ptr lb) (ptr b7) f,marks ds⟩ w:=by
 refine rch_rangeFunc (gf:=121) (lb:=#[ptr bt]) hf42 (Go.Proofs.enters_of Tryd.func121 (by kernel_rfl) rfl) fun fn=>?_
 have hS1:=st_put (st_put hS (.deferred (some []))) (.loop (recOf fn (tmK (ptr lb) (ptr b7) f) #[43] KA KB w.heap.size .ready none))
 have hD:V w.heap.size=none:=st_none hS (Nat.le_refl _)
 have hl:(Vw V w.heap.size (.deferred (some []))) (w.alloc (.deferred (some []))).heap.size=none:=st_none (st_put hS (.deferred (some []))) (Nat.le_refl _)
 have hsub:∀ j u,V j=some u→Vw (Vw V w.heap.size (.deferred (some []))) (w.alloc (.deferred (some []))).heap.size (.loop (recOf fn (tmK (ptr lb) (ptr b7) f) #[43] KA KB w.heap.size .ready none)) j=some u:=fun j u hj=>Vw.sub hl j u (Vw.sub hD j u hj)
 have hsub2:∀ j u,(Vw V w.heap.size (.deferred (some []))) j=some u→Vw (Vw (Vw V w.heap.size (.deferred (some []))) (w.alloc (.deferred (some []))).heap.size (.loop (recOf fn (tmK (ptr lb) (ptr b7) f) #[43] KA KB w.heap.size .ready none))) (w.alloc (.deferred (some []))).heap.size (.loop (recOf fn (tmK (ptr lb) (ptr b7) f) #[43] KA KB w.heap.size .exhausted none)) j=some u:=fun j u hj=>by
  have hne:j≠(w.alloc (.deferred (some []))).heap.size:=by
   rintro rfl
   rw [hl] at hj
   cases hj
  rw [Vw.other _ _ hne,Vw.other _ _ hne]
  exact hj
 have hsz:(w.alloc (.deferred (some []))).heap.size=w.heap.size+1:=World.size_alloc _ _
 rw [hsz] at hS1 hsub hsub2
 have hlr:w0.heap.size≤w.heap.size+1:=by have:=hS.size;omega
 refine (iter_ok (hC.mono hsub) hok i hi (hbt.mono hsub) (Vw.same _ _ _) rfl (knot_round f (hC.mono hsub) hl6 (hlb.mono hsub) (hb7.mono hsub) hlr (Vw.same _ _ _)) pre hS1).mono ?_
 rintro e w3 ⟨v,rfl,hS3⟩
 refine ⟨v,rfl,hS3.view _ _ (Vw.same _ _ _),?_⟩
 exact hk _ ((st_swap hS3 hlr (Vw.same _ _ _) _).weaken hsub2)
structure KH (w0:World) (V V':View) (k:Wk) (l:List Nat) (kb m:Nat) (ds:List Nat) (w:World):Prop where
 sub:∀ j u,V j=some u→V' j=some u
 st:St w0 [] V' [.blk kb 4 (knC k l (brTo k m))] w
 nd:ds.Nodup
 ds:∀ d∈ds,w0.heap.size≤d∧V' d=some (.deferred (some []))
set_option maxRecDepth 20000 in
set_option maxHeartbeats 4000000 in
theorem knot_loop {S:Act→World→Prop} {p g cap lb b7 kb:Nat} {k:Wk} {l ts:List Nat} {w0:World} {vv rv:Value} (hC:Cel V p k ts vv rv) (hok:k.Ok) (hl6:l.length=6) (hlb:V.Range lb 0 (limC l)) (hb7:V.Cell b7 0 (.slice (some ⟨kb,0,none⟩) k.n k.n))
  (hsr:∀ m,m < k.sources.length→V.Cell g m (ptr (ts.getD (k.sources.getD m 0) 0))) (hsl:k.sources.length≤6) (hcap:k.sources.length≤cap)
  (hend:∀ V' ds w (f:Nat→Value),KH w0 V V' k l kb k.sources.length ds w→Rch Tryd.prog [.code .ret] S [.code KT] ⟨tmK (.pointer (some ⟨lb,0,none⟩)) (.pointer (some ⟨b7,0,none⟩)) f,marks ds⟩ w) :
  ∀ (c m:Nat),m+c=k.sources.length→∀ V' ds w (f:Nat→Value),KH w0 V V' k l kb m ds w→Rch Tryd.prog [.code .ret] S [.code KL,.inLoop KL,.inBlock 0,.code KT] ⟨#[f 0,f 1,f 2,f 3,f 4,f 5,.pointer (some ⟨lb,0,none⟩),.pointer (some ⟨b7,0,none⟩),f 8,f 9,f 10,f 11,f 12,f 13,f 14,f 15,f 16,f 17,f 18,f 19,f 20,f 21,f 22,f 23,f 24,f 25,f 26,f 27,f 28,f 29,f 30,f 31,f 32,f 33,f 34,.slice (some ⟨g,0,none⟩) k.sources.length cap,.int .i64 k.sources.length,.int .i64 (m:Int),f 38,f 39,f 40,f 41,f 42,f 43,f 44,f 45,f 46,f 47,f 48,f 49,f 50,f 51,f 52,f 53,f 54,f 55,f 56,f 57,f 58,f 59,f 60,f 61,f 62,f 63,f 64,f 65,f 66,f 67,f 68,f 69,f 70,f 71,f 72,f 73,f 74,f 75,f 76,f 77,f 78,f 79,f 80,f 81,f 82,f 83,f 84,f 85,f 86,f 87,f 88],marks ds⟩ w:=by
 intro c
 induction c with
 | zero =>
  intro m hm V' ds w f hK
  obtain rfl:m=k.sources.length:=by omega
  have hS:=hK.st
  have hend':=hend V' ds
  refine rch_seq (rch_code ?_)
  go_wp2_with (fail)
  refine rch_seq (rch_cond (t:=false) rfl (rch_exit rfl ?_))
  have key:∀ a:Act,a=⟨#[a.tmps.getD 0 undef,a.tmps.getD 1 undef,a.tmps.getD 2 undef,a.tmps.getD 3 undef,a.tmps.getD 4 undef,a.tmps.getD 5 undef,.pointer (some ⟨lb,0,none⟩),.pointer (some ⟨b7,0,none⟩),a.tmps.getD 8 undef,a.tmps.getD 9 undef,a.tmps.getD 10 undef,a.tmps.getD 11 undef,a.tmps.getD 12 undef,a.tmps.getD 13 undef,a.tmps.getD 14 undef,a.tmps.getD 15 undef,a.tmps.getD 16 undef,a.tmps.getD 17 undef,a.tmps.getD 18 undef,a.tmps.getD 19 undef,a.tmps.getD 20 undef,a.tmps.getD 21 undef,a.tmps.getD 22 undef,a.tmps.getD 23 undef,a.tmps.getD 24 undef,a.tmps.getD 25 undef,a.tmps.getD 26 undef,a.tmps.getD 27 undef,a.tmps.getD 28 undef,a.tmps.getD 29 undef,a.tmps.getD 30 undef,a.tmps.getD 31 undef,a.tmps.getD 32 undef,a.tmps.getD 33 undef,a.tmps.getD 34 undef,a.tmps.getD 35 undef,a.tmps.getD 36 undef,a.tmps.getD 37 undef,a.tmps.getD 38 undef,a.tmps.getD 39 undef,a.tmps.getD 40 undef,a.tmps.getD 41 undef,a.tmps.getD 42 undef,a.tmps.getD 43 undef,a.tmps.getD 44 undef,a.tmps.getD 45 undef,a.tmps.getD 46 undef,a.tmps.getD 47 undef,a.tmps.getD 48 undef,a.tmps.getD 49 undef,a.tmps.getD 50 undef,a.tmps.getD 51 undef,a.tmps.getD 52 undef,a.tmps.getD 53 undef,a.tmps.getD 54 undef,a.tmps.getD 55 undef,a.tmps.getD 56 undef,a.tmps.getD 57 undef,a.tmps.getD 58 undef,a.tmps.getD 59 undef,a.tmps.getD 60 undef,a.tmps.getD 61 undef,a.tmps.getD 62 undef,a.tmps.getD 63 undef,a.tmps.getD 64 undef,a.tmps.getD 65 undef,a.tmps.getD 66 undef,a.tmps.getD 67 undef,a.tmps.getD 68 undef,a.tmps.getD 69 undef,a.tmps.getD 70 undef,a.tmps.getD 71 undef,a.tmps.getD 72 undef,a.tmps.getD 73 undef,a.tmps.getD 74 undef,a.tmps.getD 75 undef,a.tmps.getD 76 undef,a.tmps.getD 77 undef,a.tmps.getD 78 undef,a.tmps.getD 79 undef,a.tmps.getD 80 undef,a.tmps.getD 81 undef,a.tmps.getD 82 undef,a.tmps.getD 83 undef,a.tmps.getD 84 undef,a.tmps.getD 85 undef,a.tmps.getD 86 undef,a.tmps.getD 87 undef,a.tmps.getD 88 undef],marks ds⟩→Rch Tryd.prog [.code .ret] S [.code KT] a w:=fun a ha=>by
   rw [ha]
   exact hend' w (fun j=>a.tmps.getD j undef) hK
  exact key _ rfl
 | succ c ih =>
  intro m hm V' ds w f hK
  have hml:m < k.sources.length:=by omega
  have hm1:(m:Int) < k.sources.length:=by omega
  have hm0:(0:Int)≤m:=by omega
  have hih:=ih (m+1) (by omega)
  obtain ⟨s,hs⟩:∃ s,k.sources.getD m 0=s:=⟨_,rfl⟩
  have hsm:s∈k.sources:=by
   rw [← hs,List.getD_eq_getElem?_getD,List.getElem?_eq_getElem hml]
   exact List.getElem_mem _
  have hsn:s < k.n:=List.mem_range.1 (List.mem_filter.1 hsm).1
  have hbr:=brTo_succ k hml
  have hc0:=(hsr m hml).mono hK.sub
  rw [hs] at hc0 hbr
  have hCC:=hC.mono hK.sub
  have hS:=hK.st
  refine rch_seq (rch_code ?_)
  go_wp2_with (fail)
  refine rch_seq (rch_cond (t:=true) rfl (rch_skip ?_))
  refine rch_seq (rch_block (rch_seq (rch_code ?_)))
  unfold ptr at hc0
  go_wp2_with (((with_reducible refine gL ?_);refine qv1 hS rfl rfl rfl ?_);refine ⟨_,zd,?_⟩;clear hS;(try clear w');intro a' hp;(try simp only [fr] at hp);subst hp;intro w' hS;(try simp only [sE] at hS))
  refine rch_scope (rch_seq (rch_of_rr (rr_label (rr_of_rch ?_))))
  refine rch_seq (rch_code ?_)
  go_wp2_with (go_at_call 94;refine (branch_ok _ _).mono ?_;rintro e w' ⟨bt,rfl,hkp,hlt,hbk⟩;replace hS:=hS.fresh hkp (e:=.blk bt 124 [ptr (ts.getD s 0)]) hbk (fun b hb=>by cases hb;exact hlt))
  refine rch_block ?_
  obtain ⟨V1,hV1,hc1,hS1⟩:=pin hS
  clear hS
  have hbt:=hc1 0 _ rfl
  have hsub1:∀ j u,V j=some u→V1 j=some u:=fun j u h=>hV1 j u (hK.sub j u h)
  have key:∀ a:Act,a=⟨#[a.tmps.getD 0 undef,a.tmps.getD 1 undef,a.tmps.getD 2 undef,a.tmps.getD 3 undef,a.tmps.getD 4 undef,a.tmps.getD 5 undef,.pointer (some ⟨lb,0,none⟩),.pointer (some ⟨b7,0,none⟩),a.tmps.getD 8 undef,a.tmps.getD 9 undef,a.tmps.getD 10 undef,a.tmps.getD 11 undef,a.tmps.getD 12 undef,a.tmps.getD 13 undef,a.tmps.getD 14 undef,a.tmps.getD 15 undef,a.tmps.getD 16 undef,a.tmps.getD 17 undef,a.tmps.getD 18 undef,a.tmps.getD 19 undef,a.tmps.getD 20 undef,a.tmps.getD 21 undef,a.tmps.getD 22 undef,a.tmps.getD 23 undef,a.tmps.getD 24 undef,a.tmps.getD 25 undef,a.tmps.getD 26 undef,a.tmps.getD 27 undef,a.tmps.getD 28 undef,a.tmps.getD 29 undef,a.tmps.getD 30 undef,a.tmps.getD 31 undef,a.tmps.getD 32 undef,a.tmps.getD 33 undef,a.tmps.getD 34 undef,a.tmps.getD 35 undef,a.tmps.getD 36 undef,a.tmps.getD 37 undef,a.tmps.getD 38 undef,a.tmps.getD 39 undef,a.tmps.getD 40 undef,a.tmps.getD 41 undef,a.tmps.getD 42 undef,a.tmps.getD 43 undef,a.tmps.getD 44 undef,a.tmps.getD 45 undef,a.tmps.getD 46 undef,a.tmps.getD 47 undef,a.tmps.getD 48 undef,a.tmps.getD 49 undef,a.tmps.getD 50 undef,a.tmps.getD 51 undef,a.tmps.getD 52 undef,a.tmps.getD 53 undef,a.tmps.getD 54 undef,a.tmps.getD 55 undef,a.tmps.getD 56 undef,a.tmps.getD 57 undef,a.tmps.getD 58 undef,a.tmps.getD 59 undef,a.tmps.getD 60 undef,a.tmps.getD 61 undef,a.tmps.getD 62 undef,a.tmps.getD 63 undef,a.tmps.getD 64 undef,a.tmps.getD 65 undef,a.tmps.getD 66 undef,a.tmps.getD 67 undef,a.tmps.getD 68 undef,a.tmps.getD 69 undef,a.tmps.getD 70 undef,a.tmps.getD 71 undef,a.tmps.getD 72 undef,a.tmps.getD 73 undef,a.tmps.getD 74 undef,a.tmps.getD 75 undef,a.tmps.getD 76 undef,a.tmps.getD 77 undef,a.tmps.getD 78 undef,a.tmps.getD 79 undef,a.tmps.getD 80 undef,a.tmps.getD 81 undef,a.tmps.getD 82 undef,a.tmps.getD 83 undef,a.tmps.getD 84 undef,a.tmps.getD 85 undef,a.tmps.getD 86 undef,a.tmps.getD 87 undef,a.tmps.getD 88 undef],marks ds⟩→a.tmps.getD 42 undef=.func (.func 121) #[] #[ptr bt]→(∀ a' w4,a'=⟨a.tmps,marks (w'.heap.size :: ds)⟩→St w0 [] (Vw V1 w'.heap.size (.deferred (some []))) [.blk kb 4 (knC k l (brTo k m ++ brF k (k.n - s) s))] w4→Rch Tryd.prog [.code .ret] S [.inBlock 2,.inScope KSc,.inBlock 1,.code KR18,.inLoop KL,.inBlock 0,.code KT] a' w4) →
    Rch Tryd.prog [.code .ret] S [.code (.rangeFunc (.tmp 42) #[43] KA KB),.inBlock 2,.inScope KSc,.inBlock 1,.code KR18,.inLoop KL,.inBlock 0,.code KT] a w':=fun a ha h42 hk=>by
   have h1:=rch_branch (tgt:=[.code .ret]) (S:=S) (k0:=[.inBlock 2,.inScope KSc,.inBlock 1,.code KR18,.inLoop KL,.inBlock 0,.code KT]) (f:=fun j=>a.tmps.getD j undef) (ds:=ds) (hC.mono hsub1) hok hsn hl6 (hlb.mono hsub1) (hb7.mono hsub1) h42 hbt hS1 (fun w4 h4=>?_)
   ·rw [ha]
    exact h1
   ·refine hk _ w4 ?_ h4
    have e:a.tmps=tmK (ptr lb) (ptr b7) (fun j=>a.tmps.getD j undef):=by
     have:=congrArg Act.tmps ha
     exact this
    rw [← e]
  refine key _ rfl rfl ?_
  rintro a' w4 rfl hS4
  clear key
  refine rch_inBlock (rch_inScope (rch_inBlock (rch_code ?_)))
  have hS:=hS4
  conv=>enter [2];whnf
  go_wp2_with (fail)
  refine rch_inLoop ?_
  have hK':KH w0 V (Vw V1 w'.heap.size (.deferred (some []))) k l kb (m+1) (w'.heap.size :: ds) w4:=by
   have hD:V1 w'.heap.size=none:=st_none hS1 (Nat.le_refl _)
   have hsub:∀ j u,V1 j=some u→Vw V1 w'.heap.size (.deferred (some [])) j=some u:=Vw.sub hD
   refine ⟨fun j u h=>hsub j u (hsub1 j u h),by rw [hbr];exact hS4,List.nodup_cons.2 ⟨fun hm=>?_,hK.nd⟩,fun d hd=>?_⟩
   ·have:=(hK.ds _ hm).2
    have h2:=hV1 _ _ this
    rw [hD] at h2
    cases h2
   ·rcases List.mem_cons.1 hd with rfl | hd
    ·exact ⟨hS1.size,Vw.same _ _ _⟩
    ·exact ⟨(hK.ds d hd).1,hsub _ _ (hV1 _ _ (hK.ds d hd).2)⟩
  have key:∀ a:Act,a=⟨#[a.tmps.getD 0 undef,a.tmps.getD 1 undef,a.tmps.getD 2 undef,a.tmps.getD 3 undef,a.tmps.getD 4 undef,a.tmps.getD 5 undef,.pointer (some ⟨lb,0,none⟩),.pointer (some ⟨b7,0,none⟩),a.tmps.getD 8 undef,a.tmps.getD 9 undef,a.tmps.getD 10 undef,a.tmps.getD 11 undef,a.tmps.getD 12 undef,a.tmps.getD 13 undef,a.tmps.getD 14 undef,a.tmps.getD 15 undef,a.tmps.getD 16 undef,a.tmps.getD 17 undef,a.tmps.getD 18 undef,a.tmps.getD 19 undef,a.tmps.getD 20 undef,a.tmps.getD 21 undef,a.tmps.getD 22 undef,a.tmps.getD 23 undef,a.tmps.getD 24 undef,a.tmps.getD 25 undef,a.tmps.getD 26 undef,a.tmps.getD 27 undef,a.tmps.getD 28 undef,a.tmps.getD 29 undef,a.tmps.getD 30 undef,a.tmps.getD 31 undef,a.tmps.getD 32 undef,a.tmps.getD 33 undef,a.tmps.getD 34 undef,.slice (some ⟨g,0,none⟩) k.sources.length cap,.int .i64 k.sources.length,.int .i64 ((m:Int)+1),a.tmps.getD 38 undef,a.tmps.getD 39 undef,a.tmps.getD 40 undef,a.tmps.getD 41 undef,a.tmps.getD 42 undef,a.tmps.getD 43 undef,a.tmps.getD 44 undef,a.tmps.getD 45 undef,a.tmps.getD 46 undef,a.tmps.getD 47 undef,a.tmps.getD 48 undef,a.tmps.getD 49 undef,a.tmps.getD 50 undef,a.tmps.getD 51 undef,a.tmps.getD 52 undef,a.tmps.getD 53 undef,a.tmps.getD 54 undef,a.tmps.getD 55 undef,a.tmps.getD 56 undef,a.tmps.getD 57 undef,a.tmps.getD 58 undef,a.tmps.getD 59 undef,a.tmps.getD 60 undef,a.tmps.getD 61 undef,a.tmps.getD 62 undef,a.tmps.getD 63 undef,a.tmps.getD 64 undef,a.tmps.getD 65 undef,a.tmps.getD 66 undef,a.tmps.getD 67 undef,a.tmps.getD 68 undef,a.tmps.getD 69 undef,a.tmps.getD 70 undef,a.tmps.getD 71 undef,a.tmps.getD 72 undef,a.tmps.getD 73 undef,a.tmps.getD 74 undef,a.tmps.getD 75 undef,a.tmps.getD 76 undef,a.tmps.getD 77 undef,a.tmps.getD 78 undef,a.tmps.getD 79 undef,a.tmps.getD 80 undef,a.tmps.getD 81 undef,a.tmps.getD 82 undef,a.tmps.getD 83 undef,a.tmps.getD 84 undef,a.tmps.getD 85 undef,a.tmps.getD 86 undef,a.tmps.getD 87 undef,a.tmps.getD 88 undef],marks (w'.heap.size :: ds)⟩→Rch Tryd.prog [.code .ret] S [.code KL,.inLoop KL,.inBlock 0,.code KT] a w4:=fun a ha=>by
   have h1:=hih _ _ w4 (fun j=>a.tmps.getD j undef) hK'
   rw [ha]
   exact h1
  exact key _ rfl
end Go.Proofs.YtjjmefieegcddaaDoor
