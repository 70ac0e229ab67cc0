/- A part of the proof: W36, W37, W38, W39, W40, W41, T24, W42, T25, T26, W56, W57. -/
import Derived.Test.YtjjmefieegcddaaDoorG12
import Derived.Defers
import Derived.Test.YtjjmefieegcddaaDoorG10
import Derived.Test.YtjjmefieegcddaaDoorG07
import Derived.RangeFuncRecord
import Derived.RangeFuncWrites
import Derived.OrdersHeld
import Derived.TacticsIn
set_option linter.unusedVariables false
set_option linter.unusedSimpArgs false
set_option maxHeartbeats 8000000
set_option maxRecDepth 20000
namespace Go.Proofs.YtjjmefieegcddaaDoor
open Go.RowKit Go.Wg Go.Mm Go.Wk
open Go Go.Sr Go.Ph Go.Tm Go.Conc
section
variable {V:View} {wA w w1 w2:World} {p:Nat} {k:Wk} {ts:List Nat} {vv rv:Value} {s:SS} {st:Bool} {b4 b5 b6 b7 c g cap:Nat} {D:List Nat} {cur:Array Value} {D1 wr1 x:Nat→Prop} {E WW:List Nat}
theorem DL (X:yD V wA p k ts vv rv s st b4 b5 b6 b7 c g cap D cur) (I:FT wA b6 c D1 wr1 w) (hE:KG wA D E D1 wr1 w) (hW:PhW wA WW wr1 w) (hG:Wg.gN≤wA.heap.size) (hh:ay OC w)
  {tm:Array Value} {todo tgt:List Item} (hit:todo.all aep=true) (hself:∀ v∈tm,VR (iq (dK b4 b5 b7 c g D E ++ WW)) v v) {b:Frame} (hbf:b.fn=97) (hbk:b.kind=.normal) {cs:List Frame} {vs:List Value} {Q:wY}
  {S:Act→World→Prop} (hre:∀ a w τ d,S a w→S a (w.re τ d)) (hrun:∀ τ d,fA Tryd.prog tgt S todo ⟨tm,[]⟩ ((oU (dK b4 b5 b7 c g D E) w).re τ d))
  (hk:∀ R' a' a2 wl w2,S a' wl→le (iq (dK b4 b5 b7 c g D E ++ WW)) R'→AF (VR R') a'.tmps a2.tmps→a2.defers=[]→WR Tryd.prog.globals.size R' (wX (dK b4 b5 b7 c g D E)) wl w2→yY c D1 wr1 w w2 →
   (∀ b,own (wX (dK b4 b5 b7 c g D E)) R' b→wr1 b∨w.heap.size≤b)→oK Tryd.prog c D1 (fun b=>wr1 b∨own (wX (dK b4 b5 b7 c g D E)) R' b) vs (G (b.at a2 tgt) cs) w2 Q) :
  oK Tryd.prog c D1 wr1 vs (G (b.at ⟨tm,[]⟩ todo) cs) w Q:=by
 have hi:=UH hit
 have hst:uw 97 (b.at ⟨tm,[]⟩ todo) []:=⟨⟨fun x hx=>(hi x hx).2,(fun d hd=>nomatch hd),.inl hbk⟩,rfl,hbk,hbf⟩
 have hsr:FQ Tryd.prog (iq (dK b4 b5 b7 c g D E ++ WW)) (b.at ⟨tm,[]⟩ todo) (b.at ⟨tm,[]⟩ todo):=WM rfl hself (fun x hx=>(hi x hx).1) hbk fun fn hfn=>by
  rw [hbf,Tryd.func97] at hfn
  cases hfn
  exact (show Tryd.f97.results.size≤1 by decide)
 refine WB XJ lT (LM X I hE hW hG) hh hst hsr (S:=fun a t w=>t=tgt∧S a w) (fun a t w τ d h=>⟨h.1,hre _ _ _ _ h.2⟩) (fun τ d=>?_) fun R' a' a2 todo' wl w2 hs hle hAF hdf hWR hkept hfr _=>?_
 ·obtain ⟨a',w',h1,h2⟩:=hrun τ d b [floor Tryd.prog] hbk
  exact ⟨a',tgt,w',⟨rfl,h1⟩,h2⟩
 ·obtain ⟨rfl,hs⟩:=hs
  exact hk R' a' a2 wl w2 hs hle hAF hdf hWR hkept hfr
theorem Iq {R:BR} {b:Nat} {v:Value} (h:VR R (ptr b) v):∃ b',v=ptr b'∧R b b':=by
 unfold ptr at h
 cases h with
 | base h =>
  cases h with
  | base h =>
   cases h with
   | flat h=>cases h
   | ptr h =>
    rename_i a'
    obtain ⟨h1,h2,h3⟩:=h
    obtain ⟨b',o',sp'⟩:=a'
    simp only at h1 h2 h3
    subst h2
    subst h3
    exact ⟨b',rfl,h1⟩
theorem yG (X:yD V wA p k ts vv rv s st b4 b5 b6 b7 c g cap D cur) {n i:Nat} {x10 x18 x19 x20 x21 x22:Value} (h6:b6∈WW) (hx:∀ v∈[x10,x18,x19,x20,x21,x22],VR (iq (dK b4 b5 b7 c g D E ++ WW)) v v) :
  ∀ v∈iU p s st b4 b5 b6 b7 c (.slice (some ⟨g,0,none⟩) n cap) n i x10 x18 x19 x20 x21 x22,VR (iq (dK b4 b5 b7 c g D E ++ WW)) v v:=by
 have hu:VR (iq (dK b4 b5 b7 c g D E ++ WW)) undef undef:=.of_flat rfl
 have hp:VR (iq (dK b4 b5 b7 c g D E ++ WW)) (ptr p) (ptr p):=bJ (.ptr (by simp [dK,X.pD]))
 have hst:VR (iq (dK b4 b5 b7 c g D E ++ WW)) (.agg (dJ s).toArray) (.agg (dJ s).toArray):=bJ (.agg fun v hv=>uU (yL s v (by simpa using hv)))
 have hb:VR (iq (dK b4 b5 b7 c g D E ++ WW)) (.bool st) (.bool st):=.of_flat rfl
 have h4:VR (iq (dK b4 b5 b7 c g D E ++ WW)) (ptr b4) (ptr b4):=bJ (.ptr (by simp [dK]))
 have h5:VR (iq (dK b4 b5 b7 c g D E ++ WW)) (ptr b5) (ptr b5):=bJ (.ptr (by simp [dK]))
 have h6':VR (iq (dK b4 b5 b7 c g D E ++ WW)) (ptr b6) (ptr b6):=bJ (.ptr (by simp [h6]))
 have h7:VR (iq (dK b4 b5 b7 c g D E ++ WW)) (ptr b7) (ptr b7):=bJ (.ptr (by simp [dK]))
 have hsl:VR (iq (dK b4 b5 b7 c g D E ++ WW)) (.slice (some ⟨g,0,none⟩) n cap) (.slice (some ⟨g,0,none⟩) n cap):=bJ (.slice (by simp [dK]))
 have hc:VR (iq (dK b4 b5 b7 c g D E ++ WW)) (.chan (some c)) (.chan (some c)):=bJ (.chan (by simp [dK]))
 have hn:VR (iq (dK b4 b5 b7 c g D E ++ WW)) (.int .i64 n) (.int .i64 n):=.of_flat rfl
 have hi:VR (iq (dK b4 b5 b7 c g D E ++ WW)) (.int .i64 i) (.int .i64 i):=.of_flat rfl
 simp only [List.mem_cons,List.not_mem_nil,or_false,forall_eq_or_imp,forall_eq] at hx
 obtain ⟨y10,y18,y19,y20,y21,y22⟩:=hx
 intro v hv
 simp only [iU,List.mem_toArray,List.mem_cons,List.not_mem_nil,or_false] at hv
 rcases hv with rfl | rfl | rfl | rfl | rfl | rfl | rfl | rfl | rfl | rfl | rfl | rfl | rfl | rfl | rfl | rfl | rfl | rfl | rfl | rfl | rfl | rfl | rfl | rfl | rfl | rfl | rfl | rfl | rfl | rfl | rfl | rfl | rfl
 all_goals assumption
end
def wC (k:Wk) (s:SS) (st:Bool) (i:Nat):List Value:=((k.sources.take i).map fun x=>aJ (kX k s st x)).reverse
theorem MQ (k:Wk) (s:SS) (st:Bool) {i x:Nat} (h:k.sources[i]? = some x):wC k s st (i+1)=aJ (kX k s st x) :: wC k s st i:=by
 unfold wC
 rw [List.take_add_one,h]
 simp
section
variable {V:View} {wA w w1 w2:World} {p:Nat} {k:Wk} {ts:List Nat} {vv rv:Value} {s:SS} {st:Bool} {b4 b5 b6 b7 c g cap:Nat} {D:List Nat} {cur:Array Value} {D1 wr1 x:Nat→Prop} {E WW:List Nat}
theorem Yh {R:BR} {x0 x1 x2 x3 y0:Value} {f:FuncId} {v:Value} (h:VR R (.func (.func f) #[] #[x0,x1,x2,x3]) v) (h0:∀ v,VR R x0 v→v=y0) (h1:∀ v,VR R x1 v→v=x1) (h2:∀ v,VR R x2 v→v=x2) (h3:∀ v,VR R x3 v→v=x3) :
  v=.func (.func f) #[] #[y0,x1,x2,x3]:=by
 cases h with
 | base h =>
  cases h with
  | base h =>
   cases h with
   | flat h=>cases h
  | func k0 k1 k2 k3 k4 =>
   rename_i a' c'
   have e1:a'=#[]:=Array.eq_empty_of_size_eq_zero (by simpa using k1)
   have k3':c'.size=4:=by simpa using k3
   subst e1
   congr 1
   apply Array.ext
   ·simpa using k3'
   ·intro j i1 i2
    have hj:j=0∨j=1∨j=2∨j=3:=by omega
    rcases hj with rfl | rfl | rfl | rfl
    ·exact h0 _ (k4 0 _ _ rfl (Array.getElem?_eq_getElem i1))
    ·exact h1 _ (k4 1 _ _ rfl (Array.getElem?_eq_getElem i1))
    ·exact h2 _ (k4 2 _ _ rfl (Array.getElem?_eq_getElem i1))
    ·exact h3 _ (k4 3 _ _ rfl (Array.getElem?_eq_getElem i1))
theorem LK (X:yD V wA p k ts vv rv s st b4 b5 b6 b7 c g cap D cur) (I:FT wA b6 c D1 wr1 w) (hE:KG wA D E D1 wr1 w) (hW:PhW wA WW wr1 w) (hG:Wg.gN≤wA.heap.size):∀ b∈dK b4 b5 b7 c g D E,b < w.heap.size:=fun b hb=>by
 rcases (LM X I hE hW hG).obj b hb with ⟨_,_,h,_⟩ | ⟨_,h,_⟩ <;> exact lt_of_heap h
theorem ph6 (X:yD V wA p k ts vv rv s st b4 b5 b6 b7 c g cap D cur) (I:FT wA b6 c D1 wr1 w):PhW wA [b6] wr1 w:=⟨fun b hb=>by
 simp only [List.mem_singleton] at hb
 subst hb
 exact ⟨I.w6,X.ge.2.2.1,_,_,I.h6,by simp [iL]⟩⟩
theorem Jg (X:yD V wA p k ts vv rv s st b4 b5 b6 b7 c g cap D cur) (I:FT wA b6 c D1 wr1 w) (hE:KG wA D E D1 wr1 w) (hG:Wg.gN≤wA.heap.size):b6 ∉ dK b4 b5 b7 c g D E:=(LM X I hE (ph6 X I) hG).dis b6 (by simp)
theorem zZ {R':BR} {wl:World} {DD WW:List Nat} (hWR:WR Tryd.prog.globals.size R' (wX DD) wl w2) (hle:le (iq (DD ++ WW)) R') (hm:b6∈WW) (hn:b6 ∉ DD) (h6l:wl.heap[b6]? = some (.cells #[.int .i64 0,.int .i64 0] 27 (0,0))) :
  w2.heap[b6]? = some (.cells #[.int .i64 0,.int .i64 0] 27 (0,0)):=by
 obtain ⟨c6,hc6,hAF6⟩:=wP hWR (hle b6 b6 ⟨rfl,List.mem_append_right _ hm⟩) hn h6l
 rw [CX (sQ hWR hle) hAF6 (fun v hv=>by
  have:v=.int .i64 0:=by simpa using hv
  subst this
  exact .flat rfl)] at hc6
 exact hc6
theorem Dt {i x:Nat} (h:k.sources[i]? = some x):x < k.n:=List.mem_range.1 (List.mem_filter.1 (List.mem_of_getElem? h)).1
theorem Xz {o:Oper} {a:Act} {x:Operand} {t:Fn} {f c:Array Value} (ho:o.op=.go { callee:=.value x,args:=#[],argTypes:=#[] }) (hx:a.eval x=.func t f c) (w:World) :
  (execOp a.eval o).run Tryd.prog w=.ok (.spawn { target:=.fn t c,args:=f }) w:=by
 unfold execOp
 simp [ho,resolve,hx,Deferred.ofValue]
theorem aaz (X:yD V wA p k ts vv rv s st b4 b5 b6 b7 c g cap D cur) (hG:Wg.gN≤wA.heap.size) {b:Frame} (hbf:b.fn=97) (hbk:b.kind=.normal) {cs:List Frame} {Q:wY}
  (hend:∀ D1 wr1 w x10 x18 x19 x20 x21 x22 E,FT wA b6 c D1 wr1 w→KG wA D E D1 wr1 w→Sr.flat x22=true→(∀ v∈[x10,x18,x19,x20,x21,x22],VR (iq (dK b4 b5 b7 c g D E ++ [b6])) v v) →
   oK Tryd.prog c D1 wr1 (wC k s st k.sources.length) (G (b.at ⟨iU p s st b4 b5 b6 b7 c (.slice (some ⟨g,0,none⟩) k.sources.length cap) k.sources.length k.sources.length x10 x18 x19 x20 x21 x22,[]⟩ yP) cs) w Q) :
  ∀ (m i:Nat),i+m=k.sources.length→∀ D1 wr1 w x10 x18 x19 x20 x21 x22 E,FT wA b6 c D1 wr1 w→KG wA D E D1 wr1 w→Sr.flat x22=true→(∀ v∈[x10,x18,x19,x20,x21,x22],VR (iq (dK b4 b5 b7 c g D E ++ [b6])) v v) →
   oK Tryd.prog c D1 wr1 (wC k s st i) (G (b.at ⟨iU p s st b4 b5 b6 b7 c (.slice (some ⟨g,0,none⟩) k.sources.length cap) k.sources.length i x10 x18 x19 x20 x21 x22,[]⟩ yP) cs) w Q:=by
 intro m
 induction m with
 | zero =>
  intro i hi D1 wr1 w x10 x18 x19 x20 x21 x22 E I hE h22 hx
  obtain rfl:i=k.sources.length:=by omega
  exact hend D1 wr1 w x10 x18 x19 x20 x21 x22 E I hE h22 hx
 | succ m ih =>
  intro i hi D1 wr1 w x10 x18 x19 x20 x21 x22 E I hE h22 hx
  have hlt:i < k.sources.length:=by omega
  refine tV fun w1 hr1 hh1 hc1=>?_
  replace I:=I.rely X hr1
  replace hE:=hE.rely X hr1
  clear hr1 hc1 w
  obtain ⟨sx,hsx⟩:∃ sx,k.sources[i]? = some sx:=⟨_,List.getElem?_eq_getElem hlt⟩
  have hcur:=X.src i sx hsx
  obtain ⟨t,ht⟩:∃ t,ts.getD sx 0=t:=⟨_,rfl⟩
  rw [ht] at hcur
  have htD:t∈D:=by
   have:=X.curD _ (Array.mem_of_getElem? hcur)
   exact QJ this
  have hW:=ph6 X I
  have hn6:=Jg X I hE hG
  have hlts:=LK X I hE hW hG
  have sf:=yG (E:=E) (WW:=[b6]) (n:=k.sources.length) (i:=i) X (by simp) hx
  refine DL (tgt:=TA [1]) X I hE hW hG hh1 Mc sf hbf hbk
   (S:=fun a w'=>∃ b10,a=⟨iU p s st b4 b5 b6 b7 c (.slice (some ⟨g,0,none⟩) k.sources.length cap) k.sources.length i (ptr b10) (.bool true) (.pointer (some ⟨g,i,none⟩)) (ptr t) (.func (.func 123) #[] #[ptr b10,ptr b4,ptr b5,ptr b7]) x22,[]⟩ ∧
    w'.heap[b10]? = some (.cells #[ptr t] 124 (0,0))∧w1.heap.size≤b10∧w'.heap[b6]? = some (.cells #[.int .i64 0,.int .i64 0] 27 (0,0)))
   (fun _ _ _ _ h=>h) (fun τ d=>?_) ?_
  ·have hg:(lv (dK b4 b5 b7 c g D E) [b6] w1).Cell g i (ptr t):=Jb (by simp [dK]) (I.view X g _ X.vg) hcur
   refine (abo p s st b4 b5 b6 b7 c g cap k.sources.length i t x10 x18 x19 x20 x21 x22 hlt X.n6 hg _ (Ny _ [b6] w1 τ d)).mono ?_
   rintro a w' ⟨b10,rfl,hS⟩
   have hl6:(lv (dK b4 b5 b7 c g D E) [b6] w1) b6=some (.cells #[.int .i64 0,.int .i64 0] 27 (0,0)):=by
    simp only [lv,List.mem_append,List.mem_singleton,or_true,if_true]
    rw [Ap (WW:=[]) hn6]
    exact I.h6
   have hb:=(hS.new (.blk b10 124 [ptr t]) (by simp) b10 rfl).elim id (fun h=>nomatch h)
   refine ⟨b10,rfl,hS.dR,?_,hS.view _ _ hl6⟩
   have e:((oU (dK b4 b5 b7 c g D E) w1).re τ d).heap.size=w1.heap.size:=oJ _ _
   omega
  ·rintro R' a' a2 wl w2 ⟨b10,rfl,h10,l10,h6l⟩ hle hAF hdf hWR hkept hfr
   have hfx:=sQ hWR hle
   obtain ⟨v10,hv10,r10⟩:=hAF.2 10 (ptr b10) rfl
   obtain ⟨bt,rfl,rbt⟩:=Iq r10
   have nD:¬ wX (dK b4 b5 b7 c g D E) b10:=fun h=>by
    have:=hlts b10 h
    omega
   obtain ⟨c',hc',hAF1⟩:=wP hWR rbt nD h10
   have ec:c'=#[ptr t]:=CX hfx hAF1 fun v hv=>by
    have:v=ptr t:=by simpa using hv
    subst this
    exact .ptr (by simp [dK,htD])
   subst ec
   have h62:=zZ hWR hle (by simp) hn6 h6l
   have obt:own (wX (dK b4 b5 b7 c g D E)) R' bt:=⟨b10,rbt,nD⟩
   have lbt:wA.heap.size≤bt:=by
    rcases hfr bt obt with h | h
    ·rcases I.low bt h with h | h
     ·subst h
      have e:=hWR.inj b10 bt bt rbt (hle bt bt ⟨rfl,by simp⟩)
      have h1:=lt_of_heap I.h6
      omega
     ·exact h
    ·exact Nat.le_trans I.size h
   have hb:∀ v',VR R' (ptr b10) v'→v'=ptr bt:=fun v' h=>by
    obtain ⟨b',rfl,hb'⟩:=Iq h
    rw [hWR.fn _ _ _ hb' rbt]
   have hsame:∀ {b:Nat},b∈dK b4 b5 b7 c g D E→∀ v',VR R' (ptr b) v'→v'=ptr b:=fun hb v' h=>aI hfx (bJ (.ptr (List.mem_append_left _ hb))) h
   have hf:∀ v',VR R' (.func (.func 123) #[] #[ptr b10,ptr b4,ptr b5,ptr b7]) v'→v'=.func (.func 123) #[] #[ptr bt,ptr b4,ptr b5,ptr b7]:=fun v' h=>Yh h hb (hsame (by simp [dK])) (hsame (by simp [dK])) (hsame (by simp [dK]))
   have hall:GR R' (iU p s st b4 b5 b6 b7 c (.slice (some ⟨g,0,none⟩) k.sources.length cap) k.sources.length i (ptr b10) (.bool true) (.pointer (some ⟨g,i,none⟩)) (ptr t) (.func (.func 123) #[] #[ptr b10,ptr b4,ptr b5,ptr b7]) x22).toList
     (iU p s st b4 b5 b6 b7 c (.slice (some ⟨g,0,none⟩) k.sources.length cap) k.sources.length i (ptr bt) (.bool true) (.pointer (some ⟨g,i,none⟩)) (ptr t) (.func (.func 123) #[] #[ptr bt,ptr b4,ptr b5,ptr b7]) x22).toList :=
    ⟨fun v' h=>aI hfx (sf _ (by simp [iU])) h,fun v' h=>aI hfx (sf _ (by simp [iU])) h,fun v' h=>aI hfx (sf _ (by simp [iU])) h,fun v' h=>aI hfx (sf _ (by simp [iU])) h,fun v' h=>aI hfx (sf _ (by simp [iU])) h,fun v' h=>aI hfx (sf _ (by simp [iU])) h,fun v' h=>aI hfx (sf _ (by simp [iU])) h,fun v' h=>aI hfx (sf _ (by simp [iU])) h,fun v' h=>aI hfx (sf _ (by simp [iU])) h,fun v' h=>aI hfx (sf _ (by simp [iU])) h,hb,fun v' h=>aI hfx (sf _ (by simp [iU])) h,fun v' h=>aI hfx (sf _ (by simp [iU])) h,fun v' h=>aI hfx (sf _ (by simp [iU])) h,fun v' h=>aI hfx (sf _ (by simp [iU])) h,fun v' h=>aI hfx (sf _ (by simp [iU])) h,fun v' h=>aI hfx (sf _ (by simp [iU])) h,fun v' h=>aI hfx (sf _ (by simp [iU])) h,fun v' h=>aI hfx (.of_flat rfl) h,fun v' h=>aI hfx (bJ (.ptr (by simp [dK]))) h,fun v' h=>aI hfx (bJ (.ptr (by simp [dK,htD]))) h,hf,fun v' h=>aI hfx (sf _ (by simp [iU])) h,fun v' h=>aI hfx (sf _ (by simp [iU])) h,fun v' h=>aI hfx (sf _ (by simp [iU])) h,fun v' h=>aI hfx (sf _ (by simp [iU])) h,fun v' h=>aI hfx (sf _ (by simp [iU])) h,fun v' h=>aI hfx (sf _ (by simp [iU])) h,fun v' h=>aI hfx (sf _ (by simp [iU])) h,fun v' h=>aI hfx (sf _ (by simp [iU])) h,fun v' h=>aI hfx (sf _ (by simp [iU])) h,fun v' h=>aI hfx (sf _ (by simp [iU])) h,fun v' h=>aI hfx (sf _ (by simp [iU])) h,trivial⟩
   have htm:=CW hAF hall
   obtain ⟨tmps2,defers2⟩:=a2
   simp only at hdf htm
   subst hdf
   subst htm
   have I2:=I.after X hkept hfr h62
   obtain ⟨wr2,hwr2⟩:∃ wr2,(fun b=>wr1 b∨own (wX (dK b4 b5 b7 c g D E)) R' b)=wr2:=⟨_,rfl⟩
   have wbt:wr2 bt:=by rw [← hwr2];exact .inr obt
   rw [hwr2] at I2 ⊢
   clear hwr2 hkept hfr hWR hAF hle hall hf hb hsame hv10 r10 h10 h6l l10 hfx rbt nD hAF1 obt hlts hn6 hW hh1 sf hx hE
   refine tV fun w3 hr3 hh3 hc3=>?_
   have I3:=I2.rely X hr3
   have hbt:w3.heap[bt]? = some (.cells #[ptr t] 124 (0,0)):=(kY (hr3.keep bt (.inr wbt)) (by rintro rfl;have:=X.RU;omega)).trans hc'
   clear hr3 hc3
   obtain ⟨V',hV'⟩:∃ V':View,V'=fun b=>if b=bt then some (.cells #[ptr t] 124 (0,0)) else V b:=⟨_,rfl⟩
   have hVbt:V bt=none:=by
    cases hv:V bt with
    | none=>rfl
    | some o =>
     have:=(X.QE hv).2.2
     omega
   have hsub:∀ j o,V j=some o→V' j=some o:=fun j o h=>by
    subst hV'
    have:j≠bt:=by rintro rfl;rw [hVbt] at h;cases h
    simp only [this,if_false]
    exact h
   have hin:V'.In w3:=fun j o h=>by
    subst hV'
    simp only at h
    split at h
    ·rename_i e
     subst e
     cases h
     exact hbt
    ·exact I3.view X j o h
   have hwk:=SN (w:=w3) (V:=V') p k ts vv rv (X.cel.mono hsub) X.ok s X.wf X.lo X.hi st sx (Dt hsx) D (kM X.cl hsub) X.pD bt b4 b5 b7 c (by rw [ht,hV'];exact if_pos rfl) (hsub _ _ X.v4) (hsub _ _ X.v5) (hsub _ _ X.v7) I3.hc
    ⟨by omega,X.ge.1,X.ge.2.1,X.ge.2.2.2.1,X.ge.2.2.2.2.1⟩ hin hh3
   have hDc:∀ b,wX (bt :: b4 :: b5 :: b7 :: c :: D) b→b=bt∨(b < wA.heap.size∧b≠b6):=fun b hb=>by
    simp only [wX,List.mem_cons] at hb
    rcases hb with rfl | rfl | rfl | rfl | rfl | hb
    ·exact .inl rfl
    ·exact .inr ⟨(X.QE X.v4).2.2,(X.QE X.v4).1⟩
    ·exact .inr ⟨(X.QE X.v5).2.2,(X.QE X.v5).1⟩
    ·exact .inr ⟨(X.QE X.v7).2.2,(X.QE X.v7).1⟩
    ·exact .inr ⟨X.RU,Ne.symm X.WE⟩
    ·obtain ⟨cs,t',h1,_⟩:=X.cl.cells b hb
     exact .inr ⟨(X.QE h1).2.2,(X.QE h1).1⟩
   have h6bt:b6≠bt:=by have:=X.XG;omega
   refine SA rfl fun w4 hr4=>⟨_,kG Tryd.prog [{ target:=.fn (.func 123) #[ptr bt,ptr b4,ptr b5,ptr b7],args:=#[] }],_,wX (bt :: b4 :: b5 :: b7 :: c :: D),fun b=>D1 b∨b=bt,fun b=>wr2 b∧b≠bt,aJ (kX k s st sx),
    stepG_spawn (i:=1) rfl rfl (by simp [hbk]) (Xz (x:=.tmp 21) (t:=.func 123) (f:=#[]) (c:=#[ptr bt,ptr b4,ptr b5,ptr b7]) rfl rfl w4) rfl,?_,?_,?_,?_,hwk.rely (hr4.sub fun b hb=>?_),?_⟩
   ·intro e he
    unfold listed at he
    rw [show (execOp _ _).events Tryd.prog w4 #[]=#[] from rfl,seen_none] at he
    simp at he
   ·intro b hb
    rcases hDc b hb with rfl | ⟨h1,h2⟩
    ·exact .inr wbt
    ·exact .inl (I3.rd b h1 h2)
   ·rintro b ((h | rfl) | ⟨h,_⟩)
    ·exact .inl h
    ·exact .inr wbt
    ·exact .inr h
   ·rintro b ⟨h1,h2⟩
    refine ⟨h1,fun hb=>?_⟩
    rcases hDc b hb with h | ⟨h3,h4⟩
    ·exact h2 h
    ·rcases I3.low b h1 with h | h
     ·exact h4 h
     ·omega
   ·rcases hb with hb | hb
    ·rcases hDc b hb with rfl | ⟨h1,h2⟩
     ·exact .inr wbt
     ·exact .inl (I3.rd b h1 h2)
    ·exact hb.elim
   · -- behind it
    have I4:FT wA b6 c (fun b=>D1 b∨b=bt) (fun b=>wr2 b∧b≠bt) w4:=by
     have h:=I3.rely X hr4
     exact ⟨h.kept,h.size,h.os,h.out,fun b h1 h2=>.inl (h.rd b h1 h2),⟨h.w6,h6bt⟩,fun b hb=>h.low b hb.1,h.h6,h.hc⟩
    have hbt4:w4.heap[bt]? = some (.cells #[ptr t] 124 (0,0)):=(kY (hr4.keep bt (.inr wbt)) (by rintro rfl;have:=X.RU;omega)).trans hbt
    have hE4:KG wA D [bt] (fun b=>D1 b∨b=bt) (fun b=>wr2 b∧b≠bt) w4:=⟨fun b hb=>by
     simp only [List.mem_singleton] at hb
     subst hb
     exact ⟨.inr rfl,fun h=>h.2 rfl,lbt,t,htD,hbt4⟩⟩
    rw [← MQ k s st hsx]
    clear hwk hDc hin hsub hV' hVbt hbt hh3 I2 hbt4
    show oK Tryd.prog c _ _ _ (G (b.at ⟨iU p s st b4 b5 b6 b7 c (.slice (some ⟨g,0,none⟩) k.sources.length cap) k.sources.length i (ptr bt) (.bool true) (.pointer (some ⟨g,i,none⟩)) (ptr t) (.func (.func 123) #[] #[ptr bt,ptr b4,ptr b5,ptr b7]) x22,[]⟩ (TA [])) cs) w4 Q
    refine tV fun w5 hr5 hh5 hc5=>?_
    replace I4:=I4.rely X hr5
    replace hE4:=hE4.rely X hr5
    clear hr5 hc5 hr4
    have m4:b4∈dK b4 b5 b7 c g D [bt] ++ [b6]:=by simp [dK]
    have m5:b5∈dK b4 b5 b7 c g D [bt] ++ [b6]:=by simp [dK]
    have m7:b7∈dK b4 b5 b7 c g D [bt] ++ [b6]:=by simp [dK]
    have mt:bt∈dK b4 b5 b7 c g D [bt] ++ [b6]:=by simp [dK]
    have hfn:VR (iq (dK b4 b5 b7 c g D [bt] ++ [b6])) (.func (.func 123) #[] #[ptr bt,ptr b4,ptr b5,ptr b7]) (.func (.func 123) #[] #[ptr bt,ptr b4,ptr b5,ptr b7]) :=
     .base (.Ol rfl ⟨rfl,fun i v h=>⟨v,h,by simp at h⟩⟩ ⟨rfl,fun i v h=>⟨v,h,by
      have:=Array.mem_of_getElem? h
      simp only [List.mem_toArray,List.mem_cons,List.not_mem_nil,or_false] at this
      rcases this with rfl | rfl | rfl | rfl
      ·exact bJ (.ptr mt)
      ·exact bJ (.ptr m4)
      ·exact bJ (.ptr m5)
      ·exact bJ (.ptr m7)⟩⟩)
    have hx5:∀ y:Value,Sr.flat y=true→∀ v∈[ptr bt,.bool true,.pointer (some ⟨g,i,none⟩),ptr t,.func (.func 123) #[] #[ptr bt,ptr b4,ptr b5,ptr b7],y],VR (iq (dK b4 b5 b7 c g D [bt] ++ [b6])) v v:=fun y hy v hv=>by
     simp only [List.mem_cons,List.not_mem_nil,or_false] at hv
     rcases hv with rfl | rfl | rfl | rfl | rfl | rfl
     ·exact bJ (.ptr mt)
     ·exact .of_flat rfl
     ·exact bJ (.ptr (by simp [dK]))
     ·exact bJ (.ptr (by simp [dK,htD]))
     ·exact hfn
     ·exact .of_flat hy
    have hn6':=Jg X I4 hE4 hG
    refine DL (tgt:=yP) X I4 hE4 (ph6 X I4) hG hh5 (Xw []) (yG X (by simp) (hx5 x22 h22)) hbf hbk
     (S:=fun a w'=>a=⟨iU p s st b4 b5 b6 b7 c (.slice (some ⟨g,0,none⟩) k.sources.length cap) k.sources.length (i+1) (ptr bt) (.bool true) (.pointer (some ⟨g,i,none⟩)) (ptr t) (.func (.func 123) #[] #[ptr bt,ptr b4,ptr b5,ptr b7]) (.int .i64 ((i+1:Nat):Int)),[]⟩ ∧
      w'.heap[b6]? = some (.cells #[.int .i64 0,.int .i64 0] 27 (0,0))) (fun _ _ _ _ h=>h) (fun τ d=>?_) ?_
    ·refine (abm p s st b4 b5 b6 b7 c k.sources.length i _ _ _ _ _ _ x22 hlt X.n6 _ (Ny (dK b4 b5 b7 c g D [bt]) [b6] w5 τ d)).mono ?_
     rintro a w' ⟨rfl,hS⟩
     have hl6:(lv (dK b4 b5 b7 c g D [bt]) [b6] w5) b6=some (.cells #[.int .i64 0,.int .i64 0] 27 (0,0)):=by
      simp only [lv,List.mem_append,List.mem_singleton,or_true,if_true]
      rw [Ap (WW:=[]) hn6']
      exact I4.h6
     exact ⟨rfl,hS.view _ _ hl6⟩
    ·rintro R'' a' a2 wl w6 ⟨rfl,h6l⟩ hle hAF hdf hWR hkept hfr
     have hfx:=sQ hWR hle
     have htm:=CW hAF (LG (fun v hv=>yG X (by simp) (hx5 _ rfl) v (by simpa using hv)) hfx)
     obtain ⟨tmps2,defers2⟩:=a2
     simp only [Array.toArray_toList] at hdf htm
     subst hdf
     subst htm
     have h62':=zZ hWR hle (by simp) hn6' h6l
     have I5:=I4.after X hkept hfr h62'
     refine ih (i+1) (by omega) _ _ _ _ _ _ _ _ _ [bt] I5 ⟨fun e he=>?_⟩ rfl (hx5 _ rfl)
     obtain ⟨q1,q2,q3,t',q4,q5⟩:=hE4.obj e he
     refine ⟨q1,fun h=>?_,q3,t',q4,(kY (hkept.keep e (lt_of_heap q5) q1 q2) (by rintro rfl;have:=X.RU;omega)).trans q5⟩
     rcases h with h | ⟨y,hy,hny⟩
     ·exact q2 h
     ·have hm:e∈dK b4 b5 b7 c g D [bt] ++ [b6]:=by simp only [List.mem_singleton] at he;subst he;exact mt
      have:=hWR.inj y e e hy (hle e e ⟨rfl,hm⟩)
      subst this
      simp only [List.mem_singleton] at he
      subst he
      exact hny (by simp [wX,dK])
end
theorem WA {c:Nat} {D0 wr0:Nat→Prop} {vs:List Value} {w:World} {Q:wY} {b:Frame} {a:Act} {k:List Item} {cs:List Frame} {id:Nat} {ops:Array Oper} (h:∀ l∈orders ops,oK Tryd.prog c D0 wr0 vs (G (b.at a (.inRegion ops l :: k)) cs) w Q) :
  oK Tryd.prog c D0 wr0 vs (G (b.at a (.code (.region id ops true) :: k)) cs) w Q:=by
 have hm:Tryd.prog.follows .mixedOrders=true:=by kernel_rfl
 refine Uu fun w1 hr=>⟨b.at a (.inRegion ops (Region.schedule true ops (w1.tape w1.drawn (.order b.fn id))) :: k),w1.at (w1.drawn+1),#[],wr0,fun main cs'=>?_,by simp,⟨Nat.le_refl _,fun _ _ _=>rfl,rfl,rfl,rfl,fun _ h=>h⟩,⟨fun _ h=>h,fun _ h=>.inl h⟩,
  ((h _ (Je ops _)).rely hr).rely (.at _ w1 _)⟩
 simp [G,stepG,stepG.exec,Frame.at,choose,Sem.run,Question.forced,Question.cut,World.at,hm]
theorem PW {o:Oper} {a:Act} {x:Operand} {c:Nat} (ho:o.op=.recv 165 x false) (hx:a.eval x=.chan (some c)):∃ z,∀ w,(execOp a.eval o).run Tryd.prog w=.ok (.comm #[rcase c z] true (.recv false)) w:=by
 have hi:((Tryd.prog.info? 27).bind (·.zero)).isSome=true:=by kernel_rfl
 cases hq:Tryd.prog.info? 27 with
 | none=>rw [hq] at hi;cases hi
 | some i =>
  rw [hq] at hi
  cases hz:i.zero with
  | none=>simp [hz] at hi
  | some z =>
   refine ⟨z,fun w=>?_⟩
   unfold execOp
   simp [ho,hx,Go.underlying,Tryd.underlying165,Go.zeroValue,Go.typeInfo,hq,hz,rcase]
theorem F9 {o:Oper} {a:Act} {x:Operand} (ho:o.op=.recv 165 x false) (w:World):(execOp a.eval o).events Tryd.prog w #[]=#[]:=by
 unfold execOp
 simp [ho]
section
variable {V:View} {wA w w1 w2:World} {p:Nat} {k:Wk} {ts:List Nat} {vv rv:Value} {s:SS} {st:Bool} {b4 b5 b6 b7 c g cap bo:Nat} {D:List Nat} {cur:Array Value} {D1 wr1 x:Nat→Prop} {E WW:List Nat}
theorem AP {R':BR} {wl:World} {DD WW:List Nat} {b:Nat} (hWR:WR Tryd.prog.globals.size R' (wX DD) wl w2) (hle:le (iq (DD ++ WW)) R') (hm:b∈WW) (hn:b ∉ DD) {cs:Array Value} {t:TypeId} (hc:∀ v∈cs,iL v=true) (hl:wl.heap[b]? = some (.cells cs t (0,0))) :
  w2.heap[b]? = some (.cells cs t (0,0)):=by
 obtain ⟨c6,hc6,hAF6⟩:=wP hWR (hle b b ⟨rfl,List.mem_append_right _ hm⟩) hn hl
 rw [CX (sQ hWR hle) hAF6 (fun v hv=>.flat (uU (hc v hv)))] at hc6
 exact hc6
theorem KG.after (X:yD V wA p k ts vv rv s st b4 b5 b6 b7 c g cap D cur) (hE:KG wA D E D1 wr1 w) (hk:yY c D1 wr1 w w2) {R':BR} {wl:World} (hWR:WR Tryd.prog.globals.size R' (wX (dK b4 b5 b7 c g D E)) wl w2) (hle:le (iq (dK b4 b5 b7 c g D E ++ WW)) R') :
  KG wA D E D1 (fun b=>wr1 b∨own (wX (dK b4 b5 b7 c g D E)) R' b) w2:=⟨fun e he=>by
 obtain ⟨q1,q2,q3,t',q4,q5⟩:=hE.obj e he
 refine ⟨q1,fun h=>?_,q3,t',q4,(kY (hk.keep e (lt_of_heap q5) q1 q2) (by rintro rfl;have:=X.RU;omega)).trans q5⟩
 rcases h with h | ⟨y,hy,hny⟩
 ·exact q2 h
 ·have hm:e∈dK b4 b5 b7 c g D E:=by simp [dK,he]
  have:=hWR.inj y e e hy (hle e e ⟨rfl,List.mem_append_left _ hm⟩)
  subst this
  exact hny hm⟩
structure Zo (wA:World) (b6 bo:Nat) (acc:Int × Int) (wr1:Nat→Prop) (w:World):Prop where
 wr:wr1 bo
 ge:wA.heap.size≤bo
 obj:w.heap[bo]? = some (.cells #[.int .i64 acc.1,.int .i64 acc.2] 27 (0,0))
theorem Zo.rely (X:yD V wA p k ts vv rv s st b4 b5 b6 b7 c g cap D cur) {acc:Int × Int} (h:Zo wA b6 bo acc wr1 w) (hr:dn c (sK D1 wr1) w w1):Zo wA b6 bo acc wr1 w1 :=
 ⟨h.wr,h.ge,(kY (hr.keep bo (.inr h.wr)) (by rintro rfl;have:=X.RU;have:=h.ge;omega)).trans h.obj⟩
theorem aa3 (X:yD V wA p k ts vv rv s st b4 b5 b6 b7 c g cap D cur) (I:FT wA b6 c D1 wr1 w) {acc:Int × Int} (O:Zo wA b6 bo acc wr1 w) (hG:Wg.gN≤wA.heap.size):PhW wA [b6,bo] wr1 w:=⟨fun b hb=>by
 simp only [List.mem_cons,List.not_mem_nil,or_false] at hb
 rcases hb with rfl | rfl
 ·exact ⟨I.w6,X.ge.2.2.1,_,_,I.h6,by simp [iL]⟩
 ·exact ⟨O.wr,Nat.le_trans hG O.ge,_,_,O.obj,by simp [iL]⟩⟩
theorem pJ (X:yD V wA p k ts vv rv s st b4 b5 b6 b7 c g cap D cur) {n i j:Nat} {x10 x18 x19 x20 x21 x22 x26 x27 x28 x29 x30 x31:Value} (h6:b6∈WW) (ho:bo∈WW) (hx:∀ v∈[x10,x18,x19,x20,x21,x22,x26,x27,x28,x29,x30,x31],VR (iq (dK b4 b5 b7 c g D E ++ WW)) v v) :
  ∀ v∈wE p s st b4 b5 b6 b7 c bo (.slice (some ⟨g,0,none⟩) n cap) n i j x10 x18 x19 x20 x21 x22 x26 x27 x28 x29 x30 x31,VR (iq (dK b4 b5 b7 c g D E ++ WW)) v v:=by
 have hu:VR (iq (dK b4 b5 b7 c g D E ++ WW)) undef undef:=.of_flat rfl
 have hp:VR (iq (dK b4 b5 b7 c g D E ++ WW)) (ptr p) (ptr p):=bJ (.ptr (by simp [dK,X.pD]))
 have hst:VR (iq (dK b4 b5 b7 c g D E ++ WW)) (.agg (dJ s).toArray) (.agg (dJ s).toArray):=bJ (.agg fun v hv=>uU (yL s v (by simpa using hv)))
 have hb:VR (iq (dK b4 b5 b7 c g D E ++ WW)) (.bool st) (.bool st):=.of_flat rfl
 have h4:VR (iq (dK b4 b5 b7 c g D E ++ WW)) (ptr b4) (ptr b4):=bJ (.ptr (by simp [dK]))
 have h5:VR (iq (dK b4 b5 b7 c g D E ++ WW)) (ptr b5) (ptr b5):=bJ (.ptr (by simp [dK]))
 have h6':VR (iq (dK b4 b5 b7 c g D E ++ WW)) (ptr b6) (ptr b6):=bJ (.ptr (by simp [h6]))
 have ho':VR (iq (dK b4 b5 b7 c g D E ++ WW)) (ptr bo) (ptr bo):=bJ (.ptr (by simp [ho]))
 have h7:VR (iq (dK b4 b5 b7 c g D E ++ WW)) (ptr b7) (ptr b7):=bJ (.ptr (by simp [dK]))
 have hsl:VR (iq (dK b4 b5 b7 c g D E ++ WW)) (.slice (some ⟨g,0,none⟩) n cap) (.slice (some ⟨g,0,none⟩) n cap):=bJ (.slice (by simp [dK]))
 have hc:VR (iq (dK b4 b5 b7 c g D E ++ WW)) (.chan (some c)) (.chan (some c)):=bJ (.chan (by simp [dK]))
 have hn:VR (iq (dK b4 b5 b7 c g D E ++ WW)) (.int .i64 n) (.int .i64 n):=.of_flat rfl
 have hi:VR (iq (dK b4 b5 b7 c g D E ++ WW)) (.int .i64 i) (.int .i64 i):=.of_flat rfl
 have hj:VR (iq (dK b4 b5 b7 c g D E ++ WW)) (.int .i64 j) (.int .i64 j):=.of_flat rfl
 simp only [List.mem_cons,List.not_mem_nil,or_false,forall_eq_or_imp,forall_eq] at hx
 obtain ⟨y10,y18,y19,y20,y21,y22,y26,y27,y28,y29,y30,y31⟩:=hx
 intro v hv
 simp only [wE,List.mem_toArray,List.mem_cons,List.not_mem_nil,or_false] at hv
 rcases hv with rfl | rfl | rfl | rfl | rfl | rfl | rfl | rfl | rfl | rfl | rfl | rfl | rfl | rfl | rfl | rfl | rfl | rfl | rfl | rfl | rfl | rfl | rfl | rfl | rfl | rfl | rfl | rfl | rfl | rfl | rfl | rfl | rfl
 all_goals assumption
theorem JB (X:yD V wA p k ts vv rv s st b4 b5 b6 b7 c g cap D cur) (I:FT wA b6 c D1 wr1 w) (hE:KG wA D E D1 wr1 w) {acc acc':Int × Int} (O:Zo wA b6 bo acc wr1 w) (hG:Wg.gN≤wA.heap.size) (hh:ay OC w)
  {tm tm':Array Value} {todo tgt:List Item} (hit:todo.all aep=true) (hself:∀ v∈tm,VR (iq (dK b4 b5 b7 c g D E ++ [b6,bo])) v v) (hself':∀ v∈tm',VR (iq (dK b4 b5 b7 c g D E ++ [b6,bo])) v v) {b:Frame} (hbf:b.fn=97) (hbk:b.kind=.normal) {cs:List Frame} {vs:List Value} {Q:wY}
  (hrun:∀ (VL:View) (w0:World),VL.In w0→VL b6=none→VL bo=none→w0.heap[b6]? = some (.cells #[.int .i64 0,.int .i64 0] 27 (0,0))→w0.heap[bo]? = some (.cells #[.int .i64 acc.1,.int .i64 acc.2] 27 (0,0))→VL.Cell b7 0 (.chan (some c)) →
   fA Tryd.prog tgt (fun a w'=>a=⟨tm',[]⟩∧w'.heap[b6]? = some (.cells #[.int .i64 0,.int .i64 0] 27 (0,0))∧w'.heap[bo]? = some (.cells #[.int .i64 acc'.1,.int .i64 acc'.2] 27 (0,0))) todo ⟨tm,[]⟩ w0)
  (hk:∀ wr2 w2,FT wA b6 c D1 wr2 w2→KG wA D E D1 wr2 w2→Zo wA b6 bo acc' wr2 w2→oK Tryd.prog c D1 wr2 vs (G (b.at ⟨tm',[]⟩ tgt) cs) w2 Q) :
  oK Tryd.prog c D1 wr1 vs (G (b.at ⟨tm,[]⟩ todo) cs) w Q:=by
 have hW:=aa3 X I O hG
 have hseg:=LM X I hE hW hG
 have n6:b6 ∉ dK b4 b5 b7 c g D E:=hseg.dis b6 (by simp)
 have no:bo ∉ dK b4 b5 b7 c g D E:=hseg.dis bo (by simp)
 refine DL (tgt:=tgt) X I hE hW hG hh hit hself hbf hbk (S:=fun a w'=>a=⟨tm',[]⟩∧w'.heap[b6]? = some (.cells #[.int .i64 0,.int .i64 0] 27 (0,0))∧w'.heap[bo]? = some (.cells #[.int .i64 acc'.1,.int .i64 acc'.2] 27 (0,0))) (fun _ _ _ _ h=>h) (fun τ d=>?_) ?_
 ·refine hrun (lv (dK b4 b5 b7 c g D E) [] w) _ (Ny _ [] w τ d) (by simp [lv,n6]) (by simp [lv,no]) ?_ ?_ (Jb (by simp [dK]) (I.view X b7 _ X.v7) rfl)
  ·show (oU (dK b4 b5 b7 c g D E) w).heap[b6]? = _
   rw [Ap (WW:=[]) n6]
   exact I.h6
  ·show (oU (dK b4 b5 b7 c g D E) w).heap[bo]? = _
   rw [Ap (WW:=[]) no]
   exact O.obj
 ·rintro R' a' a2 wl w2 ⟨rfl,h6l,hol⟩ hle hAF hdf hWR hkept hfr
  have hfx:=sQ hWR hle
  have htm:=CW hAF (LG (fun v hv=>hself' v (by simpa using hv)) hfx)
  obtain ⟨tmps2,defers2⟩:=a2
  simp only [Array.toArray_toList] at hdf htm
  subst hdf
  subst htm
  refine hk _ _ (I.after X hkept hfr (AP hWR hle (by simp) n6 (by simp [iL]) h6l)) (hE.after X hkept hWR hle) ⟨.inl O.wr,O.ge,AP hWR hle (by simp) no (by simp [iL]) hol⟩
end
def Ai:Value→Int × Int
 | .agg ⟨[.int _ a,.int _ b]⟩=>(a,b)
 | _=>(0,0)
theorem Bf (x:Int × Int):Ai (aJ x)=x:=rfl
theorem Sv {l:List (Int × Int)} {v:Value} {rest:List Value} (h:(l.map aJ).Perm (v :: rest)):∃ x l',v=aJ x∧rest=l'.map aJ∧l.Perm (x :: l'):=by
 have hm:∀ u∈v :: rest,aJ (Ai u)=u:=fun u hu=>by
  obtain ⟨x,_,rfl⟩:=List.mem_map.1 (h.mem_iff.2 hu)
  rw [Bf]
 refine ⟨Ai v,rest.map Ai,(hm v (by simp)).symm,?_,?_⟩
 ·rw [List.map_map]
  conv=>lhs;rw [← List.map_id rest]
  exact List.map_congr_left fun u hu=>(hm u (by simp [hu])).symm
 ·have:=h.map Ai
  rw [List.map_map] at this
  have e:l.map (Ai ∘ aJ)=l:=by
   conv=>rhs;rw [← List.map_id l]
   exact List.map_congr_left fun u _=>Bf u
  rw [e] at this
  exact this
section
variable {V:View} {wA w w1 w2:World} {p:Nat} {k:Wk} {ts:List Nat} {vv rv:Value} {s:SS} {st:Bool} {b4 b5 b6 b7 c g cap bo:Nat} {D:List Nat} {cur:Array Value} {D1 wr1 x:Nat→Prop} {E WW:List Nat}
structure XB (V:View) (wA:World) (k:Wk) (s:SS) (st:Bool) (b4 b5 b6 b7 c g:Nat) (D E:List Nat) (bo j:Nat) (D1 wr1:Nat→Prop) (l:List (Int × Int)) (acc:Int × Int) (w:World):Prop where
 I:FT wA b6 c D1 wr1 w
 e:KG wA D E D1 wr1 w
 o:Zo wA b6 bo acc wr1 w
 len:j+l.length=k.sources.length
 sum:dX acc (CJ l)=dW k s st
 bl:∀ x∈l,Pb 11764900 x
 ba:Pb (11764900 * j) acc
theorem XB.rely (X:yD V wA p k ts vv rv s st b4 b5 b6 b7 c g cap D cur) {j:Nat} {l:List (Int × Int)} {acc:Int × Int} (h:XB V wA k s st b4 b5 b6 b7 c g D E bo j D1 wr1 l acc w) (hr:dn c (sK D1 wr1) w w1):XB V wA k s st b4 b5 b6 b7 c g D E bo j D1 wr1 l acc w1 :=
 ⟨h.I.rely X hr,h.e.rely X hr,h.o.rely X hr,h.len,h.sum,h.bl,h.ba⟩
theorem Oq (X:yD V wA p k ts vv rv s st b4 b5 b6 b7 c g cap D cur) (hG:Wg.gN≤wA.heap.size) {b:Frame} (hbf:b.fn=97) (hbk:b.kind=.normal) {cs:List Frame} {Q:wY} {j:Nat} {l:List (Int × Int)} {acc:Int × Int} (hL:XB V wA k s st b4 b5 b6 b7 c g D E bo j D1 wr1 l acc w) (hj:j < k.sources.length)
  {x10 x18 x19 x20 x21 x22 x26 x27 x29 x30 x31:Value} (hx:∀ v∈[x10,x18,x19,x20,x21,x22,x26,x27,.chan (some c),x29,x30,x31],VR (iq (dK b4 b5 b7 c g D E ++ [b6,bo])) v v) {r:List Nat} (hr5:(r=[3,4]∧x27=aJ acc)∨r=[0,3,4])
  (hk:∀ wr2 w2 x l',XB V wA k s st b4 b5 b6 b7 c g D E bo (j+1) D1 wr2 l' (dX acc x) w2→oK Tryd.prog c D1 wr2 (l'.map aJ) (G (b.at ⟨wE p s st b4 b5 b6 b7 c bo (.slice (some ⟨g,0,none⟩) k.sources.length cap) k.sources.length k.sources.length (j+1) x10 x18 x19 x20 x21 x22 x26 (aJ acc) (.chan (some c)) (aJ x) (aJ (dX acc x)) (.int .i64 ((j+1:Nat):Int)),[]⟩ head2) cs) w2 Q) :
  oK Tryd.prog c D1 wr1 (l.map aJ) (G (b.at ⟨wE p s st b4 b5 b6 b7 c bo (.slice (some ⟨g,0,none⟩) k.sources.length cap) k.sources.length k.sources.length j x10 x18 x19 x20 x21 x22 x26 x27 (.chan (some c)) x29 x30 x31,[]⟩ (Au (2 :: r))) cs) w Q:=by
 have hn6:=X.n6
 have hlen:=hL.len
 obtain ⟨z,hz⟩:=PW (o:=KC[2]!) (a:=⟨wE p s st b4 b5 b6 b7 c bo (.slice (some ⟨g,0,none⟩) k.sources.length cap) k.sources.length k.sources.length j x10 x18 x19 x20 x21 x22 x26 x27 (.chan (some c)) x29 x30 x31,[]⟩) (x:=.tmp 28) (c:=c) rfl rfl
 refine Xb rfl (fun h=>?_) fun w1 hr1=>⟨_,z,_,stepG_comm (i:=2) (o:=KC[2]!) rfl rfl (by simp [hbk]) (hz w1),?_,fun v rest hperm w2 hr2=>?_⟩
 ·have:l.length=0:=by simpa using congrArg List.length h
  omega
 ·intro e he
  unfold listed at he
  rw [F9 (x:=.tmp 28) rfl,seen_none] at he
  simp at he
 ·obtain ⟨x,l',rfl,rfl,hpl⟩:=Sv hperm
  have hL2:=(hL.rely X hr1).rely X hr2
  have hll:l.length=l'.length+1:=by simpa using hpl.length_eq
  have hbx:Pb 11764900 x:=hL.bl x (hpl.mem_iff.2 (by simp))
  show oK Tryd.prog c D1 wr1 _ (G (b.at ⟨wE p s st b4 b5 b6 b7 c bo (.slice (some ⟨g,0,none⟩) k.sources.length cap) k.sources.length k.sources.length j x10 x18 x19 x20 x21 x22 x26 x27 (.chan (some c)) (aJ x) x30 x31,[]⟩ (Au r)) cs) w2 Q
  refine tV fun w3 hr3 hh3 _=>?_
  have hL3:=hL2.rely X hr3
  have hsp:∀ q:Int × Int,VR (iq (dK b4 b5 b7 c g D E ++ [b6,bo])) (aJ q) (aJ q):=fun q=>bJ (.agg fun v hv=>by
   have:v=.int .i64 q.1∨v=.int .i64 q.2:=by simpa using hv
   rcases this with rfl | rfl <;> rfl)
  have hx1:∀ v∈[x10,x18,x19,x20,x21,x22,x26,x27,.chan (some c),aJ x,x30,x31],VR (iq (dK b4 b5 b7 c g D E ++ [b6,bo])) v v:=fun v hv=>by
   simp only [List.mem_cons,List.not_mem_nil,or_false] at hv
   rcases hv with rfl | rfl | rfl | rfl | rfl | rfl | rfl | rfl | rfl | rfl | rfl | rfl
   all_goals first | exact hsp _ | exact hx _ (by simp)
  have hx2:∀ v∈[x10,x18,x19,x20,x21,x22,x26,aJ acc,.chan (some c),aJ x,aJ (dX acc x),.int .i64 ((j+1:Nat):Int)],VR (iq (dK b4 b5 b7 c g D E ++ [b6,bo])) v v:=fun v hv=>by
   simp only [List.mem_cons,List.not_mem_nil,or_false] at hv
   rcases hv with rfl | rfl | rfl | rfl | rfl | rfl | rfl | rfl | rfl | rfl | rfl | rfl
   all_goals first | exact .of_flat rfl | exact hsp _ | exact hx _ (by simp)
  have hba:Pb 100000000000 acc:=hL3.ba.mono (by omega)
  refine JB (acc':=dX acc x) (tgt:=head2) X hL3.I hL3.e hL3.o hG hh3 (QW r) (pJ (bo:=bo) X (by simp) (by simp) hx1) (pJ (n:=k.sources.length) (i:=k.sources.length) (bo:=bo) (j:=j+1) X (by simp) (by simp) hx2) hbf hbk (fun VL w0 hVL h6n hon h6 ho h7=>?_) fun wr2 w4 I4 E4 O4=>?_
  ·refine (aaQ p s st b4 b5 b6 b7 c bo k.sources.length k.sources.length j acc x _ x10 x18 x19 x20 x21 x22 x26 x27 _ x30 x31 hj hn6 hba (hbx.mono (by omega)) ho hon hVL r hr5).mono ?_
   rintro a w' ⟨rfl,hS⟩
   have hb6:b6≠bo:=by
    have:=X.XG
    have:=hL3.o.ge
    omega
   exact ⟨rfl,(hS.old b6 (lt_of_heap h6) (by simp [hb6])).trans h6,hS.dR⟩
  ·refine hk wr2 w4 x l' ⟨I4,E4,O4,by omega,?_,fun y hy=>hL.bl y (hpl.mem_iff.2 (by simp [hy])),?_⟩
   ·have h1:=hL.sum
    rw [H9 hpl,kT] at h1
    rw [← h1]
    unfold dX
    simp only [Prod.mk.injEq]
    omega
   ·have:=hL3.ba.both hbx
    refine this.mono ?_
    omega
theorem aaA (X:yD V wA p k ts vv rv s st b4 b5 b6 b7 c g cap D cur) (hG:Wg.gN≤wA.heap.size) {b:Frame} (hbf:b.fn=97) (hbk:b.kind=.normal) {cs:List Frame} {Q:wY}
  (hend:∀ wr1 w x10 x18 x19 x20 x21 x22 x26 x27 x28 x29 x30 x31,XB V wA k s st b4 b5 b6 b7 c g D E bo k.sources.length D1 wr1 [] (dW k s st) w→(∀ v∈[x10,x18,x19,x20,x21,x22,x26,x27,x28,x29,x30,x31],VR (iq (dK b4 b5 b7 c g D E ++ [b6,bo])) v v) →
   oK Tryd.prog c D1 wr1 [] (G (b.at ⟨wE p s st b4 b5 b6 b7 c bo (.slice (some ⟨g,0,none⟩) k.sources.length cap) k.sources.length k.sources.length k.sources.length x10 x18 x19 x20 x21 x22 x26 x27 x28 x29 x30 x31,[]⟩ head2) cs) w Q) :
  ∀ (m j:Nat),j+m=k.sources.length→∀ wr1 w x10 x18 x19 x20 x21 x22 x26 x27 x28 x29 x30 x31 l acc,XB V wA k s st b4 b5 b6 b7 c g D E bo j D1 wr1 l acc w→(∀ v∈[x10,x18,x19,x20,x21,x22,x26,x27,x28,x29,x30,x31],VR (iq (dK b4 b5 b7 c g D E ++ [b6,bo])) v v) →
   oK Tryd.prog c D1 wr1 (l.map aJ) (G (b.at ⟨wE p s st b4 b5 b6 b7 c bo (.slice (some ⟨g,0,none⟩) k.sources.length cap) k.sources.length k.sources.length j x10 x18 x19 x20 x21 x22 x26 x27 x28 x29 x30 x31,[]⟩ head2) cs) w Q:=by
 intro m
 induction m with
 | zero =>
  intro j hj wr1 w x10 x18 x19 x20 x21 x22 x26 x27 x28 x29 x30 x31 l acc hL hx
  obtain rfl:j=k.sources.length:=by omega
  have hl:l=[]:=List.length_eq_zero_iff.1 (by have:=hL.len;omega)
  subst hl
  have e:acc=dW k s st:=by
   rw [← hL.sum]
   unfold dX CJ
   simp
  subst e
  exact hend wr1 w x10 x18 x19 x20 x21 x22 x26 x27 x28 x29 x30 x31 hL hx
 | succ m ih =>
  intro j hj wr1 w x10 x18 x19 x20 x21 x22 x26 x27 x28 x29 x30 x31 l acc hL hx
  have hlt:j < k.sources.length:=by omega
  refine tV fun w1 hr1 hh1 _=>?_
  replace hL:=hL.rely X hr1
  clear hr1 w
  simp only [List.mem_cons,List.not_mem_nil,or_false,forall_eq_or_imp,forall_eq] at hx
  obtain ⟨y10,y18,y19,y20,y21,y22,y26,y27,y28,y29,y30,y31⟩:=hx
  have yt:VR (iq (dK b4 b5 b7 c g D E ++ [b6,bo])) (.bool true) (.bool true):=.of_flat rfl
  have yc:VR (iq (dK b4 b5 b7 c g D E ++ [b6,bo])) (.chan (some c)) (.chan (some c)):=bJ (.chan (by simp [dK]))
  have ys:VR (iq (dK b4 b5 b7 c g D E ++ [b6,bo])) (aJ acc) (aJ acc):=bJ (.agg fun v hv=>by
   have:v=.int .i64 acc.1∨v=.int .i64 acc.2:=by simpa using hv
   rcases this with rfl | rfl <;> rfl)
  refine JB (acc':=acc) (tgt:=ZY) X hL.I hL.e hL.o hG hh1 Lr (pJ (bo:=bo) X (by simp) (by simp) (x26:=x26) (x27:=x27) (x28:=x28) (x29:=x29) (x30:=x30) (x31:=x31) (by simp only [List.mem_cons,List.not_mem_nil,or_false,forall_eq_or_imp,forall_eq];exact ⟨y10,y18,y19,y20,y21,y22,y26,y27,y28,y29,y30,y31⟩))
   (pJ (n:=k.sources.length) (i:=k.sources.length) (bo:=bo) (j:=j) X (by simp) (by simp) (x10:=x10) (x18:=x18) (x19:=x19) (x20:=x20) (x21:=x21) (x22:=x22) (x26:=.bool true) (x27:=x27) (x28:=x28) (x29:=x29) (x30:=x30) (x31:=x31) (by simp only [List.mem_cons,List.not_mem_nil,or_false,forall_eq_or_imp,forall_eq];exact ⟨y10,y18,y19,y20,y21,y22,yt,y27,y28,y29,y30,y31⟩)) hbf hbk (fun VL w0 hVL h6n hon h6 ho h7=>?_) fun wr2 w2 I2 E2 O2=>?_
  ·refine (abx p s st b4 b5 b6 b7 c bo k.sources.length k.sources.length j _ x10 x18 x19 x20 x21 x22 x26 x27 x28 x29 x30 x31 hlt X.n6 w0 hVL).mono ?_
   rintro a w' ⟨rfl,hS⟩
   exact ⟨rfl,(hS.bM.old b6 (lt_of_heap h6)).trans h6,(hS.bM.old bo (lt_of_heap ho)).trans ho⟩
  ·show oK Tryd.prog c D1 wr2 (l.map aJ) (G (b.at ⟨wE p s st b4 b5 b6 b7 c bo (.slice (some ⟨g,0,none⟩) k.sources.length cap) k.sources.length k.sources.length j x10 x18 x19 x20 x21 x22 (.bool true) x27 x28 x29 x30 x31,[]⟩ (.code (.region 11 KC true) :: [.inBlock 3,.code R12,.inLoop L2,.inBlock 2,.code K13])) cs) w2 Q
   refine WA fun l0 hl0=>?_
   rw [Vj] at hl0
   simp only [List.mem_cons,List.not_mem_nil,or_false] at hl0
   have hL2:XB V wA k s st b4 b5 b6 b7 c g D E bo j D1 wr2 l acc w2:=⟨I2,E2,O2,hL.len,hL.sum,hL.bl,hL.ba⟩
   refine tV fun w3 hr3 hh3 _=>?_
   have hL3:=hL2.rely X hr3
   have y5:VR (iq (dK b4 b5 b7 c g D E ++ [b6,bo])) (x5 l0 acc x27) (x5 l0 acc x27):=by
    unfold x5
    split <;> assumption
   show oK Tryd.prog c D1 wr2 (l.map aJ) (G (b.at ⟨wE p s st b4 b5 b6 b7 c bo (.slice (some ⟨g,0,none⟩) k.sources.length cap) k.sources.length k.sources.length j x10 x18 x19 x20 x21 x22 (.bool true) x27 x28 x29 x30 x31,[]⟩ (Au l0)) cs) w3 Q
   refine JB (acc':=acc) (tgt:=Au (2 :: l5 l0)) X hL3.I hL3.e hL3.o hG hh3 (QW l0) (pJ (bo:=bo) X (by simp) (by simp) (x26:=.bool true) (x27:=x27) (x28:=x28) (x29:=x29) (x30:=x30) (x31:=x31) (by simp only [List.mem_cons,List.not_mem_nil,or_false,forall_eq_or_imp,forall_eq];exact ⟨y10,y18,y19,y20,y21,y22,yt,y27,y28,y29,y30,y31⟩))
    (pJ (n:=k.sources.length) (i:=k.sources.length) (bo:=bo) (j:=j) X (by simp) (by simp) (x10:=x10) (x18:=x18) (x19:=x19) (x20:=x20) (x21:=x21) (x22:=x22) (x26:=.bool true) (x27:=x5 l0 acc x27) (x28:=.chan (some c)) (x29:=x29) (x30:=x30) (x31:=x31) (by simp only [List.mem_cons,List.not_mem_nil,or_false,forall_eq_or_imp,forall_eq];exact ⟨y10,y18,y19,y20,y21,y22,yt,y5,yc,y29,y30,y31⟩)) hbf hbk (fun VL w0 hVL h6n hon h6 ho h7=>?_) fun wr4 w4 I4 E4 O4=>?_
   ·refine (abu p s st b4 b5 b6 b7 c bo k.sources.length k.sources.length j acc _ x10 x18 x19 x20 x21 x22 _ x27 x28 x29 x30 x31 l0 hl0 h7 (lK (cs:=[.int .i64 acc.1,.int .i64 acc.2]) (n:=2) ho rfl) hVL).mono ?_
    rintro a w' ⟨rfl,rfl⟩
    exact ⟨rfl,h6,ho⟩
   ·refine Oq (r:=l5 l0) X hG hbf hbk ⟨I4,E4,O4,hL.len,hL.sum,hL.bl,hL.ba⟩ hlt (by simp only [List.mem_cons,List.not_mem_nil,or_false,forall_eq_or_imp,forall_eq];exact ⟨y10,y18,y19,y20,y21,y22,yt,y5,yc,y29,y30,y31⟩) ?_ fun wr5 w5 x l' h5=>?_
    ·rcases hl0 with rfl | rfl | rfl
     ·exact .inl ⟨rfl,rfl⟩
     ·exact .inl ⟨rfl,rfl⟩
     ·exact .inr rfl
    ·refine ih (j+1) (by omega) wr5 w5 _ _ _ _ _ _ _ _ _ _ _ _ l' _ h5 ?_
     have hsp:∀ q:Int × Int,VR (iq (dK b4 b5 b7 c g D E ++ [b6,bo])) (aJ q) (aJ q):=fun q=>bJ (.agg fun v hv=>by
      have:v=.int .i64 q.1∨v=.int .i64 q.2:=by simpa using hv
      rcases this with rfl | rfl <;> rfl)
     simp only [List.mem_cons,List.not_mem_nil,or_false,forall_eq_or_imp,forall_eq]
     exact ⟨y10,y18,y19,y20,y21,y22,yt,ys,yc,hsp _,hsp _,.of_flat rfl⟩
end
section
variable {V:View} {wA w w1 w2:World} {p:Nat} {k:Wk} {ts:List Nat} {vv rv:Value} {s:SS} {st:Bool} {b4 b5 b6 b7 c g cap bo:Nat} {D:List Nat} {cur:Array Value} {D1 wr1 x:Nat→Prop} {E WW:List Nat}
def XE (wA:World) (k:Wk) (s:SS) (st:Bool) (b6 c:Nat) (b:Frame) (cs:List Frame):wY:=fun _ _ vs a w =>
 vs=[]∧∃ a':Act,a=G (b.at a' [.code .ret]) cs∧a'.defers=[]∧a'.tmps.getD 6 undef=ptr b6∧w.heap[b6]? = some (.cells #[.int .i64 (dW k s st).1,.int .i64 (dW k s st).2] 27 (0,0)) ∧
  (∀ b,b < wA.heap.size→b≠b6→b≠c→w.heap[b]? = wA.heap[b]?)∧wA.heap.size≤w.heap.size∧w.os=wA.os∧w.output=wA.output
theorem XM (X:yD V wA p k ts vv rv s st b4 b5 b6 b7 c g cap D cur) (hG:Wg.gN≤wA.heap.size) {b:Frame} (hbf:b.fn=97) (hbk:b.kind=.normal) {cs:List Frame} {x10 x18 x19 x20 x21 x22 x26 x27 x28 x29 x30 x31:Value}
  (hL:XB V wA k s st b4 b5 b6 b7 c g D E bo k.sources.length D1 wr1 [] (dW k s st) w) (hx:∀ v∈[x10,x18,x19,x20,x21,x22,x26,x27,x28,x29,x30,x31],VR (iq (dK b4 b5 b7 c g D E ++ [b6,bo])) v v) :
  oK Tryd.prog c D1 wr1 [] (G (b.at ⟨wE p s st b4 b5 b6 b7 c bo (.slice (some ⟨g,0,none⟩) k.sources.length cap) k.sources.length k.sources.length k.sources.length x10 x18 x19 x20 x21 x22 x26 x27 x28 x29 x30 x31,[]⟩ head2) cs) w (XE wA k s st b6 c b cs):=by
 refine tV fun w1 hr1 hh1 _=>?_
 replace hL:=hL.rely X hr1
 clear hr1
 have hW:=aa3 X hL.I hL.o hG
 have hseg:=LM X hL.I hL.e hW hG
 have n6:b6 ∉ dK b4 b5 b7 c g D E:=hseg.dis b6 (by simp)
 have no:bo ∉ dK b4 b5 b7 c g D E:=hseg.dis bo (by simp)
 have h6o:b6≠bo:=by
  have:=X.XG
  have:=hL.o.ge
  omega
 refine DL (tgt:=[.code .ret]) X hL.I hL.e hW hG hh1 Lr (pJ X (by simp) (by simp) hx) hbf hbk
  (S:=fun a w'=>a.tmps[6]? = some (ptr b6)∧w'.heap[b6]? = some (.cells #[.int .i64 (dW k s st).1,.int .i64 (dW k s st).2] 27 (0,0))) (fun _ _ _ _ h=>h) (fun τ d=>?_) ?_
 ·obtain ⟨VL,hVL⟩:∃ VL:View,VL=fun i=>if i=b6 then none else lv (dK b4 b5 b7 c g D E) [b6,bo] w1 i:=⟨_,rfl⟩
  have hin:VL.In ((oU (dK b4 b5 b7 c g D E) w1).re τ d):=fun i o h=>by
   subst hVL
   simp only at h
   split at h
   ·cases h
   ·exact Ny _ _ w1 τ d i o h
  have hr:VL.Range bo 0 [.int .i64 (dW k s st).1,.int .i64 (dW k s st).2]:=fun i v hi=>by
   have h1:(lv (dK b4 b5 b7 c g D E) [b6,bo] w1).Cell bo i v:=Jb (by simp) hL.o.obj (by simpa using hi)
   obtain ⟨cs',t',f',h2,h3⟩:=h1
   refine ⟨cs',t',f',?_,by rw [Nat.zero_add];exact h3⟩
   subst hVL
   simp only [Ne.symm h6o,if_false]
   exact h2
  have h6l:((oU (dK b4 b5 b7 c g D E) w1).re τ d).heap[b6]? = some (.cells #[.int .i64 0,.int .i64 0] 27 (0,0)):=by
   show (oU (dK b4 b5 b7 c g D E) w1).heap[b6]? = _
   rw [Ap (WW:=[]) n6]
   exact hL.I.h6
  refine (abk p s st b4 b5 b6 b7 c bo k.sources.length k.sources.length (dW k s st) _ x10 x18 x19 x20 x21 x22 x26 x27 x28 x29 x30 x31 X.n6 h6l (by subst hVL;simp) hr hin).mono ?_
  rintro a w' ⟨⟨x26',x32',rfl⟩,hS⟩
  exact ⟨rfl,hS.dR⟩
 ·rintro R' a' a2 wl w2 ⟨h6t,h6l⟩ hle hAF hdf hWR hkept hfr
  refine tV fun w3 hr3 _ _=>Wn fun w4 hr4=>⟨rfl,a2,rfl,hdf,?_,?_,fun i h1 h2 h3=>?_,?_,?_,?_⟩
  ·have:=aag (sQ hWR hle) hAF h6t (.ptr (by simp))
   rw [Array.getD_eq_getD_getElem?,this]
   rfl
  ·have h1:=AP hWR hle (b:=b6) (by simp) n6 (by simp [iL]) h6l
   have w6:wr1 b6∨own (wX (dK b4 b5 b7 c g D E)) R' b6:=.inl hL.I.w6
   exact ((kY (hr4.keep b6 (.inr w6)) X.WE).trans (kY (hr3.keep b6 (.inr w6)) X.WE)).trans h1
  ·have hn:¬ wr1 i:=fun h=>by
    rcases hL.I.low i h with h | h
    ·exact h2 h
    ·omega
   have hd:=hL.I.rd i h1 h2
   exact ((kY (hr4.keep i (.inl hd)) h3).trans (kY (hr3.keep i (.inl hd)) h3)).trans ((kY (hkept.keep i (Nat.lt_of_lt_of_le h1 hL.I.size) hd hn) h3).trans (hL.I.kept i h1 h2 h3))
  ·exact Nat.le_trans hL.I.size (Nat.le_trans hkept.size (Nat.le_trans hr3.size hr4.size))
  ·exact hr4.os.trans (hr3.os.trans (hkept.os.trans hL.I.os))
  ·exact hr4.output.trans (hr3.output.trans (hkept.output.trans hL.I.out))
theorem XL (X:yD V wA p k ts vv rv s st b4 b5 b6 b7 c g cap D cur) (hG:Wg.gN≤wA.heap.size) {b:Frame} (hbf:b.fn=97) (hbk:b.kind=.normal) {cs:List Frame} {x10 x18 x19 x20 x21 x22:Value}
  (I:FT wA b6 c D1 wr1 w) (hE:KG wA D E D1 wr1 w) (h22:Sr.flat x22=true) (hx:∀ v∈[x10,x18,x19,x20,x21,x22],VR (iq (dK b4 b5 b7 c g D E ++ [b6])) v v) :
  oK Tryd.prog c D1 wr1 (wC k s st k.sources.length) (G (b.at ⟨iU p s st b4 b5 b6 b7 c (.slice (some ⟨g,0,none⟩) k.sources.length cap) k.sources.length k.sources.length x10 x18 x19 x20 x21 x22,[]⟩ yP) cs) w (XE wA k s st b6 c b cs):=by
 refine tV fun w1 hr1 hh1 hc1=>?_
 replace I:=I.rely X hr1
 replace hE:=hE.rely X hr1
 clear hr1 hc1
 have hW:=ph6 X I
 have hn6:=Jg X I hE hG
 have hlts:=LK X I hE hW hG
 have sf:=yG (E:=E) (WW:=[b6]) (n:=k.sources.length) (i:=k.sources.length) X (by simp) hx
 refine DL (tgt:=head2) X I hE hW hG hh1 Mc sf hbf hbk
  (S:=fun a w'=>∃ bl,a=⟨wE p s st b4 b5 b6 b7 c bl (.slice (some ⟨g,0,none⟩) k.sources.length cap) k.sources.length k.sources.length 0 x10 (.bool false) x19 x20 x21 x22 undef undef undef undef undef undef,[]⟩ ∧
   w'.heap[bl]? = some (.cells #[.int .i64 0,.int .i64 0] 27 (0,0))∧w1.heap.size≤bl∧w'.heap[b6]? = some (.cells #[.int .i64 0,.int .i64 0] 27 (0,0)))
  (fun _ _ _ _ h=>h) (fun τ d=>?_) ?_
 ·refine (abw p s st b4 b5 b6 b7 c g cap k.sources.length x10 x18 x19 x20 x21 x22 X.n6 _ (Ny (dK b4 b5 b7 c g D E) [b6] w1 τ d)).mono ?_
  rintro a w' ⟨bl,rfl,hS⟩
  have hl6:(lv (dK b4 b5 b7 c g D E) [b6] w1) b6=some (.cells #[.int .i64 0,.int .i64 0] 27 (0,0)):=by
   simp only [lv,List.mem_append,List.mem_singleton,or_true,if_true]
   rw [Ap (WW:=[]) hn6]
   exact I.h6
  have hb:=(hS.new (.blk bl 27 [.int .i64 0,.int .i64 0]) (by simp) bl rfl).elim id (fun h=>nomatch h)
  refine ⟨bl,rfl,hS.dR,?_,hS.view _ _ hl6⟩
  have e:((oU (dK b4 b5 b7 c g D E) w1).re τ d).heap.size=w1.heap.size:=oJ _ _
  omega
 ·rintro R' a' a2 wl w2 ⟨bl,rfl,hbl,lbl,h6l⟩ hle hAF hdf hWR hkept hfr
  have hfx:=sQ hWR hle
  obtain ⟨v11,hv11,r11⟩:=hAF.2 11 (ptr bl) rfl
  obtain ⟨bo,rfl,rbo⟩:=Iq r11
  have nD:¬ wX (dK b4 b5 b7 c g D E) bl:=fun h=>by
   have:=hlts bl h
   omega
  obtain ⟨c',hc',hAF1⟩:=wP hWR rbo nD hbl
  have ec:c'=#[.int .i64 0,.int .i64 0]:=CX hfx hAF1 fun v hv=>by
   have:v=.int .i64 0:=by simpa using hv
   subst this
   exact .flat rfl
  subst ec
  have h62:=zZ hWR hle (by simp) hn6 h6l
  have obo:own (wX (dK b4 b5 b7 c g D E)) R' bo:=⟨bl,rbo,nD⟩
  have lbo:wA.heap.size≤bo:=by
   rcases hfr bo obo with h | h
   ·rcases I.low bo h with h | h
    ·subst h
     have e:=hWR.inj bl bo bo rbo (hle bo bo ⟨rfl,by simp⟩)
     have h1:=lt_of_heap I.h6
     omega
    ·exact h
   ·exact Nat.le_trans I.size h
  have hbo:∀ v',VR R' (ptr bl) v'→v'=ptr bo:=fun v' h=>by
   obtain ⟨b',rfl,hb'⟩:=Iq h
   rw [hWR.fn _ _ _ hb' rbo]
  have hall:GR R' (wE p s st b4 b5 b6 b7 c bl (.slice (some ⟨g,0,none⟩) k.sources.length cap) k.sources.length k.sources.length 0 x10 (.bool false) x19 x20 x21 x22 undef undef undef undef undef undef).toList
    (wE p s st b4 b5 b6 b7 c bo (.slice (some ⟨g,0,none⟩) k.sources.length cap) k.sources.length k.sources.length 0 x10 (.bool false) x19 x20 x21 x22 undef undef undef undef undef undef).toList :=
   ⟨fun v' h=>aI hfx (sf _ (by simp [iU])) h,fun v' h=>aI hfx (sf _ (by simp [iU])) h,fun v' h=>aI hfx (sf _ (by simp [iU])) h,fun v' h=>aI hfx (sf _ (by simp [iU])) h,fun v' h=>aI hfx (sf _ (by simp [iU])) h,fun v' h=>aI hfx (sf _ (by simp [iU])) h,fun v' h=>aI hfx (sf _ (by simp [iU])) h,fun v' h=>aI hfx (sf _ (by simp [iU])) h,fun v' h=>aI hfx (sf _ (by simp [iU])) h,fun v' h=>aI hfx (sf _ (by simp [iU])) h,fun v' h=>aI hfx (sf _ (by simp [iU])) h,hbo,fun v' h=>aI hfx (sf _ (by simp [iU])) h,fun v' h=>aI hfx (sf _ (by simp [iU])) h,fun v' h=>aI hfx (sf _ (by simp [iU])) h,fun v' h=>aI hfx (sf _ (by simp [iU])) h,fun v' h=>aI hfx (sf _ (by simp [iU])) h,fun v' h=>aI hfx (sf _ (by simp [iU])) h,fun v' h=>aI hfx (.of_flat rfl) h,fun v' h=>aI hfx (sf _ (by simp [iU])) h,fun v' h=>aI hfx (sf _ (by simp [iU])) h,fun v' h=>aI hfx (sf _ (by simp [iU])) h,fun v' h=>aI hfx (sf _ (by simp [iU])) h,fun v' h=>aI hfx (sf _ (by simp [iU])) h,fun v' h=>aI hfx (.of_flat rfl) h,fun v' h=>aI hfx (.of_flat rfl) h,fun v' h=>aI hfx (sf _ (by simp [iU])) h,fun v' h=>aI hfx (sf _ (by simp [iU])) h,fun v' h=>aI hfx (sf _ (by simp [iU])) h,fun v' h=>aI hfx (sf _ (by simp [iU])) h,fun v' h=>aI hfx (sf _ (by simp [iU])) h,fun v' h=>aI hfx (sf _ (by simp [iU])) h,fun v' h=>aI hfx (sf _ (by simp [iU])) h,trivial⟩
  have htm:=CW hAF hall
  obtain ⟨tmps2,defers2⟩:=a2
  simp only at hdf htm
  subst hdf
  subst htm
  have I2:=I.after X hkept hfr h62
  have E2:=hE.after X hkept hWR hle
  have hxx:∀ v∈[x10,.bool false,x19,x20,x21,x22,undef,undef,undef,undef,undef,undef],VR (iq (dK b4 b5 b7 c g D E ++ [b6,bo])) v v:=fun v hv=>by
   have hm:∀ u,VR (iq (dK b4 b5 b7 c g D E ++ [b6])) u u→VR (iq (dK b4 b5 b7 c g D E ++ [b6,bo])) u u:=fun u hu=>hu.mono fun i i' ⟨h1,h2⟩=>⟨h1,by
    simp only [List.mem_append,List.mem_cons,List.not_mem_nil,or_false] at h2 ⊢
    rcases h2 with h2 | h2
    ·exact .inl h2
    ·exact .inr (.inl h2)⟩
   simp only [List.mem_cons,List.not_mem_nil,or_false] at hv
   rcases hv with rfl | rfl | rfl | rfl | rfl | rfl | rfl | rfl | rfl | rfl | rfl | rfl
   all_goals first | exact .of_flat rfl | exact hm _ (hx _ (by simp))
  have hv:wC k s st k.sources.length=((k.sources.map (kX k s st)).reverse).map aJ:=by
   unfold wC
   rw [List.take_length,List.map_reverse,List.map_map]
   rfl
  rw [hv]
  have hlo:=X.lo
  refine aaA X hG hbf hbk (fun wr3 w3 y10 y18 y19 y20 y21 y22 y26 y27 y28 y29 y30 y31 hL hy=>XM X hG hbf hbk hL hy) k.sources.length 0 (by omega) _ _ _ _ _ _ _ _ _ _ _ _ _ _ _ (0,0) ⟨I2,E2,⟨.inr obo,lbo,hc'⟩,by simp,?_,fun y hy=>?_,?_⟩ hxx
  ·rw [GL,H9 (List.reverse_perm _),Dw]
  ·rw [List.mem_reverse] at hy
   obtain ⟨i,_,rfl⟩:=List.mem_map.1 hy
   exact Hy k X.cel.le s st hlo i
  ·unfold Pb
   simp
end
noncomputable def Yo (V:View) (w wA:World) (b6 c:Nat):View:=fun b=>if b=b6∨b=c then none else newV V w wA b
theorem YV {V:View} {w wA:World} {p:Nat} {k:Wk} {ts:List Nat} {vv rv:Value} {s:SS} {st:Bool} {b4 b5 b6 b7 c:Nat} {sl:Value} {D:List Nat} (hC:zO V p k ts vv rv) (hok:k.Ok) (hs:s.WF) (hlo:∀ i,0≤(s.aP i).1) (hhi:∀ i,(s.aP i).2≤1000) (hD:Closed V D) (hp:p∈D) (hV:V.In w)
  (T:ZA V w p k ts s st b4 b5 b6 b7 c sl wA):∃ g cap cur,sl=.slice (some ⟨g,0,none⟩) k.sources.length cap∧yD (Yo V w wA b6 c) wA p k ts vv rv s st b4 b5 b6 b7 c g cap D cur:=by
 have hpos:=vY hok
 have hle:k.sources.length≤6:=Nat.le_trans (sD k k.n) hC.le
 have hGw:Wg.gN≤w.heap.size:=by
  obtain ⟨o,ho⟩:=hD.last
  have:=lt_of_heap (hV _ _ ho)
  omega
 have hnew:∀ {b:Nat},w.heap.size≤b→V b=none:=fun {b} h=>by
  cases hv:V b with
  | none=>rfl
  | some o =>
   have:=lt_of_heap (hV b o hv)
   omega
 have hsub:∀ j o,V j=some o→Yo V w wA b6 c j=some o:=fun j o h=>by
  have h1:j≠b6:=by rintro rfl;rw [hnew T.n6] at h;cases h
  have h2:j≠c:=by rintro rfl;rw [hnew T.nc] at h;cases h
  simp only [Yo,h1,h2,or_self,if_false]
  exact rD hV j o h
 have hN:∀ {b:Nat} {o:Obj},w.heap.size≤b→wA.heap[b]? = some o→b≠b6→b≠c→Yo V w wA b6 c b=some o:=fun {b o} h1 h2 h3 h4=>by
  simp only [Yo,h3,h4,or_self,if_false,newV,show ¬ b < w.heap.size by omega]
  exact h2
 have WE:b6≠c:=by
  rintro rfl
  have:=T.h6
  rw [T.hc] at this
  cases this
 have ne_c:∀ {b:Nat} {cs:Array Value} {t:TypeId} {f:Nat × Nat},wA.heap[b]? = some (.cells cs t f)→b≠c:=fun h=>by
  rintro rfl
  rw [T.hc] at h
  cases h
 obtain ⟨g,cap,cur,rfl,_,_,hcur,hget⟩:=oz T.row.1 hpos
 have hg:=T.new g rfl
 have hti:=(hC.keep hD hp).2
 have hsz:cur.toList.length ≥ k.sources.length:=by
  have:=congrArg List.length hget
  simp only [List.length_take,List.length_map] at this
  omega
 have hsrc:∀ (i x:Nat),k.sources[i]? = some x→cur[i]? = some (ptr (ts.getD x 0)):=fun i x h=>by
  have h1:(cur.toList.take k.sources.length)[i]? = some (ptr (ts.getD x 0)):=by rw [hget,List.getElem?_map,h];rfl
  have hi:i < k.sources.length:=(List.getElem?_eq_some_iff.1 h).1
  rw [List.getElem?_take,if_pos hi] at h1
  simpa using h1
 refine ⟨g,cap,cur,rfl,?_⟩
 have n6:=T.n64
 have h6g:g≠b6:=fun h=>n6.2.2.2 (by rw [h];rfl)
 refine ⟨fun b o h=>?_,hC.mono hsub,hok,hs,hlo,hhi,kM hD hsub,hp,hN T.n4 T.h4 (Ne.symm n6.1) (ne_c T.h4),hN T.n5 T.h5 (Ne.symm n6.2.1) (ne_c T.h5),hN T.n7 T.h7 (Ne.symm n6.2.2.1) (ne_c T.h7),hN hg hcur h6g (ne_c hcur),fun v hv=>?_,hsrc,by simp [Yo],by simp [Yo],T.h6,T.hc,
  ⟨Nat.le_trans hGw T.n4,Nat.le_trans hGw T.n5,Nat.le_trans hGw T.n6,Nat.le_trans hGw T.n7,Nat.le_trans hGw T.nc,Nat.le_trans hGw hg⟩,hle,hpos⟩
 ·unfold Yo at h
  split at h
  ·cases h
  ·unfold newV at h
   split at h
   ·rename_i hlt
    rw [T.kp.old b hlt]
    exact hV b o h
   ·exact h
 ·obtain ⟨i,hi,rfl⟩:=Array.mem_iff_getElem.1 hv
  by_cases hlt:i < k.sources.length
  ·have h1:=hsrc i _ (List.getElem?_eq_getElem hlt)
   rw [Array.getElem?_eq_getElem hi] at h1
   rw [Option.some.inj h1]
   exact .inr (.inl ⟨_,_,rfl,hti _ (Dt (List.getElem?_eq_getElem hlt))⟩)
  ·exact .inl (T.row.2 g rfl cur 124 (0,0) hcur i _ (by omega) (Array.getElem?_eq_getElem hi))
theorem xM {w:World} {v:Value}:Ins fun e w'=>e=.returned v∧Kp w w':=fun e w' τ d h=>⟨h.1,⟨h.2.os,h.2.output,h.2.size,h.2.old⟩⟩
theorem QA {V:View} {p:Nat} {k:Wk} {ts:List Nat} {vv rv:Value} (hC:zO V p k ts vv rv) (hok:k.Ok) (s:SS) (hs:s.WF) (hlo:∀ i,0≤(s.aP i).1) (hhi:∀ i,(s.aP i).2≤1000) (st:Bool) {D:List Nat} (hD:Closed V D) (hp:p∈D) {w:World} (hV:V.In w) (hh:ay OC w) :
  kL Tryd.prog 97 #[ptr p,.agg (dJ s).toArray,.bool st] w fun e w'=>e=.returned (aJ (dW k s st))∧Kp w w':=by
 refine jD Tryd.func97 (show Tryd.f97.body=some B97 from rfl) fun cs b hbf hbk hbr=>?_
 have e30:Tryd.f97.ntmps - (#[ptr p,.agg (dJ s).toArray,.bool st]:Array Value).size=30:=by kernel_rfl
 rw [e30]
 obtain ⟨tm0,htm⟩:∃ tm0,#[ptr p,.agg (dJ s).toArray,.bool st] ++ Array.replicate 30 undef=tm0:=⟨_,rfl⟩
 rw [htm]
 have hst:uw 97 (b.at { tmps:=tm0,defers:=[] } [.code B97]) []:=by
  refine ⟨⟨fun x hx=>?_,(fun d hd=>nomatch hd),.inl hbk⟩,rfl,hbk,hbf⟩
  have:x=.code B97:=by simpa [Frame.at] using hx
  subst this
  exact (show bY true B97=true by kernel_rfl)
 have hGw:Wg.gN≤w.heap.size:=by
  obtain ⟨o,ho⟩:=hD.last
  have:=lt_of_heap (hV _ _ ho)
  omega
 refine yE lT hst hh (S:=fun a w'=>∃ b4 b5 b6 b7 c sl,a=⟨iU p s st b4 b5 b6 b7 c sl k.sources.length 0 undef undef undef undef undef undef,[]⟩∧ZA V w p k ts s st b4 b5 b6 b7 c sl w') ?_ (fun τ d=>?_) ?_ (tgt:=[.code (.block 0 (.loop L1)),.code K8])
 ·rintro a w' τ d ⟨b4,b5,b6,b7,c,sl,rfl,T⟩
  exact ⟨b4,b5,b6,b7,c,sl,rfl,⟨⟨T.kp.os,T.kp.output,T.kp.size,T.kp.old⟩,T.h4,T.h5,T.h6,T.h7,T.hc,⟨T.row.1,T.row.2⟩,T.new,T.n4,T.n5,T.n6,T.n7,T.nc,T.n64⟩⟩
 ·rw [← htm]
  refine (LX p k ts vv rv hC hok s hs st (w.re τ d) hV).mono ?_
  rintro a w' ⟨b4,b5,b6,b7,c,sl,rfl,T⟩
  exact ⟨b4,b5,b6,b7,c,sl,rfl,⟨⟨T.kp.os,T.kp.output,T.kp.size,T.kp.old⟩,T.h4,T.h5,T.h6,T.h7,T.hc,T.row,T.new,T.n4,T.n5,T.n6,T.n7,T.nc,T.n64⟩⟩
 ·rintro a' wA ⟨b4,b5,b6,b7,c,sl,rfl,T⟩ hhA _
  obtain ⟨g,cap,cur,rfl,X⟩:=YV hC hok hs hlo hhi hD hp hV T
  have hGA:Wg.gN≤wA.heap.size:=Nat.le_trans hGw T.kp.size
  refine Tv (WL ?_)
  have I:FT wA b6 c (fun i=>i < wA.heap.size∧i≠b6) (fun i=>i=b6) wA:=⟨fun _ _ _ _=>rfl,Nat.le_refl _,rfl,rfl,fun i h1 h2=>⟨h1,h2⟩,rfl,fun i h=>.inl h,X.h6,⟨_,X.hc,rfl⟩⟩
  have hC1:=aaz X hGA hbf hbk (cs:=cs) (Q:=XE wA k s st b6 c b cs) (fun D1 wr1 w x10 x18 x19 x20 x21 x22 E I hE h22 hx=>XL X hGA hbf hbk I hE h22 hx) k.sources.length 0 (by omega) _ _ wA undef undef undef undef undef undef [] I ⟨fun b hb=>nomatch hb⟩ rfl (fun v hv=>by
   simp only [List.mem_cons,List.not_mem_nil,or_false,or_self] at hv
   subst hv
   exact .of_flat rfl)
  have hB:=Sl (P:=Tryd.prog) (c:=c) (QB:=fun a w'=>XE wA k s st b6 c b cs (fun _=>False) (fun _=>False) [] a w'∧ay OC w') hhA ⟨0,X.hc⟩ (fun h=>X.WE h.symm) (fun i h=>by
   rcases h with h | h
   ·exact h.1
   ·rw [h];exact X.XG) hC1 (fun D wr vs a w h hh=>⟨h.1,⟨rfl,h.2⟩,hh⟩)
  refine hB.bind fun a1 w1 ⟨⟨_,a',ha,hd,h6t,h6,hkept,hsz,hos,hout⟩,hh1⟩=>?_
  subst ha
  refine CV (Hz (v:=aJ (dW k s st)) (fn:=Tryd.f97) hbf hbk hd Tryd.func97 hh1 ?_ ⟨rfl,?_⟩ xM)
  ·have hS:St w1 [b6] (fun _=>none) [.blk b6 27 [.int .i64 (dW k s st).1,.int .i64 (dW k s st).2]] w1:=St.Zj (fun _ _ h=>by cases h) h6 rfl
   exact bH (r1:=.cell 6 27) (by kernel_rfl) (Aa hS (n:=2) 0 h6t rfl (by kernel_rfl) rfl rfl)
  ·refine ⟨hos.trans T.kp.os,hout.trans T.kp.output,Nat.le_trans T.kp.size hsz,fun i hi=>?_⟩
   have h1:=T.n6
   have h2:=T.nc
   have h3:=T.kp.size
   exact (hkept i (by omega) (by omega) (by omega)).trans (T.kp.old i hi)
end Go.Proofs.YtjjmefieegcddaaDoor
namespace Go.Tm
open Go
open Go.Conc
variable {P:Program}
theorem Bq (hS:ED P fun _=>True) {f0:FuncId} {fn:Func} {R:Ending→World→Prop} (hins:Ins R) (hout:∀ w,¬ R .outgrown w) {fr:Frame} {w:World} (hst:uw f0 fr []) (hf:P.funcs[f0]? = some fn) (hw:ay OC w) (hm:fr.mode=.returning)
  (h:∀ τ d,Leaves P fn fr.tmps R fr.defers .returning (w.re τ d)) (cs:List Frame) :
  kU P (G fr cs) w (fun a' w'=>∃ e fr,a'=G fr cs∧R e w'∧fr.fn=f0∧fr.leaving P w' e∧e≠.outgrown∧ay OC w'):=by
 let Stop:Frame→List Frame→World→Prop:=fun fr mine w=>mine=[]∧∃ e,R e w∧e≠.outgrown∧fr.fn=f0∧fr.leaving P w e
 have hfn:fr.fn=f0:=hst.2.2.2
 have hterm:Term P (SH f0 Stop) fr [] w:=by
  refine qU hS ?_ hst hw ?_
  ·rintro fr mine w τ d hw ⟨rfl,e,h1,h2,h3,h4⟩
   exact ⟨rfl,e,hins _ _ _ _ h1,h2,h3,kD hw h4 τ d⟩
  ·intro τ d
   obtain ⟨e,w',fr',h1,h2,h3,h4⟩:=leaves_steps fr.defers .returning (w.re τ d) fr [floor P] hm rfl rfl (by rw [hfn];exact hf) hst.2.2.1 (h τ d)
   cases e with
   | outgrown=>exact (hout _ h1).elim
   | returned v=>exact ⟨fr',[],w',⟨rfl,_,h1,by simp,h3.trans hfn,h4⟩,h2⟩
   | panicked chain=>exact ⟨fr',[],w',⟨rfl,_,h1,by simp,h3.trans hfn,h4⟩,h2⟩
 have:=uS (fun fr mine w d h=>by
  obtain ⟨⟨rfl,e,h1,h2,h3,h4⟩,h5,h6⟩:=h
  exact ⟨⟨rfl,e,hins _ _ w.tape d h1,h2,h3,kD h5 h4 w.tape d⟩,h5,h6⟩) hterm cs
 refine this.mono fun a' w' ⟨fr',mine',h1,⟨h2,e,h3,h4,h5,h6⟩,h7,h8⟩=>?_
 subst h2
 exact ⟨e,fr',h1,h3,h5,h6,h4,h7⟩
end Go.Tm
namespace Go.Proofs.YtjjmefieegcddaaDoor
open Go.RowKit Go.Wg Go.Mm Go.Wk
open Go Go.Sr Go.Ph Go.Tm Go.Conc
variable {w:World} {V:View}
def dC (b:Nat):Deferred:={ target:=.fn (.func 82) #[],args:=#[.pointer (some ⟨b,0,none⟩)] }
noncomputable def B40:Code:=match Tryd.f40.body with | some c=>c | none=>.skip
noncomputable def aer:Array Oper:=match Tryd.f40.body with | some (.seq _ (.seq _ (.seq _ (.seq _ (.seq (.region _ o _) _)))))=>o | _=>#[]
theorem OO (vv rv:Value) (k:Wk) (hk:iJ V vv rv k) (hG:GV V) (hV:V.In w) (hb:aS k []=0) (hst:Go.Wg.settle k (aN k aC)=none) :
  fA Tryd.prog [.inRegion aer [3,4,5],.code .ret] (fun a w'=>∃ p V' D b1 b2 b3,(∃ x5 x7 x8 x9 x10 x11,a=⟨#[.agg #[vv,rv],ptr b1,ptr b2,ptr b3,ptr p,x5,.agg #[vv,rv],x7,x8,x9,x10,x11,undef,undef,ptr p,ptr p,.agg (dJ (aN k aC)).toArray,undef],[dC b3]⟩) ∧
    jh V' p k∧Closed V' D∧p∈D∧St w [] V' [.blk b3 38 [.int .i64 0],.blk b2 27 [.int .i64 0,.int .i64 0]] w')
   [.code B40] { tmps:=#[.agg #[vv,rv]] ++ Array.replicate 17 undef,defers:=[] } w:=by
 have hk0:=hk
 obtain ⟨va,vcap,rfl,hvc,hvm,hve⟩:=hk0.ves.is
 obtain ⟨ra,rcap,rfl,hrc,hrm,hre⟩:=hk0.rdg.is
 have hS:=St.start w V hV
 clear hk0 hve hre
 have hok:=dP hb
 have hcan:can k (aN k aC)=true:=by unfold can;rw [hst];rfl
 replace hst:=aj hst;replace hcan:=aj hcan;replace hb:=aj hb
 simp only [Array.replicate_succ,Array.replicate_zero,List.push_toArray,List.append_toArray,List.nil_append,List.cons_append]
 unfold ptr
 refine au (aA ?_)
 go_wp2_with (first | ((with_reducible refine gB ?_);refine iK 1 rfl hS rfl rfl rfl ?_;refine ⟨_,za,?_⟩;clear hS;(try clear w');intro b1;refine zF ?_;intro w' hS) | ((with_reducible refine gA ?_);refine aT 2 rfl hS rfl rfl ?_;clear hS;(try clear w');intro b2;refine zF ?_;intro w' hS) | ((with_reducible refine gA ?_);refine aT 3 rfl hS rfl rfl ?_;clear hS;(try clear w');intro b3;refine zF ?_;intro w' hS))
 refine au (aA ?_)
 go_wp2_with (fail)
 refine au (aA ?_)
 go_wp2_with (first | ((first | ((with_reducible refine gL ?_);refine lW hS rfl rfl rfl ?_) | ((with_reducible refine gS ?_);refine pX hS rfl rfl rfl ?_));refine ⟨_,zd,?_⟩;clear hS;(try clear w');refine zF ?_;intro w' hS;(try simp only [sE] at hS)) | (go_at_call 77;refine zG hS hk pG (by simp) hb.out ?_;clear hS;(try clear w');intro p V' w' D hVV hcel hD hpD hS;have hG':GV V':=hG.mono hVV))
 refine au (au (aA ?_))
 go_wp2_with (((with_reducible refine gL ?_);refine gY hS rfl rfl rfl ?_);refine ⟨_,zd,?_⟩;clear hS;(try clear w');refine zF ?_;intro w' hS)
 refine dZ (t:=false) rfl (lu (au (ig ?_)))
 refine cO (i:=0) (v:=.pointer (some ⟨p,0,none⟩)) (w':=w') rfl rfl rfl ?_
 refine cO (i:=1) (v:=.pointer (some ⟨p,0,none⟩)) (w':=w') rfl rfl rfl ?_
 refine rZ (i:=2) rfl rfl (run_call_body rfl Tryd.func83 (by kernel_rfl) rfl) ?_
 simp only [List.map_toArray,List.map_cons,List.map_nil]
 show Calls Tryd.prog 83 #[ptr p] w' _
 refine (y8 V' p k hcel hok hcan.out _ (St.view hS)).mono ?_
 rintro e w2 ⟨rfl,hkp⟩
 refine ⟨_,rfl,?_⟩
 replace hS:=hS.kp hkp
 exact bG (tgt:=[.inRegion aer [3,4,5],.code .ret]) ⟨p,V',D,b1,b2,b3,⟨_,_,_,_,_,_,rfl⟩,hcel,hD,hpD,hS.sub (List.Sublist.cons_cons _ (List.Sublist.cons_cons _ (List.Sublist.cons _ (List.Sublist.refl _))))⟩
theorem Vz {w0:World} {V':View} {b1 b2 b3 p:Nat} {r:Int × Int} {x0 x5 x6 x7 x8 x9 x10 x11 x14 x15 x16:Value} (hS:St w0 [] V' [.blk b3 38 [.int .i64 0],.blk b2 27 [.int .i64 0,.int .i64 0]] w) :
  fA Tryd.prog [.code .ret] (fun a w'=>a=⟨#[x0,ptr b1,ptr b2,ptr b3,ptr p,x5,x6,x7,x8,x9,x10,x11,undef,undef,x14,x15,x16,aJ r],[dC b3]⟩∧St w0 [] V' [.blk b3 38 [.int .i64 0],.blk b2 27 [.int .i64 r.1,.int .i64 r.2]] w')
   [.inRegion aer [4,5],.code .ret] ⟨#[x0,ptr b1,ptr b2,ptr b3,ptr p,x5,x6,x7,x8,x9,x10,x11,undef,undef,x14,x15,x16,aJ r],[dC b3]⟩ w:=by
 refine xK hS (i:=4) (vs:=[.int .i64 r.1,.int .i64 r.2]) rfl rfl rfl (j:=1) (i':=0) (n:=2) rfl rfl rfl (by simp [Value.oneCell']) (by kernel_rfl) rfl (by simp) fun w1 hS1=>?_
 refine D6 hS1 (i:=5) (v:=.int .i64 0) rfl rfl rfl (j:=0) (i':=0) rfl rfl rfl rfl (by kernel_rfl) (by simp) fun w2 hS2=>?_
 exact dH (bG (tgt:=[.code .ret]) ⟨rfl,hS2⟩)
def vX (k:Wk):(Int × Int) × Int :=
 if aS k []=0 then (if (Go.Wg.settle k (aN k aC)).isNone then (dW k (aN k aC) false,0) else ((0,0),9)) else ((0,0),aS k [])
theorem UY (vv rv:Value) (k:Wk) (hk:iJ V vv rv k) (hG:GV V) (hV:V.In w) (hbs:¬ (aS k []=0∧Go.Wg.settle k (aN k aC)=none)) :
  Calls Tryd.prog 40 #[.agg #[vv,rv]] w fun r w'=>r=.returned (.tuple #[aJ (vX k).1,.int .i64 (vX k).2])∧Kp w w':=by
 have hk0:=hk
 obtain ⟨va,vcap,rfl,hvc,hvm,hve⟩:=hk0.ves.is
 obtain ⟨ra,rcap,rfl,hrc,hrm,hre⟩:=hk0.rdg.is
 have hS:=St.start w V hV
 clear hk0 hve hre
 by_cases hb:aS k []=0
 ·have hok:=dP hb
  cases hst:Go.Wg.settle k (aN k aC) with
  | none=>exact (hbs ⟨hb,hst⟩).elim
  | some i =>
   have hC:vX k=((0,0),9):=by unfold vX;rw [if_pos hb,hst];rfl
   rw [hC]
   simp only
   replace hC:=aj hC;replace hst:=aj hst;replace hb:=aj hb
   clear hbs
   go_enter_defers Tryd.func40,Tryd.ntmps40
   go_wp2_with (first | (first | ((first | ((with_reducible refine gL ?_);first | refine gY hS rfl rfl rfl ?_ | refine lW hS rfl rfl rfl ?_) | ((with_reducible refine gS ?_);refine pX hS rfl rfl rfl ?_));refine ⟨_,zd,?_⟩;clear hS;(try clear w');refine zF ?_;intro w' hS;(try simp only [sE] at hS)) | ((with_reducible refine gB ?_);refine iK 1 rfl hS rfl rfl rfl ?_;refine ⟨_,za,?_⟩;clear hS;(try clear w');intro b1;refine zF ?_;intro w' hS) | ((with_reducible refine gA ?_);refine aT 2 rfl hS rfl rfl ?_;clear hS;(try clear w');intro b2;refine zF ?_;intro w' hS) | ((with_reducible refine gA ?_);refine aT 3 rfl hS rfl rfl ?_;clear hS;(try clear w');intro b3;refine zF ?_;intro w' hS)) |
    (go_at_call 77;refine eG hS hk pG (by simp) hb.out ?_;clear hS;(try clear w');intro p V' w' hVV hcel hS;have hG':GV V':=hG.mono hVV) |
    (go_at_call 83;refine nH hS (zN V' p k hcel hok i hst.out _ (St.view hS)) ?_;clear hS;(try clear w');intro w' hS))
   (refine vJ hS ?_;clear hS;(try clear w');intro w' hS;(try simp only [sE] at hS);refine ⟨_,by exact dA (r1:=.cell 2 27) (r2:=.cell 3 38) (by kernel_rfl) (by exact rX hS rfl zd) (by exact zA hS rfl zd),?_⟩)
   exact ⟨rfl,hS.bM⟩
 ·clear hbs
  have hC:vX k=((0,0),aS k []):=by unfold vX;rw [if_neg hb]
  rw [hC]
  simp only
  have hb':(aS k [] == 0)=false:=by rw [beq_eq_false_iff_ne];exact hb
  have hE:Go.RowKit.Hid (∃ e,aS k []=e):=aj ⟨_,rfl⟩
  obtain ⟨e,he⟩:=hE.out
  rw [he] at hb' ⊢
  replace hC:=aj hC;replace he:=aj he
  go_enter_defers Tryd.func40,Tryd.ntmps40
  go_wp2_with (first | (first | ((first | ((with_reducible refine gL ?_);first | refine gY hS rfl rfl rfl ?_ | refine lW hS rfl rfl rfl ?_) | ((with_reducible refine gS ?_);refine pX hS rfl rfl rfl ?_));refine ⟨_,zd,?_⟩;clear hS;(try clear w');refine zF ?_;intro w' hS;(try simp only [sE] at hS)) | ((with_reducible refine gB ?_);refine iK 1 rfl hS rfl rfl rfl ?_;refine ⟨_,za,?_⟩;clear hS;(try clear w');intro b1;refine zF ?_;intro w' hS) | ((with_reducible refine gA ?_);refine aT 2 rfl hS rfl rfl ?_;clear hS;(try clear w');intro b2;refine zF ?_;intro w' hS) | ((with_reducible refine gA ?_);refine aT 3 rfl hS rfl rfl ?_;clear hS;(try clear w');intro b3;refine zF ?_;intro w' hS)) |
   (go_at_call 77;refine fF hS hk pG (by simp) hb ?_;rw [he.out];clear hS;(try clear w');intro w' hS))
  (refine bF (S:=(St w [] V [.blk b3 38 [.int .i64 e]])) [false,false,false,false] rfl (by kernel_rfl) ?_;replace hS:=St.eY hS;(iterate 2 ((first | refine hxp 0 rfl ?_ | refine hxa 1 rfl ?_);refine zH ?_));((refine wQ 2 (by kernel_rfl) rfl hS rfl  rfl rfl ?_;refine ⟨_,zd,?_⟩);clear hS;(try clear w');refine zH ?_;intro w' hS;(try simp only [sE] at hS);refine ⟨(St.aG hS),?_⟩);((refine jl 3 (by kernel_rfl) rfl hS rfl  rfl rfl ?_;refine ⟨_,zd,?_⟩);clear hS;(try clear w');refine zH ?_;intro w' hS;(try simp only [sE] at hS);refine ⟨(St.aG hS),?_⟩);refine wpAnyH_done (by kernel_rfl) ?_ _)
  go_wp2_with (fail)
  (refine iF hS ?_;clear hS;(try clear w');intro w' hS;(try simp only [sE] at hS);refine ⟨_,by exact dA (r1:=.cell 2 27) (r2:=.cell 3 38) (by kernel_rfl) (by exact rX hS rfl zd) (by exact zA hS rfl zd),?_⟩)
  exact ⟨by rfl,(hS.bM)⟩
theorem ZB (vv rv:Value) (k:Wk) (hk:iJ V vv rv k) (hG:GV V) (hV:V.In w) (hh:ay OC w) :
  kL Tryd.prog 40 #[.agg #[vv,rv]] w fun r w'=>r=.returned (.tuple #[aJ (vX k).1,.int .i64 (vX k).2])∧Kp w w':=by
 by_cases hbs:aS k []=0∧Go.Wg.settle k (aN k aC)=none
 ·obtain ⟨hb,hst⟩:=hbs
  have hC:vX k=(dW k (aN k aC) false,0):=by unfold vX;rw [if_pos hb,hst];rfl
  rw [hC]
  have hok:=dP hb
  refine jD Tryd.func40 (show Tryd.f40.body=some B40 from rfl) fun cs b hbf hbk hbr=>?_
  have e17:Tryd.f40.ntmps - (#[.agg #[vv,rv]]:Array Value).size=17:=by kernel_rfl
  rw [e17]
  obtain ⟨tm0,htm⟩:∃ tm0,#[Value.agg #[vv,rv]] ++ Array.replicate 17 undef=tm0:=⟨_,rfl⟩
  rw [htm]
  have hsk:uw 40 (b.at { tmps:=tm0,defers:=[] } [.code B40]) []:=by
   refine ⟨⟨fun x hx=>?_,(fun d hd=>nomatch hd),.inl hbk⟩,rfl,hbk,hbf⟩
   have:x=.code B40:=by simpa [Frame.at] using hx
   subst this
   exact (show bY true B40=true by kernel_rfl)
  have hio:(aer.all fun o=>qj true o.op)=true:=by kernel_rfl
  have hdC:∀ b3,iZ (dC b3):=fun b3=>by simp [iZ,dC]
  refine yE lT hsk hh (fun a w' τ d h=>?_) (fun τ d=>?_) ?_ (tgt:=[.inRegion aer [3,4,5],.code .ret]) (S:=fun a w'=>∃ p V' D b1 b2 b3,(∃ x5 x7 x8 x9 x10 x11,a=⟨#[.agg #[vv,rv],ptr b1,ptr b2,ptr b3,ptr p,x5,.agg #[vv,rv],x7,x8,x9,x10,x11,undef,undef,ptr p,ptr p,.agg (dJ (aN k aC)).toArray,undef],[dC b3]⟩) ∧
    jh V' p k∧Closed V' D∧p∈D∧St w [] V' [.blk b3 38 [.int .i64 0],.blk b2 27 [.int .i64 0,.int .i64 0]] w')
  ·obtain ⟨p,V',D,b1,b2,b3,h1,h2,h3,h4,h5⟩:=h
   exact ⟨p,V',D,b1,b2,b3,h1,h2,h3,h4,h5.re1 τ d⟩
  ·rw [← htm]
   refine (OO (w:=w.re τ d) vv rv k hk hG hV hb hst).mono ?_
   rintro a w' ⟨p,V',D,b1,b2,b3,h1,h2,h3,h4,h5⟩
   exact ⟨p,V',D,b1,b2,b3,h1,h2,h3,h4,h5.re0⟩
  ·rintro a' wA ⟨p,V',D,b1,b2,b3,⟨x5,x7,x8,x9,x10,x11,rfl⟩,⟨ts,vv',rv',hcel⟩,hD,hpD,hS⟩ hhA _
   have htot:=QA hcel hok (aN k aC) (gG _ _) (QU k hok aC) (fun i=>Int.le_trans (Jy k hok aC i) (by decide)) false hD hpD hS.view hhA
   refine Ou lT (i:=3) (o:=aer[3]!) (r:=true) rfl rfl (by rw [hbk];decide) rfl hhA (fun _ _ _=>trivial) fun d=>?_
   rw [run_call_body rfl Tryd.func97 (by kernel_rfl) rfl]
   intro hhd
   simp only [List.map_toArray,List.map_cons,List.map_nil]
   have hat:∀ {Q:Goroutine→World→Prop} {g:Goroutine},kU Tryd.prog g wA Q→kU Tryd.prog g (wA.at d) Q:=fun h=>h.at
   refine hat (xI (i:=3) (o:=aer[3]!) rfl htot (fun v w1 ⟨hv,hk1⟩ hh1=>?_) fun ch w1 ⟨hv,_⟩ _=>nomatch hv)
   cases hv
   replace hS:=hS.kp hk1
   show kU Tryd.prog (G (b.at ⟨#[.agg #[vv,rv],ptr b1,ptr b2,ptr b3,ptr p,x5,.agg #[vv,rv],x7,x8,x9,x10,x11,undef,undef,ptr p,ptr p,.agg (dJ (aN k aC)).toArray,aJ (dW k (aN k aC) false)],[dC b3]⟩ [.inRegion aer [4,5],.code .ret]) cs) w1 _
   refine yE lT (f0:=40) ⟨⟨fun x hx=>?_,fun d hd=>?_,.inl hbk⟩,rfl,hbk,hbf⟩ hh1 (fun a w' τ d h=>⟨h.1,h.2.re1 τ d⟩) (fun τ d=>Vz (hS.re1 τ d)) ?_
   ·have:x=.inRegion aer [4,5]∨x=.code .ret:=by simpa [Frame.at] using hx
    rcases this with rfl | rfl
    ·exact hio
    ·exact (show bY true .ret=true from rfl)
   ·have:d=dC b3:=by simpa [Frame.at] using hd
    subst this
    exact hdC b3
   ·rintro a' w2 ⟨rfl,hS2⟩ hh2 _
    refine CV ?_
    refine (Bq (fr:={ b.at ⟨#[.agg #[vv,rv],ptr b1,ptr b2,ptr b3,ptr p,x5,.agg #[vv,rv],x7,x8,x9,x10,x11,undef,undef,ptr p,ptr p,.agg (dJ (aN k aC)).toArray,aJ (dW k (aN k aC) false)],[dC b3]⟩ [.code .ret] with mode:=.returning }) lT xM (fun w h=>nomatch h.1) (fn:=Tryd.f40) ⟨⟨fun x hx=>?_,fun d hd=>?_,.inl hbk⟩,rfl,hbk,hbf⟩ Tryd.func40 hh2 rfl (fun τ d=>?_) cs)
    ·have:x=.code .ret:=by simpa [Frame.at] using hx
     subst this
     exact (show bY true .ret=true from rfl)
    ·have:d=dC b3:=by simpa [Frame.at] using hd
     subst this
     exact hdC b3
    ·refine iF (R:=fun r w'=>r=.returned (.tuple #[aJ (dW k (aN k aC) false),.int .i64 0])∧Kp w w') (hS2.re1 τ d) fun w3 hS3=>⟨_,dA (r1:=.cell 2 27) (r2:=.cell 3 38) (by kernel_rfl) (Aa hS3 (n:=2) 1 rfl rfl (by kernel_rfl) rfl rfl) (AO hS3 0 rfl rfl (by kernel_rfl) rfl),rfl,hS3.bM⟩
 ·refine uF lT xM (fun w h=>nomatch h.1) hh fun τ d=>?_
  exact (UY (w:=w.re τ d) vv rv k hk hG hV hbs).mono fun e w' h=>⟨h.1,⟨h.2.os,h.2.output,h.2.size,h.2.old⟩⟩
end Go.Proofs.YtjjmefieegcddaaDoor
namespace Go.Tm
open Go
open Go.Conc
variable {P:Program}
def fV (P:Program) (ro:Option Nat) (tgt:List Item) (S:Act→World→Prop) (todo:List Item) (a:Act) (w:World):Prop :=
 ∀ (b:Frame) (cs:List Frame),b.kind=.normal→b.roundOf=ro→∃ a' w',S a' w'∧Steps P (lone (b.atR a todo) cs w) (lone (b.atR a' tgt) cs w')
section
variable {ro:Option Nat} {tgt k:List Item} {S:Act→World→Prop} {a:Act} {w:World}
theorem Jj (h:S a w):fV P ro tgt S tgt a w:=fun _ _ _ _=>⟨a,w,h,.refl _ _⟩
theorem mW {todo todo':List Item} {a':Act} {w':World} (hs:∀ (b:Frame) (cs:List Frame),b.kind=.normal→b.roundOf=ro→step P (lone (b.atR a todo) cs w)=.next (lone (b.atR a' todo') cs w')) (h:fV P ro tgt S todo' a' w'):fV P ro tgt S todo a w:=by
 intro b cs hb hr
 obtain ⟨a2,w2,h1,h2⟩:=h b cs hb hr
 exact ⟨a2,w2,h1,.head (hs b cs hb hr) h2⟩
theorem JJ (h:fV P ro tgt S k a w):fV P ro tgt S (.code .skip :: k) a w:=mW (fun _ _ _ _=>stepR_skip) h
theorem Vk {l:Nat} (h:fV P ro tgt S k a w):fV P ro tgt S (.code (.label l) :: k) a w:=mW (fun _ _ _ _=>stepR_label) h
theorem pV {x y:Code} (h:fV P ro tgt S (.code x :: .code y :: k) a w):fV P ro tgt S (.code (.seq x y) :: k) a w:=mW (fun _ _ _ _=>stepR_seq) h
theorem EM {id:Nat} {x:Code} (h:fV P ro tgt S (.code x :: .inBlock id :: k) a w):fV P ro tgt S (.code (.block id x) :: k) a w:=mW (fun _ _ _ _=>stepR_block) h
theorem EO {id:Nat} (h:fV P ro tgt S k a w):fV P ro tgt S (.inBlock id :: k) a w:=mW (fun _ _ _ _=>stepR_inBlock) h
theorem Xr {x:Code} (h:fV P ro tgt S (.code x :: .inLoop x :: k) a w):fV P ro tgt S (.code (.loop x) :: k) a w:=mW (fun _ _ _ _=>stepR_loop) h
theorem Tf {x:Code} (h:fV P ro tgt S (.code x :: .inLoop x :: k) a w):fV P ro tgt S (.inLoop x :: k) a w:=mW (fun _ _ _ _=>stepR_inLoop) h
theorem wM {o:Operand} {x y:Code} {t:Bool} (hc:a.eval o=.bool t) (h:fV P ro tgt S (.code (if t then x else y) :: k) a w):fV P ro tgt S (.code (.cond o x y) :: k) a w:=mW (fun _ _ _ _=>stepR_cond hc) h
theorem JQ {id:Nat} {k':List Item} (hk:exitTo id k=some k') (h:fV P ro tgt S k' a w):fV P ro tgt S (.code (.exit id) :: k) a w:=mW (fun _ _ _ _=>stepR_exit hk) h
theorem UO {ops:Array Oper} {i:Nat} {rest:List Nat} {o:Oper} {l:Nat} {f:FuncId} {tmps:Array Value} {assign body:Code} {w':World} (ho:ops[i]? = some o) (hw:Region.wanted o (yielded ops a.tmps)=true) (hd:∀ c,o.op≠.defer c) (hr:(execOp a.eval o).run P w=.ok (.round l f tmps assign body) w')
  (h:fV P (some l) [] (fun _ w2=>∃ v w3,(Instr.endRound l none).run P w2=.ok v w3∧fV P ro tgt S (.inRegion ops rest :: k) (a.put o.dst v) w3) [.code assign,.beginRound,.code body] ⟨tmps,[]⟩ w'):fV P ro tgt S (.inRegion ops (i :: rest) :: k) a w:=by
 intro b cs hb hro
 let br:Frame:={ (default:Frame) with fn:=f,kind:=.normal,roundOf:=some l }
 have hb0:Frame.round l f tmps assign body .normal=br.atR { tmps:=tmps,defers:=[] } [.code assign,.beginRound,.code body]:=by
  simp [Frame.round,Frame.atR,br]
 obtain ⟨a1,w2,⟨v,w3,hend,hR⟩,hst⟩:=h br (b.atR a (.inRegion ops (i :: rest) :: k) :: cs) rfl rfl
 obtain ⟨a',w4,hs,hst2⟩:=hR b cs hb hro
 have hg:=stepGR_op (P:=P) (b:=b) (a:=a) (k:=k) (cs:=cs) (w:=w) (rest:=rest) ho hw
 have henter:step P (lone (b.atR a (.inRegion ops (i :: rest) :: k)) cs w)=.next (lone (Frame.round l f tmps assign body .normal) (b.atR a (.inRegion ops (i :: rest) :: k) :: cs) w') :=
  step_lone_go (by rw [hg,Oper.semAt_eq _ _ _ hd];simp [stepG.apply,hr,Frame.atR])
 have hfin:(b.atR a (.inRegion ops (i :: rest) :: k)).finish v=b.atR (a.put o.dst v) (.inRegion ops rest :: k):=by rw [Frame.finish_atR,ho];rfl
 refine ⟨a',w4,hs,.head henter ?_⟩
 rw [hb0]
 refine Steps.trans hst (.head ?_ hst2)
 rw [← hfin]
 exact stepR_round_end rfl rfl hend
theorem FZ {l:Nat} {w':World} (hr:(Instr.beginRound l).run P w=.ok () w') (h:fV P (some l) tgt S k a w'):fV P (some l) tgt S (.beginRound :: k) a w :=
 mW (fun _ _ _ hb=>stepR_beginRound hb hr) h
theorem fV.mono {S':Act→World→Prop} {todo:List Item} (h:fV P ro tgt S todo a w) (hs:∀ a w,S a w→S' a w):fV P ro tgt S' todo a w:=fun b cs hb hr=>by
 obtain ⟨a',w',h1,h2⟩:=h b cs hb hr
 exact ⟨a',w',hs _ _ h1,h2⟩
theorem fV.bind {mid:List Item} {S':Act→World→Prop} {todo:List Item} (h:fV P ro mid S' todo a w) (hs:∀ a w,S' a w→fV P ro tgt S mid a w):fV P ro tgt S todo a w:=fun b cs hb hr=>by
 obtain ⟨a',w',h1,h2⟩:=h b cs hb hr
 obtain ⟨a2,w2,h3,h4⟩:=hs _ _ h1 b cs hb hr
 exact ⟨a2,w2,h3,Steps.trans h2 h4⟩
theorem Gs {todo:List Item} (h:fV P none tgt S todo a w):fA P tgt S todo a w:=fun b cs hb=>by
 obtain ⟨a',w',h1,h2⟩:=h { b with roundOf:=none } cs hb rfl
 exact ⟨a',w',h1,h2⟩
theorem GN {todo:List Item} (h:fA P tgt S todo a w):fV P none tgt S todo a w:=fun b cs hb hr=>by
 obtain ⟨a',w',h1,h2⟩:=h b cs hb
 refine ⟨a',w',h1,?_⟩
 rw [Frame.atR_of_none hr,Frame.atR_of_none hr]
 exact h2
theorem fA.bind {mid:List Item} {S':Act→World→Prop} {todo:List Item} (h:fA P mid S' todo a w) (hs:∀ a w,S' a w→fA P tgt S mid a w):fA P tgt S todo a w:=fun b cs hb=>by
 obtain ⟨a',w',h1,h2⟩:=h b cs hb
 obtain ⟨a2,w2,h3,h4⟩:=hs _ _ h1 b cs hb
 exact ⟨a2,w2,h3,Steps.trans h2 h4⟩
theorem Qp {l n:Nat} {x:Code} (h:x.wpIn (Fence.wide.inRound l) n P (fun e a' w'=>e=.normal∧fV P (some l) tgt S k a' w') a w):fV P (some l) tgt S (.code x :: k) a w:=by
 intro b cs hb hr
 obtain ⟨e,a1,w1,⟨rfl,hR⟩,harr⟩:=h b k cs hr trivial (room_wide _)
 obtain ⟨a',w',hs,hst⟩:=hR b cs hb hr
 exact ⟨a',w',hs,Steps.trans (StepsIn.steps harr) hst⟩
def jw (fn:FuncId) (tmps:Array Value) (ps:Array Tmp) (assign body:Code) (D:Nat) (st:LoopState) (pe:Option Code):Loop :=
 { state:=st,pending:=pe,fn,tmps,params:=ps,assign,body,defers:=D }
theorem FV {g:Operand} {ps:Array Tmp} {assign body:Code} {gf:Nat} {lb:Array Value} (hg:a.eval g=.func (.func gf) #[] lb) (eg:∀ args w,(callFunc gf args).run P w=.ok (.enter gf args) w)
  (h:∀ fn,Calls P gf (#[.func (.yield (w.heap.size+1)) #[] #[]] ++ lb) ((w.alloc (.deferred (some []))).alloc (.loop (jw fn a.tmps ps assign body w.heap.size .ready none))) fun e w3=>∃ v,e=.returned v ∧
   w3.heap[w.heap.size+1]? = some (.loop (jw fn a.tmps ps assign body w.heap.size .ready none)) ∧
   fA P tgt S k { a with defers:={ target:=.collected w.heap.size,args:=#[] } :: a.defers } (w3.putObj (w.heap.size+1) (.loop (jw fn a.tmps ps assign body w.heap.size .exhausted none)))) :
  fA P tgt S (.code (.rangeFunc g ps assign body) :: k) a w:=by
 refine aA (wpIn_wide.1 (wpIn_rangeFunc (n:=1) fun fn _=>?_))
 have hc:=h fn
 obtain ⟨W1,hW1⟩:∃ W1,(w.alloc (.deferred (some []))).alloc (.loop (jw fn a.tmps ps assign body w.heap.size .ready none))=W1:=⟨_,rfl⟩
 rw [hW1] at hc
 refine ⟨w.heap.size+1,[{ target:=.collected w.heap.size,args:=#[] }],W1,{ target:=.fn (.func gf) lb,args:=#[.func (.yield (w.heap.size+1)) #[] #[]] },W1,gf,
  #[.func (.yield (w.heap.size+1)) #[] #[]] ++ lb,W1,?_,?_,fun _ _=>trivial,?_,fun _=>Nat.le_refl _,callsIn_wide.2 ?_⟩
 ·rw [← hW1]
  exact run_enterLoop_outer _ _ _ _ _
 ·simp only [resolve,hg]
  simp [go_sem]
 ·simp [invoke,go_sem,eg]
 ·refine hc.mono ?_
  rintro e w3 ⟨v,rfl,h1,h2⟩
  exact ⟨none,_,run_endLoop h1 (by simp [jw]),rfl,h2⟩
def shutAll:List Nat→World→World
 | [],w=>w
 | d :: ds,w=>shutAll ds (w.putObj d (.deferred none))
def marks (ds:List Nat):List Deferred:=ds.map fun d=>{ target:=.collected d,args:=#[] }
theorem xk {ds:List Nat} {w:World} {j:Nat} (h:j ∉ ds):(shutAll ds w).heap[j]? = w.heap[j]?:=by
 induction ds generalizing w with
 | nil=>rfl
 | cons d ds ih =>
  rw [shutAll,ih (fun hj=>h (List.mem_cons_of_mem _ hj)),World.putObj_heap_other (fun e=>h (by rw [e];exact List.mem_cons_self ..))]
theorem Jo {ds:List Nat} {w:World}:(shutAll ds w).heap.size=w.heap.size:=by
 induction ds generalizing w with
 | nil=>rfl
 | cons d ds ih=>rw [shutAll,ih,World.putObj_size]
theorem Dp {ds:List Nat} {w:World}:(shutAll ds w).os=w.os∧(shutAll ds w).output=w.output:=by
 induction ds generalizing w with
 | nil=>exact ⟨rfl,rfl⟩
 | cons d ds ih=>rw [shutAll];exact ih
theorem MZ {fr:Frame} {cs:List Frame} {ds:List Nat} {w:World} (hm:fr.mode=.returning) (hd:fr.defers=marks ds) (hn:ds.Nodup) (hh:∀ d∈ds,w.heap[d]? = some (.deferred (some []))) :
  Steps P (lone fr cs w) (lone { fr with defers:=[] } cs (shutAll ds w)):=by
 induction ds generalizing fr w with
 | nil =>
  have:{ fr with defers:=[] }=fr:=by cases fr;simp only [marks,List.map_nil] at hd;subst hd;rfl
  rw [this]
  exact .refl _ _
 | cons d ds ih =>
  have h1:=step_collected (P:=P) (cs:=cs) (fr:=fr) (d:={ target:=.collected d,args:=#[] }) (ds:=marks ds) (by rw [hm];simp) hd rfl (run_takeDeferred (hh d (List.mem_cons_self ..)))
  have hnd:=List.nodup_cons.1 hn
  refine .head h1 ?_
  have:=ih (fr:={ fr with defers:=[] ++ marks ds }) (w:=w.putObj d (.deferred none)) hm rfl hnd.2 fun x hx=>by
   rw [World.putObj_heap_other (fun e=>hnd.1 (by rw [← e];exact hx))]
   exact hh x (List.mem_cons_of_mem _ hx)
  exact this
theorem yU {f:FuncId} {fn:Func} {c:Code} {args:Array Value} {R:Ending→World→Prop} {k0:List Item} (hf:P.funcs[f]? = some fn) (hb:fn.body=some c)
  (h:fA P (.code .ret :: k0) (fun a' w'=>∃ ds v,a'.defers=marks ds∧ds.Nodup∧(∀ d∈ds,w'.heap[d]? = some (.deferred (some [])))∧(results fn a'.tmps).run P (shutAll ds w')=.ok v (shutAll ds w')∧R (.returned v) (shutAll ds w'))
   [.code c] { tmps:=args ++ Array.replicate (fn.ntmps - args.size) undef,defers:=[] } w):Calls P f args w R:=by
 intro cs
 let b:Frame:={ (default:Frame) with fn:=f,kind:=.normal,roundOf:=none }
 have henter:Frame.enter P f args .normal=b.at { tmps:=args ++ Array.replicate (fn.ntmps - args.size) undef,defers:=[] } [.code c]:=by
  simp [Frame.enter,Frame.at,hf,hb,b]
 obtain ⟨a',w',⟨ds,v,hd,hn,hh,hrs,hR⟩,hst⟩:=h b cs rfl
 refine ⟨.returned v,shutAll ds w',{ { b.at a' (.code .ret :: k0) with mode:=.returning } with defers:=[] },hR,?_,rfl,?_⟩
 ·rw [henter]
  refine Steps.trans hst (.head (m₁:=lone { b.at a' (.code .ret :: k0) with mode:=.returning } cs w') ?_ (MZ rfl hd hn hh))
  have:=stepR_ret (P:=P) (b:=b) (a:=a') (k:=k0) (cs:=cs) (w:=w') rfl
  exact this
 ·exact ⟨rfl,rfl,rfl,fn,hf,hrs⟩
end
def EP (o:Oper):Bool:=match o.op with
 | .defer _=>false
 | _=>true
theorem LW {o:Oper} (h:EP o=true):∀ c,o.op≠.defer c:=by
 intro c hc
 simp [EP,hc] at h
theorem O5 {l n:Nat} {row:String} {args:Array Value} {w:World} {R:Value→World→Prop} (h:Rows P row args w R):RowsIn (Fence.wide.inRound l) n P row args w R:=fun c cs _=>by
 obtain ⟨v,w',r,s⟩:=h c cs
 exact ⟨v,w',r,stepsIn_wide.2 s⟩
theorem Xk {l n:Nat} {o:Oper} {a:Act} {next next':Act→World→Prop} {Q:Exit→Act→World→Prop} {r:Result Next} (hn:∀ a w,next a w→next' a w) (h:o.upon P a next Q r):o.uponIn (Fence.wide.inRound l) n P a next' Q r:=by
 cases r with
 | ok nx w' =>
  cases nx with
  | value v=>exact hn _ _ h
  | skip=>exact hn _ _ h
  | defer d=>exact hn _ _ h
  | enter f args =>
   refine And.intro (fun h=>Bool.noConfusion (show false=true from h)) (callsIn_wide.2 (Calls.mono h fun e w'' he=>?_))
   cases e with
   | returned v=>exact hn _ _ he
   | panicked c=>exact he
   | outgrown=>exact he
  | row row args=>exact And.intro (fun h=>Bool.noConfusion (show false=true from h)) (O5 (Rows.mono h fun u w'' he=>hn _ _ he))
  | _=>exact h.elim
 | halt x w' =>
  cases x with
  | panic u=>exact h
  | _=>exact h.elim
theorem Yp {l n:Nat} {o:Oper} {a:Act} {w:World} {next next':Act→World→Prop} {Q:Exit→Act→World→Prop} (hd:EP o=true) (hn:∀ a w,next a w→next' a w) (h:o.wp P a w next Q):o.wpIn (Fence.wide.inRound l) n P a w next' Q:=by
 refine ⟨fun _ _=>trivial,?_⟩
 have e:o.semAt (Fence.wide.inRound l).round a.eval=execOp a.eval o:=Oper.semAt_eq _ _ _ (LW hd)
 rw [e]
 exact Xk hn h
theorem Am {l n:Nat} {ops:Array Oper} {Q:Exit→Act→World→Prop} (hQ:¬ LetsOut Q):∀ (os:List Oper),os.all EP=true→∀ (a:Act) (w:World),wpList P ops Q os a w→wpListIn (Fence.wide.inRound l) n P ops Q os a w
 | [],_,_,_,h=>h
 | o :: os,hd,a,w,h=>by
  rw [List.all_cons,Bool.and_eq_true] at hd
  simp only [wpList,wpListIn] at h ⊢
  split at h
  ·rename_i hw
   rw [if_pos hw]
   rcases h with h | h
   ·exact Yp hd.1 (fun a w h=>Am hQ os hd.2 a w h) h
   ·exact (hQ h.2).elim
  ·rename_i hw
   rw [if_neg hw]
   exact ⟨fun _ _=>trivial,Am hQ os hd.2 _ _ h⟩
theorem zk {l n:Nat} {ops:Array Oper} {Q:Exit→Act→World→Prop} (hQ:¬ LetsOut Q) (hd:∀ (i:Nat) (o:Oper),ops[i]? = some o→EP o=true):∀ (is:List Nat) (a:Act) (w:World),wpOps P ops Q is a w→wpOpsIn (Fence.wide.inRound l) n P ops Q is a w
 | [],_,_,h=>h
 | i :: is,a,w,h=>by
  simp only [wpOps,wpOpsIn] at h ⊢
  cases ho:ops[i]? with
  | none =>
   simp only [ho] at h ⊢
   exact zk hQ hd is a w h
  | some o =>
   simp only [ho] at h ⊢
   split at h
   ·rename_i hw
    rw [if_pos hw]
    rcases h with h | h
    ·exact Yp (hd i o ho) (fun a w h=>zk hQ hd is a w h) h
    ·exact (hQ h.2).elim
   ·rename_i hw
    rw [if_neg hw]
    exact ⟨fun _ _=>trivial,zk hQ hd is _ _ h⟩
section
variable {tgt k:List Item} {S:Act→World→Prop} {a:Act} {w:World} {l:Nat}
theorem YC {R:Act→World→Prop}:¬ LetsOut (fun e a' w'=>e=Exit.normal∧R a' w'):=fun ⟨_,_,h⟩=>nomatch h.1
theorem qF {id:Nat} {os:List Oper} (hd:os.all EP=true) (h:wpList P os.toArray (fun e a' w'=>e=.normal∧fV P (some l) tgt S k a' w') os a w):fV P (some l) tgt S (.code (.region id os.toArray false) :: k) a w :=
 Qp (n:=0) (wpIn_region_lit (Am YC _ hd _ _ h))
theorem Yg {id:Nat} {os:List Oper} {S0:World→Prop} (bs:List Bool) (hb:bs=List.replicate os.length false) (hm:P.follows .mixedOrders=true) (hd:os.all EP=true)
  (h:wpAnyH P .any os.toArray (fun e a' w'=>e=.normal∧fV P (some l) tgt S k a' w') S0 os.length bs.toArray a { w with drawn:=w.drawn+1 }):fV P (some l) tgt S (.code (.region id os.toArray true) :: k) a w:=by
 subst hb
 have e:(List.replicate os.length false).toArray=Array.replicate os.toArray.size false:=by apply Array.ext';simp
 rw [e,show os.length=os.toArray.size by simp] at h
 refine Qp (n:=0) (wpIn_region_draw fun t=>?_)
 refine zk YC (fun i o ho=>?_) _ _ _ ?_
 ·have:os[i]? = some o:=by simpa using ho
  exact List.all_eq_true.1 hd o (List.mem_of_getElem? this)
 ·simp only [Region.schedule,hm,Bool.true_or,if_true]
  exact wpAny_sound _ t _ a _ (wpAny_of_held _ _ _ _ h)
end
end Go.Tm
namespace Go.Proofs.YtjjmefieegcddaaDoor
open Go.RowKit Go.Wg Go.Mm Go.Wk
open Go Go.Sr Go.Ph Go.Tm Go.Conc
variable {w:World} {V:View}
def Vw (V:View) (j:Nat) (o:Obj):View:=fun i=>if i=j then some o else V i
theorem Vw.same (V:View) (j:Nat) (o:Obj):Vw V j o j=some o:=by simp [Vw]
theorem Vw.other (V:View) {i j:Nat} (o:Obj) (h:i≠j):Vw V j o i=V i:=by simp [Vw,h]
theorem Jp {w0:World} {X:List Nat} {L:List dF} {j:Nat} {o:Obj} (h:St w0 X V L w) (hj:w0.heap.size≤j) (hv:V j=some o) (o':Obj):St w0 X (Vw V j o') L (w.putObj j o'):=by
 have hlt:j < w.heap.size:=lt_of_heap (h.view j o hv)
 have hne:∀ e∈L,∀ b,e.foot=some b→b≠j:=fun e he b hb hbj=>by
  have:=h.off e he b hb
  rw [hbj,hv] at this
  cases this
 refine ⟨h.os,h.output,by rw [World.putObj_size];exact h.size,fun k hk hx=>?_,fun k u hk=>?_,fun e he=>?_,h.new,fun e he b hb=>?_,h.nd⟩
 ·rw [World.putObj_heap_other (by omega)]
  exact h.old k hk hx
 ·by_cases e:k=j
  ·subst e
   rw [Vw.same] at hk
   cases hk
   exact World.putObj_heap_same hlt
  ·rw [Vw.other V o' e] at hk
   rw [World.putObj_heap_other e]
   exact h.view k u hk
 ·exact (h.has e he).of_heap fun g hg=>World.putObj_heap_other (hne e he g hg)
 ·rw [Vw.other V o' (hne e he b hb)]
  exact h.off e he b hb
theorem Vw.back {V:View} {j:Nat} {o o':Obj} (hv:V j=some o):∀ k u,V k=some u→Vw (Vw V j o') j o k=some u:=fun k u hk=>by
 by_cases e:k=j
 ·subst e;rw [Vw.same];rw [hv] at hk;exact hk
 ·rw [Vw.other _ _ e,Vw.other _ _ e];exact hk
theorem Vw.sub {V:View} {j:Nat} {o:Obj} (hv:V j=none):∀ k u,V k=some u→Vw V j o k=some u:=fun k u hk=>by
 by_cases e:k=j
 ·subst e;rw [hv] at hk;cases hk
 ·rw [Vw.other _ _ e];exact hk
theorem LD {o:Oper} {ρ:Operand→Value} {x y:Operand} {ats:Array TypeId} {l:Nat} {r:Loop} {v:Value} (ho:o.op=.call { callee:=.value x,args:=#[y],argTypes:=ats }) (hx:ρ x=.func (.yield l) #[] #[]) (hy:ρ y=v)
  (h:w.heap[l]? = some (.loop r)) (hs:r.params.size=1):(execOp ρ o).run Tryd.prog w=.ok (.round l r.fn ((r.params.zip #[v]).foldl (fun t (p,u)=>t.setIfInBounds p u) r.tmps) r.assign r.body) w:=by
 have hr:=run_yield (P:=Tryd.prog) (args:=#[v]) h (by rw [hs];rfl)
 unfold execOp
 simp [ho,resolve,invoke,hx,hy,go_sem,hr]
theorem kP (ti:Nat) (w:World):Calls Tryd.prog 94 #[ptr ti] w fun e w'=>∃ g,e=.returned (.func (.func 121) #[] #[ptr g])∧Kp w w'∧w.heap.size≤g∧w'.heap[g]? = some (.cells [ptr ti].toArray 124 (0,0)):=by
 have hS:=St.start w (fun _=>none) (fun k o h=>by cases h)
 unfold ptr
 go_enter Tryd.func94,Tryd.ntmps94
 go_wp2_with ((with_reducible refine gB ?_);refine iK 1 rfl hS rfl rfl rfl ?_;refine ⟨_,za,?_⟩;clear hS;(try clear w');intro b1;refine zF ?_;intro w' hS)
 ((try simp only [Exit.inBlock,Exit.then]);(try refine aB ?_);refine bK ⟨_,by exact bH (r1:=.tmp 2) (by kernel_rfl) (by exact bD rfl),?_⟩ rfl)
 exact ⟨b1,rfl,hS.bM,hS.newAt (b:=b1),hS.dR (b:=b1)⟩
def Jq (w0:World) (V:View) (kb:Nat) (c:List Nat→List Value) (lr:Nat) (rec:Loop) (n:Nat) (ts:List Nat):Prop :=
 ∀ V':View,(∀ j u,V j=some u→V' j=some u)→∀ (pre:List Nat) (x:Nat) (w:World),x < n→St w0 [] V' [.blk kb 4 (c pre)] w →
  fV Tryd.prog (some lr) [] (fun _ w2=>∃ w3,(Instr.endRound lr none).run Tryd.prog w2=.ok (.bool true) w3∧St w0 [] V' [.blk kb 4 (c (pre ++ [x]))] w3)
   [.code rec.assign,.beginRound,.code rec.body] ⟨(rec.params.zip #[ptr (ts.getD x 0)]).foldl (fun t (p,u)=>t.setIfInBounds p u) rec.tmps,[]⟩ w
noncomputable def abh:Code:=match Tryd.f122.body with | some c=>c | none=>.skip
theorem Xq {p:Nat} {k:Wk} {ts:List Nat} {vv rv:Value} (hC:zO V p k ts vv rv) (hok:k.Ok) {w0:World} {kb lr by_ bf:Nat} {c:List Nat→List Value} {rec:Loop}
  (hby:V.Cell by_ 0 (.func (.yield lr) #[] #[])) (hbf:V.Cell bf 0 (.func (.func 122) #[] #[ptr by_,ptr bf])) (hrec:V lr=some (.loop rec)) (hps:rec.params.size=1) (hround:Jq w0 V kb c lr rec k.n ts) :
  ∀ (f i:Nat),i < k.n→k.n - i≤f→∀ pre w,St w0 [] V [.blk kb 4 (c pre)] w →
   Calls Tryd.prog 122 #[ptr (ts.getD i 0),ptr by_,ptr bf] w fun e w'=>e=.returned (.bool true)∧St w0 [] V [.blk kb 4 (c (pre ++ Cb k f i))] w':=by
 intro f
 induction f with
 | zero=>intro i hi hf;omega
 | succ f ih =>
  intro i hi hf pre w hS
  have hR:=hround V (fun _ _ h=>h) pre i w hi hS
  obtain ⟨fv,hf5,hfs⟩:=hC.fil i hi
  obtain ⟨fa,fcap,rfl,hfc,hfm,hfe⟩:=hfs.is
  have hfl2:(k.fills i).length≤6:=by
   have:=wL k i
   have:=hC.le
   omega
  refine yU (k0:=[]) Tryd.func122 (show Tryd.f122.body=some abh from rfl) ?_
  have e22:Tryd.f122.ntmps - (#[ptr (ts.getD i 0),ptr by_,ptr bf]:Array Value).size=22:=by kernel_rfl
  rw [e22]
  have hcy:=hby.cell hS.view
  have hcl:=hS.view lr _ hrec
  unfold ptr at *
  generalize ts.getD i 0=ti at *
  simp only [Array.replicate_succ,Array.replicate_zero,List.push_toArray,List.append_toArray,List.nil_append,List.cons_append]
  refine au (aA ?_)
  go_wp2_with (fail)
  refine au (au (ig ?_))
  refine cO (i:=0) (v:=.func (.yield lr) #[] #[]) (w':=w) rfl rfl (fP rfl rfl (by kernel_rfl) hcy) ?_
  refine cO (i:=1) (v:=.pointer (some ⟨ti,0,none⟩)) (w':=w) rfl rfl rfl ?_
  refine Gs (UO (i:=2) rfl rfl (LW rfl) (LD rfl rfl rfl hcl hps) (hR.mono ?_))
  rintro a w2 ⟨w3,hend,hS3⟩
  refine ⟨_,w3,hend,GN ?_⟩
  clear hS hR hcy hcl
  have hS:=hS3
  clear hS3
  refine cO (i:=3) (v:=.bool false) (w':=w3) rfl rfl rfl ?_
  refine dH (dZ (t:=false) rfl (lu ?_))
  have HB:Cb k (f+1) i=i :: (k.fills i).flatMap (Cb k f):=by rw [Cb]
  have hmem:∀ q,q < (k.fills i).length→i < (k.fills i).getD q 0∧(k.fills i).getD q 0 < k.n:=fun q hq=>by
   refine rV hok ?_
   rw [List.getD_eq_getElem?_getD,List.getElem?_eq_getElem hq]
   exact List.getElem_mem _
  have hihq:=fun q (hq:q < (k.fills i).length) pre w hS=>ih ((k.fills i).getD q 0) (hmem q hq).2 (by have:=(hmem q hq).1;omega) pre w hS
  have hst:∀ q,q < (k.fills i).length→pre ++ [i] ++ ((k.fills i).take (q+1)).flatMap (Cb k f)=pre ++ [i] ++ ((k.fills i).take q).flatMap (Cb k f) ++ Cb k f ((k.fills i).getD q 0):=fun q hq=>by
   rw [List.take_add_one,List.getElem?_eq_getElem hq,List.flatMap_append,List.getD_eq_getElem?_getD,List.getElem?_eq_getElem hq]
   simp
  have hS0:St w0 [] V [.blk kb 4 (c (pre ++ [i] ++ ((k.fills i).take 0).flatMap (Cb k f)))] w3:=by simpa using hS
  have hfin:pre ++ Cb k (f+1) i=pre ++ [i] ++ ((k.fills i).take (k.fills i).length).flatMap (Cb k f):=by rw [HB,List.take_length];simp
  rw [hfin]
  clear HB hmem ih hround hS hfin
  have hS:=hS0
  clear hS0
  generalize hfl:k.fills i=fl at *
  refine au (aA ?_)
  go_wp2_with (((with_reducible refine gL ?_);refine nC hS rfl rfl rfl ?_);refine ⟨_,zd,?_⟩;clear hS;(try clear w');refine zF ?_;intro w' hS)
  go_loopw [16] (fun qv wr=>∃ q:Nat,q≤fl.length∧qv=.int .i64 (q:Int)∧St w0 [] V [.blk kb 4 (c (pre ++ [i] ++ (fl.take q).flatMap (Cb k f)))] wr) (fun qv _=>fl.length - (intOf qv).toNat)
  case atStart=>exact ⟨0,by omega,rfl,hS⟩
  case round =>
   clear hS
   obtain ⟨q,hq,rfl,hS⟩:=hrel
   by_cases hql:q < fl.length
   ·have hq1:(q:Int) < fl.length:=by omega
    have hq0:(0:Int)≤q:=by omega
    obtain ⟨fg,fo,rfl,hfr⟩:=hfe (by omega)
    have hpx:=hfr q hql 0 _ rfl
    have hihx:=hihq q hql
    have hstq:=hst q hql
    simp only [Nat.mul_one,Nat.add_zero] at hpx
    generalize ts.getD (fl.getD q 0) 0=tx at hpx hihx
    generalize Cb k f (fl.getD q 0)=br at hihx hstq
    generalize pre ++ [i] ++ (fl.take q).flatMap (Cb k f)=cur at hS hstq
    clear hfr hihq hst hfe
    replace hstq:=aj hstq
    go_wp2_with (first | (((with_reducible refine gL ?_);refine nC hS rfl rfl rfl ?_);refine ⟨_,zd,?_⟩;clear hS;(try clear w');refine zF ?_;intro w' hS) | (go_at_call 122;refine (hihx _ _ hS).mono ?_;clear hihx hS;(try clear w');rintro e w' ⟨rfl,hS⟩))
    go_roundw
    case rel=>exact ⟨q+1,by omega,by go_num,by rw [hstq.out];exact hS⟩
    case measure=>simp only [intOf];omega
   ·obtain rfl:q=fl.length:=by omega
    clear hihq hst hfe
    go_wp2_with (fail)
    refine au (aA ?_)
    go_wp2_with (fail)
    refine bG (tgt:=[.code .ret]) ?_
    refine ⟨[],rfl,List.nodup_nil,(fun d hd=>nomatch hd),.bool true,?_,rfl,?_⟩
    ·exact results_tmp (t:=4) rfl _ _ _
    ·simp only [List.take_length,List.append_assoc,List.cons_append,List.nil_append] at hS
     exact hS
theorem XZ {p:Nat} {k:Wk} {ts:List Nat} {vv rv:Value} (hC:zO V p k ts vv rv) (hok:k.Ok) {w0:World} {kb lr bt:Nat} {c:List Nat→List Value} {rec:Loop} (i:Nat) (hi:i < k.n)
  (hbt:V.Cell bt 0 (ptr (ts.getD i 0))) (hrec:V lr=some (.loop rec)) (hps:rec.params.size=1) (hround:Jq w0 V kb c lr rec k.n ts) (pre:List Nat) (hS:St w0 [] V [.blk kb 4 (c pre)] w) :
  Calls Tryd.prog 121 #[.func (.yield lr) #[] #[],ptr bt] w fun e w'=>∃ v,e=.returned v∧St w0 [] V [.blk kb 4 (c (pre ++ Cb k (k.n - i) i))] w':=by
 have hfr:=fun V1 (hV1:∀ j u,V j=some u→V1 j=some u) by_ bf h1 h2 w hS=>Xq (V:=V1) (hC.mono hV1) hok (w0:=w0) (kb:=kb) (lr:=lr) (by_:=by_) (bf:=bf) (c:=c) (rec:=rec) h1 h2 (hV1 _ _ hrec) hps (fun V' h=>hround V' fun j u hj=>h j u (hV1 j u hj)) (k.n - i) i hi (Nat.le_refl _) pre w hS
 unfold ptr at *
 generalize ts.getD i 0=ti at *
 clear hround
 go_enter Tryd.func121,Tryd.ntmps121
 go_wp2_with (first | (first | ((first | ((with_reducible refine gL ?_);first | refine gY hS rfl rfl rfl ?_ | refine nC hS rfl rfl rfl ?_) | ((with_reducible refine gS ?_);refine pX hS rfl rfl rfl ?_));refine ⟨_,zd,?_⟩;clear hS;(try clear w');refine zF ?_;intro w' hS;(try simp only [sE] at hS)) | ((first | ((with_reducible refine gA ?_);refine dM hS rfl rfl ?_) | ((with_reducible refine gB ?_);refine jQ hS rfl rfl rfl ?_;refine ⟨_,za,?_⟩));clear hS;(try clear w');intro _;refine zF ?_;intro w' hS)) | (go_at_call 122;obtain ⟨V1,hV1,hc1,hS1⟩:=pin hS;obtain ⟨V2,hV2,hc2,hS2⟩:=pin hS1;refine (hfr V2 (fun j u h=>hV2 _ _ (hV1 _ _ h)) _ _ (hc2 0 _ rfl) ((hc1 0 _ rfl).mono hV2) _ hS2).mono ?_;clear hS hS1 hS2;(try clear w');rintro e w' ⟨rfl,hS⟩))
 ((try simp only [Exit.inBlock,Exit.then]);(try refine aB ?_);refine bK ⟨_,by exact FB  (by kernel_rfl),?_⟩ rfl)
 exact ⟨_,rfl,hS.weaken fun j u h=>hV2 _ _ (hV1 _ _ h)⟩
noncomputable def B34:Code:=match Tryd.f34.body with | some c=>c | none=>.skip
noncomputable def K6:Code:=match B34 with | .seq _ (.seq _ (.seq _ (.seq _ (.seq _ r))))=>r | _=>.skip
noncomputable def KL:Code:=match K6 with | .seq (.seq _ (.block _ (.loop l))) _=>l | _=>.skip
noncomputable def KT:Code:=match K6 with | .seq _ r=>r | _=>.skip
noncomputable def KSc:Code:=match KL with | .seq _ (.seq _ (.seq (.block _ (.seq _ (.scope c))) _))=>c | _=>.skip
noncomputable def Z7:Code:=match KL with | .seq _ (.seq _ (.seq _ c))=>c | _=>.skip
noncomputable def KA:Code:=match KSc with | .seq _ (.seq _ (.block _ (.rangeFunc _ _ a _)))=>a | _=>.skip
noncomputable def KB:Code:=match KSc with | .seq _ (.seq _ (.block _ (.rangeFunc _ _ _ b)))=>b | _=>.skip
noncomputable def KIL:Code:=match KB with | .block _ (.seq _ (.seq (.seq _ (.block _ (.loop l))) _))=>l | _=>.skip
noncomputable def Zr:Code:=match KB with | .block _ (.seq _ (.seq _ c))=>c | _=>.skip
theorem OW {lr lb b7 kb tx x:Nat} {k:Wk} {l pre:List Nat} {ts fl:List Nat} {w0:World} {fa:Option Addr} {fcap:Nat} {p:Nat} {vv rv:Value} (hC:zO V p k ts vv rv) (hl6:l.length=6) (hlb:V.Range lb 0 (mM l)) (hb7:V.Cell b7 0 (.slice (some ⟨kb,0,none⟩) k.n k.n))
  (hx:x < k.n) (hn6:k.n≤6) (hnum:V.Cell tx 4 (.int .i64 (x:Int))) (hfl:k.fills x=fl) (hfl2:fl.length≤6) (hx0:l.getD x 0=0)
  (hfe:0 < fl.length→∃ g off,fa=some ⟨g,off,none⟩∧∀ i,i < fl.length→V.Range g (off+i * 1) [ptr (ts.getD (fl.getD i 0) 0)]) :
  ∀ (m q:Nat),q+m=fl.length→(∀ j,j < q→l.getD (fl.getD j 0) 0≠0)→∀ (w:World) (f:Nat→Value),St w0 [] V [.blk kb 4 (Cj k l pre)] w →
   fV Tryd.prog (some lr) [] (fun _ w'=>St w0 [] V [.blk kb 4 (Cj k l (pre ++ [x]))] w') [.code KIL,.inLoop KIL,.inBlock 4,.code Zr,.inBlock 3]
    ⟨#[f 0,f 1,f 2,f 3,f 4,f 5,.pointer (some ⟨lb,0,none⟩),.pointer (some ⟨b7,0,none⟩),f 8,f 9,.pointer (some ⟨tx,0,none⟩),f 11,f 12,f 13,f 14,f 15,f 16,f 17,f 18,f 19,f 20,f 21,f 22,f 23,f 24,f 25,f 26,f 27,f 28,f 29,f 30,f 31,f 32,f 33,f 34,f 35,f 36,f 37,f 38,f 39,f 40,f 41,f 42,f 43,f 44,f 45,f 46,f 47,f 48,f 49,f 50,f 51,f 52,f 53,.slice fa fl.length fcap,.int .i64 fl.length,.int .i64 q,f 57,f 58,f 59,f 60,f 61,f 62,f 63,f 64,f 65,f 66,f 67,f 68,f 69,f 70,f 71,f 72,f 73,f 74,f 75,f 76,f 77,f 78,f 79,f 80,f 81,f 82,f 83,f 84,f 85,f 86,f 87,f 88],[]⟩ w:=by
 intro m
 induction m with
 | zero =>
  intro q hq hall w f hS
  obtain rfl:q=fl.length:=by omega
  have hkn:nG k l x=true:=by
   unfold nG
   rw [hx0,hfl]
   simp only [beq_self_eq_true,Bool.true_and,List.all_eq_true]
   intro y hy
   obtain ⟨j,hj,rfl⟩:=List.getElem_of_mem hy
   have e:fl.getD j 0=fl[j]:=by simp [List.getD_eq_getElem?_getD,hj]
   have:=hall j hj
   rw [e] at this
   simpa using this
  have HS:=X0 k l pre hx hkn
  have HN:=zC k l pre
  have h0:(0:Int)≤x:=by omega
  have h1:(x:Int) < k.n:=by omega
  replace HS:=aj HS
  clear hall hkn hfe
  refine pV (qF rfl ?_)
  go_wp2_with (fail)
  refine pV (wM (t:=false) rfl (JQ rfl ?_))
  (refine Yg (S0:=(St w0 [] V [])) [false,false,false,false,false,false,false] rfl (by kernel_rfl) rfl ?_;replace hS:=St.eY hS;(iterate 6 ((first | refine hxc 0 rfl ?_ | refine hxm 1 rfl ?_ | refine hxp 2 rfl ?_ | refine hxp 3 rfl ?_ | refine hxc 4 rfl ?_ | refine hxp 5 rfl ?_);refine zH ?_));(((refine jl 6 (by kernel_rfl) rfl hS rfl  rfl rfl ?_;refine ⟨_,zd,?_⟩));clear hS;(try clear w');refine zH ?_;intro w' hS;(try simp only [sE] at hS);refine ⟨(St.aG hS),?_⟩);refine wpAnyH_done (by kernel_rfl) ?_ _)
  refine ⟨rfl,?_⟩
  refine EO (Jj (tgt:=[]) ?_)
  rw [← HS.out]
  exact hS
 | succ m ih =>
  intro q hq hall w f hS
  have hql:q < fl.length:=by omega
  have hq1:(q:Int) < fl.length:=by omega
  have hq0:(0:Int)≤q:=by omega
  obtain ⟨fg,fo,rfl,hfr⟩:=hfe (by omega)
  have hpx:=hfr q hql 0 _ rfl
  simp only [Nat.mul_one,Nat.add_zero] at hpx
  have hym:fl.getD q 0∈k.fills x:=by
   rw [hfl,List.getD_eq_getElem?_getD,List.getElem?_eq_getElem hql]
   exact List.getElem_mem _
  have hyn:fl.getD q 0 < k.n:=List.mem_range.1 (List.mem_filter.1 hym).1
  have hlast:∀ j,j < q+1→l.getD (fl.getD q 0) 0≠0→l.getD (fl.getD j 0) 0≠0:=fun j hj h=>by
   rcases Nat.lt_succ_iff_lt_or_eq.1 hj with h1 | rfl
   ·exact hall j h1
   ·exact h
  have hihq:=fun (h:l.getD (fl.getD q 0) 0≠0)=>ih (q+1) (by omega) (fun j hj=>hlast j hj h)
  have hmiss:l.getD (fl.getD q 0) 0=0→nG k l x=false:=fun h=>by
   unfold nG
   rw [Bool.and_eq_false_iff]
   refine .inr ?_
   rw [List.all_eq_false]
   exact ⟨_,hym,by rw [h];decide⟩
  have hty:=hC.tun _ hyn 4 _ rfl
  simp only [Nat.zero_add] at hty
  generalize hgy:fl.getD q 0=y at hpx hyn hihq hmiss hty
  generalize ts.getD y 0=ty at hpx hty
  have hy6:(y:Int) < 6:=by omega
  have hy0:(0:Int)≤y:=by omega
  have hly:=hlb y (.int .u64 (l.getD y 0:Nat)) (wF (l:=l) (i:=y) (by omega))
  rw [Nat.zero_add] at hly
  clear hfr hall hlast ih hfe
  unfold ptr at hpx
  refine pV (qF rfl ?_)
  go_wp2_with (fail)
  refine pV (wM (t:=true) rfl (JJ ?_))
  refine pV (EM (pV (qF rfl ?_)))
  go_wp2_with (((with_reducible refine gL ?_);refine nC hS rfl rfl rfl ?_);refine ⟨_,zd,?_⟩;clear hS;(try clear w');refine zF ?_;intro w' hS)
  refine pV (qF rfl ?_)
  by_cases hz:l.getD y 0=0
  ·rw [hz] at hly
   have HM:=JW k l pre (hmiss hz)
   clear hihq hmiss
   go_wp2_with (((with_reducible refine gL ?_);refine nC hS rfl rfl rfl ?_);refine ⟨_,zd,?_⟩;clear hS;(try clear w');refine zF ?_;intro w' hS)
   refine wM (t:=true) rfl (JQ rfl (Jj (tgt:=[]) ?_))
   rw [← HM]
   exact hS
  ·have hih:=hihq hz
   have hzb:(((l.getD y 0:Nat):Int) == 0)=false:=by rw [beq_eq_false_iff_ne];omega
   clear hihq hmiss
   generalize l.getD y 0=ly at hly hz hzb
   go_wp2_with (((with_reducible refine gL ?_);refine nC hS rfl rfl rfl ?_);refine ⟨_,zd,?_⟩;clear hS;(try clear w');refine zF ?_;intro w' hS)
   refine wM (t:=false) rfl (JJ (EO ?_))
   refine qF rfl ?_
   go_wp2_with (fail)
   refine Tf ?_
   have key:∀ (a:Act) (u:World),St w0 [] V [.blk kb 4 (Cj k l pre)] u→a=⟨#[a.tmps.getD 0 undef,a.tmps.getD 1 undef,a.tmps.getD 2 undef,a.tmps.getD 3 undef,a.tmps.getD 4 undef,a.tmps.getD 5 undef,.pointer (some ⟨lb,0,none⟩),.pointer (some ⟨b7,0,none⟩),a.tmps.getD 8 undef,a.tmps.getD 9 undef,.pointer (some ⟨tx,0,none⟩),a.tmps.getD 11 undef,a.tmps.getD 12 undef,a.tmps.getD 13 undef,a.tmps.getD 14 undef,a.tmps.getD 15 undef,a.tmps.getD 16 undef,a.tmps.getD 17 undef,a.tmps.getD 18 undef,a.tmps.getD 19 undef,a.tmps.getD 20 undef,a.tmps.getD 21 undef,a.tmps.getD 22 undef,a.tmps.getD 23 undef,a.tmps.getD 24 undef,a.tmps.getD 25 undef,a.tmps.getD 26 undef,a.tmps.getD 27 undef,a.tmps.getD 28 undef,a.tmps.getD 29 undef,a.tmps.getD 30 undef,a.tmps.getD 31 undef,a.tmps.getD 32 undef,a.tmps.getD 33 undef,a.tmps.getD 34 undef,a.tmps.getD 35 undef,a.tmps.getD 36 undef,a.tmps.getD 37 undef,a.tmps.getD 38 undef,a.tmps.getD 39 undef,a.tmps.getD 40 undef,a.tmps.getD 41 undef,a.tmps.getD 42 undef,a.tmps.getD 43 undef,a.tmps.getD 44 undef,a.tmps.getD 45 undef,a.tmps.getD 46 undef,a.tmps.getD 47 undef,a.tmps.getD 48 undef,a.tmps.getD 49 undef,a.tmps.getD 50 undef,a.tmps.getD 51 undef,a.tmps.getD 52 undef,a.tmps.getD 53 undef,.slice (some ⟨fg,fo,none⟩) fl.length fcap,.int .i64 fl.length,.int .i64 ((q:Int)+1),a.tmps.getD 57 undef,a.tmps.getD 58 undef,a.tmps.getD 59 undef,a.tmps.getD 60 undef,a.tmps.getD 61 undef,a.tmps.getD 62 undef,a.tmps.getD 63 undef,a.tmps.getD 64 undef,a.tmps.getD 65 undef,a.tmps.getD 66 undef,a.tmps.getD 67 undef,a.tmps.getD 68 undef,a.tmps.getD 69 undef,a.tmps.getD 70 undef,a.tmps.getD 71 undef,a.tmps.getD 72 undef,a.tmps.getD 73 undef,a.tmps.getD 74 undef,a.tmps.getD 75 undef,a.tmps.getD 76 undef,a.tmps.getD 77 undef,a.tmps.getD 78 undef,a.tmps.getD 79 undef,a.tmps.getD 80 undef,a.tmps.getD 81 undef,a.tmps.getD 82 undef,a.tmps.getD 83 undef,a.tmps.getD 84 undef,a.tmps.getD 85 undef,a.tmps.getD 86 undef,a.tmps.getD 87 undef,a.tmps.getD 88 undef],[]⟩→fV Tryd.prog (some lr) [] (fun _ w'=>St w0 [] V [.blk kb 4 (Cj k l (pre ++ [x]))] w') [.code KIL,.inLoop KIL,.inBlock 4,.code Zr,.inBlock 3] a u:=fun a u hS ha=>by
    have h1:=hih _ (fun j=>a.tmps.getD j undef) hS
    rw [ha]
    exact h1
   exact key _ _ hS rfl
end Go.Proofs.YtjjmefieegcddaaDoor
