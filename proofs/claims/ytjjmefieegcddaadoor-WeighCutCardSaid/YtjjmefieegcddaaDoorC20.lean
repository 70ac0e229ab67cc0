/- A part of the proof: W38, W39, W40, W41, T24, W42. -/
import Derived.Test.YtjjmefieegcddaaDoorC19
import Derived.Test.YtjjmefieegcddaaDoorC18
import Derived.Defers
import Derived.Test.YtjjmefieegcddaaDoorC15
import Derived.Test.YtjjmefieegcddaaDoorC11
set_option linter.unusedVariables false
set_option linter.unusedSimpArgs false
set_option maxHeartbeats 8000000
namespace Go.Proofs.YtjjmefieegcddaaDoor
open Go.RowKit Go.Wg Go.Mm Go.Wk
open Go Go.Sr Go.Ph Go.Tm Go.Conc
theorem WA {c:Nat} {D0 wr0:Nat→Prop} {vs:List Value} {w:World} {Q:wY} {b:Frame} {a:Act} {k:List Item} {cs:List Frame} {id:Nat} {ops:Array Oper} (h:∀ l∈orders ops,oK Tryd.prog c D0 wr0 vs (G (b.at a (.inRegion ops l :: k)) cs) w Q) :
  oK Tryd.prog c D0 wr0 vs (G (b.at a (.code (.region id ops true) :: k)) cs) w Q:=by
 have hm:Tryd.prog.follows .mixedOrders=true:=by kernel_rfl
 refine Uu fun w1 hr=>⟨b.at a (.inRegion ops (Region.schedule true ops (w1.tape w1.drawn (.order b.fn id))) :: k),w1.at (w1.drawn+1),#[],wr0,fun main cs'=>?_,by simp,⟨Nat.le_refl _,fun _ _ _=>rfl,rfl,rfl,rfl,fun _ h=>h⟩,⟨fun _ h=>h,fun _ h=>.inl h⟩,
  ((h _ (Je ops _)).rely hr).rely (.at _ w1 _)⟩
 simp [G,stepG,stepG.exec,Frame.at,choose,Sem.run,Question.forced,Question.cut,World.at,hm]
theorem PW {o:Oper} {a:Act} {x:Operand} {c:Nat} (ho:o.op=.recv 165 x false) (hx:a.eval x=.chan (some c)):∃ z,∀ w,(execOp a.eval o).run Tryd.prog w=.ok (.comm #[rcase c z] true (.recv false)) w:=by
 have hi:((Tryd.prog.info? 27).bind (·.zero)).isSome=true:=by kernel_rfl
 cases hq:Tryd.prog.info? 27 with
 | none=>rw [hq] at hi;cases hi
 | some i =>
  rw [hq] at hi
  cases hz:i.zero with
  | none=>simp [hz] at hi
  | some z =>
   refine ⟨z,fun w=>?_⟩
   unfold execOp
   simp [ho,hx,Go.underlying,Tryd.underlying165,Go.zeroValue,Go.typeInfo,hq,hz,rcase]
theorem F9 {o:Oper} {a:Act} {x:Operand} (ho:o.op=.recv 165 x false) (w:World):(execOp a.eval o).events Tryd.prog w #[]=#[]:=by
 unfold execOp
 simp [ho]
section
variable {V:View} {wA w w1 w2:World} {p:Nat} {k:Wk} {ts:List Nat} {vv rv:Value} {s:SS} {st:Bool} {b4 b5 b6 b7 c g cap bo:Nat} {D:List Nat} {cur:Array Value} {D1 wr1 x:Nat→Prop} {E WW:List Nat}
theorem AP {R':BR} {wl:World} {DD WW:List Nat} {b:Nat} (hWR:WR Tryd.prog.globals.size R' (wX DD) wl w2) (hle:le (iq (DD ++ WW)) R') (hm:b∈WW) (hn:b ∉ DD) {cs:Array Value} {t:TypeId} (hc:∀ v∈cs,iL v=true) (hl:wl.heap[b]? = some (.cells cs t (0,0))) :
  w2.heap[b]? = some (.cells cs t (0,0)):=by
 obtain ⟨c6,hc6,hAF6⟩:=wP hWR (hle b b ⟨rfl,List.mem_append_right _ hm⟩) hn hl
 rw [CX (sQ hWR hle) hAF6 (fun v hv=>.flat (uU (hc v hv)))] at hc6
 exact hc6
theorem KG.after (X:yD V wA p k ts vv rv s st b4 b5 b6 b7 c g cap D cur) (hE:KG wA D E D1 wr1 w) (hk:yY c D1 wr1 w w2) {R':BR} {wl:World} (hWR:WR Tryd.prog.globals.size R' (wX (dK b4 b5 b7 c g D E)) wl w2) (hle:le (iq (dK b4 b5 b7 c g D E ++ WW)) R') :
  KG wA D E D1 (fun b=>wr1 b∨own (wX (dK b4 b5 b7 c g D E)) R' b) w2:=⟨fun e he=>by
 obtain ⟨q1,q2,q3,t',q4,q5⟩:=hE.obj e he
 refine ⟨q1,fun h=>?_,q3,t',q4,(kY (hk.keep e (lt_of_heap q5) q1 q2) (by rintro rfl;have:=X.RU;omega)).trans q5⟩
 rcases h with h | ⟨y,hy,hny⟩
 ·exact q2 h
 ·have hm:e∈dK b4 b5 b7 c g D E:=by simp [dK,he]
  have:=hWR.inj y e e hy (hle e e ⟨rfl,List.mem_append_left _ hm⟩)
  subst this
  exact hny hm⟩
structure Zo (wA:World) (b6 bo:Nat) (acc:Int × Int) (wr1:Nat→Prop) (w:World):Prop where
 wr:wr1 bo
 ge:wA.heap.size≤bo
 obj:w.heap[bo]? = some (.cells #[.int .i64 acc.1,.int .i64 acc.2] 27 (0,0))
theorem Zo.rely (X:yD V wA p k ts vv rv s st b4 b5 b6 b7 c g cap D cur) {acc:Int × Int} (h:Zo wA b6 bo acc wr1 w) (hr:dn c (sK D1 wr1) w w1):Zo wA b6 bo acc wr1 w1 :=
 ⟨h.wr,h.ge,(kY (hr.keep bo (.inr h.wr)) (by rintro rfl;have:=X.RU;have:=h.ge;omega)).trans h.obj⟩
theorem aa3 (X:yD V wA p k ts vv rv s st b4 b5 b6 b7 c g cap D cur) (I:FT wA b6 c D1 wr1 w) {acc:Int × Int} (O:Zo wA b6 bo acc wr1 w) (hG:Wg.gN≤wA.heap.size):PhW wA [b6,bo] wr1 w:=⟨fun b hb=>by
 simp only [List.mem_cons,List.not_mem_nil,or_false] at hb
 rcases hb with rfl | rfl
 ·exact ⟨I.w6,X.ge.2.2.1,_,_,I.h6,by simp [iL]⟩
 ·exact ⟨O.wr,Nat.le_trans hG O.ge,_,_,O.obj,by simp [iL]⟩⟩
theorem pJ (X:yD V wA p k ts vv rv s st b4 b5 b6 b7 c g cap D cur) {n i j:Nat} {x10 x18 x19 x20 x21 x22 x26 x27 x28 x29 x30 x31:Value} (h6:b6∈WW) (ho:bo∈WW) (hx:∀ v∈[x10,x18,x19,x20,x21,x22,x26,x27,x28,x29,x30,x31],VR (iq (dK b4 b5 b7 c g D E ++ WW)) v v) :
  ∀ v∈wE p s st b4 b5 b6 b7 c bo (.slice (some ⟨g,0,none⟩) n cap) n i j x10 x18 x19 x20 x21 x22 x26 x27 x28 x29 x30 x31,VR (iq (dK b4 b5 b7 c g D E ++ WW)) v v:=by
 have hu:VR (iq (dK b4 b5 b7 c g D E ++ WW)) undef undef:=.of_flat rfl
 have hp:VR (iq (dK b4 b5 b7 c g D E ++ WW)) (ptr p) (ptr p):=bJ (.ptr (by simp [dK,X.pD]))
 have hst:VR (iq (dK b4 b5 b7 c g D E ++ WW)) (.agg (dJ s).toArray) (.agg (dJ s).toArray):=bJ (.agg fun v hv=>uU (yL s v (by simpa using hv)))
 have hb:VR (iq (dK b4 b5 b7 c g D E ++ WW)) (.bool st) (.bool st):=.of_flat rfl
 have h4:VR (iq (dK b4 b5 b7 c g D E ++ WW)) (ptr b4) (ptr b4):=bJ (.ptr (by simp [dK]))
 have h5:VR (iq (dK b4 b5 b7 c g D E ++ WW)) (ptr b5) (ptr b5):=bJ (.ptr (by simp [dK]))
 have h6':VR (iq (dK b4 b5 b7 c g D E ++ WW)) (ptr b6) (ptr b6):=bJ (.ptr (by simp [h6]))
 have ho':VR (iq (dK b4 b5 b7 c g D E ++ WW)) (ptr bo) (ptr bo):=bJ (.ptr (by simp [ho]))
 have h7:VR (iq (dK b4 b5 b7 c g D E ++ WW)) (ptr b7) (ptr b7):=bJ (.ptr (by simp [dK]))
 have hsl:VR (iq (dK b4 b5 b7 c g D E ++ WW)) (.slice (some ⟨g,0,none⟩) n cap) (.slice (some ⟨g,0,none⟩) n cap):=bJ (.slice (by simp [dK]))
 have hc:VR (iq (dK b4 b5 b7 c g D E ++ WW)) (.chan (some c)) (.chan (some c)):=bJ (.chan (by simp [dK]))
 have hn:VR (iq (dK b4 b5 b7 c g D E ++ WW)) (.int .i64 n) (.int .i64 n):=.of_flat rfl
 have hi:VR (iq (dK b4 b5 b7 c g D E ++ WW)) (.int .i64 i) (.int .i64 i):=.of_flat rfl
 have hj:VR (iq (dK b4 b5 b7 c g D E ++ WW)) (.int .i64 j) (.int .i64 j):=.of_flat rfl
 simp only [List.mem_cons,List.not_mem_nil,or_false,forall_eq_or_imp,forall_eq] at hx
 obtain ⟨y10,y18,y19,y20,y21,y22,y26,y27,y28,y29,y30,y31⟩:=hx
 intro v hv
 simp only [wE,List.mem_toArray,List.mem_cons,List.not_mem_nil,or_false] at hv
 rcases hv with rfl | rfl | rfl | rfl | rfl | rfl | rfl | rfl | rfl | rfl | rfl | rfl | rfl | rfl | rfl | rfl | rfl | rfl | rfl | rfl | rfl | rfl | rfl | rfl | rfl | rfl | rfl | rfl | rfl | rfl | rfl | rfl | rfl
 all_goals assumption
theorem JB (X:yD V wA p k ts vv rv s st b4 b5 b6 b7 c g cap D cur) (I:FT wA b6 c D1 wr1 w) (hE:KG wA D E D1 wr1 w) {acc acc':Int × Int} (O:Zo wA b6 bo acc wr1 w) (hG:Wg.gN≤wA.heap.size) (hh:ay OC w)
  {tm tm':Array Value} {todo tgt:List Item} (hit:todo.all zH=true) (hself:∀ v∈tm,VR (iq (dK b4 b5 b7 c g D E ++ [b6,bo])) v v) (hself':∀ v∈tm',VR (iq (dK b4 b5 b7 c g D E ++ [b6,bo])) v v) {b:Frame} (hbf:b.fn=97) (hbk:b.kind=.normal) {cs:List Frame} {vs:List Value} {Q:wY}
  (hrun:∀ (VL:View) (w0:World),VL.In w0→VL b6=none→VL bo=none→w0.heap[b6]? = some (.cells #[.int .i64 0,.int .i64 0] 27 (0,0))→w0.heap[bo]? = some (.cells #[.int .i64 acc.1,.int .i64 acc.2] 27 (0,0))→VL.Cell b7 0 (.chan (some c)) →
   fA Tryd.prog tgt (fun a w'=>a=⟨tm',[]⟩∧w'.heap[b6]? = some (.cells #[.int .i64 0,.int .i64 0] 27 (0,0))∧w'.heap[bo]? = some (.cells #[.int .i64 acc'.1,.int .i64 acc'.2] 27 (0,0))) todo ⟨tm,[]⟩ w0)
  (hk:∀ wr2 w2,FT wA b6 c D1 wr2 w2→KG wA D E D1 wr2 w2→Zo wA b6 bo acc' wr2 w2→oK Tryd.prog c D1 wr2 vs (G (b.at ⟨tm',[]⟩ tgt) cs) w2 Q) :
  oK Tryd.prog c D1 wr1 vs (G (b.at ⟨tm,[]⟩ todo) cs) w Q:=by
 have hW:=aa3 X I O hG
 have hseg:=LM X I hE hW hG
 have n6:b6 ∉ dK b4 b5 b7 c g D E:=hseg.dis b6 (by simp)
 have no:bo ∉ dK b4 b5 b7 c g D E:=hseg.dis bo (by simp)
 refine DL (tgt:=tgt) X I hE hW hG hh hit hself hbf hbk (S:=fun a w'=>a=⟨tm',[]⟩∧w'.heap[b6]? = some (.cells #[.int .i64 0,.int .i64 0] 27 (0,0))∧w'.heap[bo]? = some (.cells #[.int .i64 acc'.1,.int .i64 acc'.2] 27 (0,0))) (fun _ _ _ _ h=>h) (fun τ d=>?_) ?_
 ·refine hrun (lv (dK b4 b5 b7 c g D E) [] w) _ (Ny _ [] w τ d) (by simp [lv,n6]) (by simp [lv,no]) ?_ ?_ (Jb (by simp [dK]) (I.view X b7 _ X.v7) rfl)
  ·show (oU (dK b4 b5 b7 c g D E) w).heap[b6]? = _
   rw [Ap (WW:=[]) n6]
   exact I.h6
  ·show (oU (dK b4 b5 b7 c g D E) w).heap[bo]? = _
   rw [Ap (WW:=[]) no]
   exact O.obj
 ·rintro R' a' a2 wl w2 ⟨rfl,h6l,hol⟩ hle hAF hdf hWR hkept hfr
  have hfx:=sQ hWR hle
  have htm:=CW hAF (LG (fun v hv=>hself' v (by simpa using hv)) hfx)
  obtain ⟨tmps2,defers2⟩:=a2
  simp only [Array.toArray_toList] at hdf htm
  subst hdf
  subst htm
  refine hk _ _ (I.after X hkept hfr (AP hWR hle (by simp) n6 (by simp [iL]) h6l)) (hE.after X hkept hWR hle) ⟨.inl O.wr,O.ge,AP hWR hle (by simp) no (by simp [iL]) hol⟩
end
def Ai:Value→Int × Int
 | .agg ⟨[.int _ a,.int _ b]⟩=>(a,b)
 | _=>(0,0)
theorem Bf (x:Int × Int):Ai (aJ x)=x:=rfl
theorem Sv {l:List (Int × Int)} {v:Value} {rest:List Value} (h:(l.map aJ).Perm (v :: rest)):∃ x l',v=aJ x∧rest=l'.map aJ∧l.Perm (x :: l'):=by
 have hm:∀ u∈v :: rest,aJ (Ai u)=u:=fun u hu=>by
  obtain ⟨x,_,rfl⟩:=List.mem_map.1 (h.mem_iff.2 hu)
  rw [Bf]
 refine ⟨Ai v,rest.map Ai,(hm v (by simp)).symm,?_,?_⟩
 ·rw [List.map_map]
  conv=>lhs;rw [← List.map_id rest]
  exact List.map_congr_left fun u hu=>(hm u (by simp [hu])).symm
 ·have:=h.map Ai
  rw [List.map_map] at this
  have e:l.map (Ai ∘ aJ)=l:=by
   conv=>rhs;rw [← List.map_id l]
   exact List.map_congr_left fun u _=>Bf u
  rw [e] at this
  exact this
section
variable {V:View} {wA w w1 w2:World} {p:Nat} {k:Wk} {ts:List Nat} {vv rv:Value} {s:SS} {st:Bool} {b4 b5 b6 b7 c g cap bo:Nat} {D:List Nat} {cur:Array Value} {D1 wr1 x:Nat→Prop} {E WW:List Nat}
structure XB (V:View) (wA:World) (k:Wk) (s:SS) (st:Bool) (b4 b5 b6 b7 c g:Nat) (D E:List Nat) (bo j:Nat) (D1 wr1:Nat→Prop) (l:List (Int × Int)) (acc:Int × Int) (w:World):Prop where
 I:FT wA b6 c D1 wr1 w
 e:KG wA D E D1 wr1 w
 o:Zo wA b6 bo acc wr1 w
 len:j+l.length=k.sources.length
 sum:dX acc (CJ l)=dW k s st
 bl:∀ x∈l,Pb 11764900 x
 ba:Pb (11764900 * j) acc
theorem XB.rely (X:yD V wA p k ts vv rv s st b4 b5 b6 b7 c g cap D cur) {j:Nat} {l:List (Int × Int)} {acc:Int × Int} (h:XB V wA k s st b4 b5 b6 b7 c g D E bo j D1 wr1 l acc w) (hr:dn c (sK D1 wr1) w w1):XB V wA k s st b4 b5 b6 b7 c g D E bo j D1 wr1 l acc w1 :=
 ⟨h.I.rely X hr,h.e.rely X hr,h.o.rely X hr,h.len,h.sum,h.bl,h.ba⟩
set_option maxRecDepth 20000 in
theorem Oq (X:yD V wA p k ts vv rv s st b4 b5 b6 b7 c g cap D cur) (hG:Wg.gN≤wA.heap.size) {b:Frame} (hbf:b.fn=97) (hbk:b.kind=.normal) {cs:List Frame} {Q:wY} {j:Nat} {l:List (Int × Int)} {acc:Int × Int} (hL:XB V wA k s st b4 b5 b6 b7 c g D E bo j D1 wr1 l acc w) (hj:j < k.sources.length)
  {x10 x18 x19 x20 x21 x22 x26 x27 x29 x30 x31:Value} (hx:∀ v∈[x10,x18,x19,x20,x21,x22,x26,x27,.chan (some c),x29,x30,x31],VR (iq (dK b4 b5 b7 c g D E ++ [b6,bo])) v v) {r:List Nat} (hr5:(r=[3,4]∧x27=aJ acc)∨r=[0,3,4])
  (hk:∀ wr2 w2 x l',XB V wA k s st b4 b5 b6 b7 c g D E bo (j+1) D1 wr2 l' (dX acc x) w2→oK Tryd.prog c D1 wr2 (l'.map aJ) (G (b.at ⟨wE p s st b4 b5 b6 b7 c bo (.slice (some ⟨g,0,none⟩) k.sources.length cap) k.sources.length k.sources.length (j+1) x10 x18 x19 x20 x21 x22 x26 (aJ acc) (.chan (some c)) (aJ x) (aJ (dX acc x)) (.int .i64 ((j+1:Nat):Int)),[]⟩ head2) cs) w2 Q) :
  oK Tryd.prog c D1 wr1 (l.map aJ) (G (b.at ⟨wE p s st b4 b5 b6 b7 c bo (.slice (some ⟨g,0,none⟩) k.sources.length cap) k.sources.length k.sources.length j x10 x18 x19 x20 x21 x22 x26 x27 (.chan (some c)) x29 x30 x31,[]⟩ (Au (2 :: r))) cs) w Q:=by
 have hn6:=X.n6
 have hlen:=hL.len
 obtain ⟨z,hz⟩:=PW (o:=KC[2]!) (a:=⟨wE p s st b4 b5 b6 b7 c bo (.slice (some ⟨g,0,none⟩) k.sources.length cap) k.sources.length k.sources.length j x10 x18 x19 x20 x21 x22 x26 x27 (.chan (some c)) x29 x30 x31,[]⟩) (x:=.tmp 28) (c:=c) rfl rfl
 refine Xb rfl (fun h=>?_) fun w1 hr1=>⟨_,z,_,stepG_comm (i:=2) (o:=KC[2]!) rfl rfl (by simp [hbk]) (hz w1),?_,fun v rest hperm w2 hr2=>?_⟩
 ·have:l.length=0:=by simpa using congrArg List.length h
  omega
 ·intro e he
  unfold listed at he
  rw [F9 (x:=.tmp 28) rfl,seen_none] at he
  simp at he
 ·obtain ⟨x,l',rfl,rfl,hpl⟩:=Sv hperm
  have hL2:=(hL.rely X hr1).rely X hr2
  have hll:l.length=l'.length+1:=by simpa using hpl.length_eq
  have hbx:Pb 11764900 x:=hL.bl x (hpl.mem_iff.2 (by simp))
  show oK Tryd.prog c D1 wr1 _ (G (b.at ⟨wE p s st b4 b5 b6 b7 c bo (.slice (some ⟨g,0,none⟩) k.sources.length cap) k.sources.length k.sources.length j x10 x18 x19 x20 x21 x22 x26 x27 (.chan (some c)) (aJ x) x30 x31,[]⟩ (Au r)) cs) w2 Q
  refine tV fun w3 hr3 hh3 _=>?_
  have hL3:=hL2.rely X hr3
  have hsp:∀ q:Int × Int,VR (iq (dK b4 b5 b7 c g D E ++ [b6,bo])) (aJ q) (aJ q):=fun q=>bJ (.agg fun v hv=>by
   have:v=.int .i64 q.1∨v=.int .i64 q.2:=by simpa using hv
   rcases this with rfl | rfl <;> rfl)
  have hx1:∀ v∈[x10,x18,x19,x20,x21,x22,x26,x27,.chan (some c),aJ x,x30,x31],VR (iq (dK b4 b5 b7 c g D E ++ [b6,bo])) v v:=fun v hv=>by
   simp only [List.mem_cons,List.not_mem_nil,or_false] at hv
   rcases hv with rfl | rfl | rfl | rfl | rfl | rfl | rfl | rfl | rfl | rfl | rfl | rfl
   all_goals first | exact hsp _ | exact hx _ (by simp)
  have hx2:∀ v∈[x10,x18,x19,x20,x21,x22,x26,aJ acc,.chan (some c),aJ x,aJ (dX acc x),.int .i64 ((j+1:Nat):Int)],VR (iq (dK b4 b5 b7 c g D E ++ [b6,bo])) v v:=fun v hv=>by
   simp only [List.mem_cons,List.not_mem_nil,or_false] at hv
   rcases hv with rfl | rfl | rfl | rfl | rfl | rfl | rfl | rfl | rfl | rfl | rfl | rfl
   all_goals first | exact .of_flat rfl | exact hsp _ | exact hx _ (by simp)
  have hba:Pb 100000000000 acc:=hL3.ba.mono (by omega)
  refine JB (acc':=dX acc x) (tgt:=head2) X hL3.I hL3.e hL3.o hG hh3 (QW r) (pJ (bo:=bo) X (by simp) (by simp) hx1) (pJ (n:=k.sources.length) (i:=k.sources.length) (bo:=bo) (j:=j+1) X (by simp) (by simp) hx2) hbf hbk (fun VL w0 hVL h6n hon h6 ho h7=>?_) fun wr2 w4 I4 E4 O4=>?_
  ·refine (aaQ p s st b4 b5 b6 b7 c bo k.sources.length k.sources.length j acc x _ x10 x18 x19 x20 x21 x22 x26 x27 _ x30 x31 hj hn6 hba (hbx.mono (by omega)) ho hon hVL r hr5).mono ?_
   rintro a w' ⟨rfl,hS⟩
   have hb6:b6≠bo:=by
    have:=X.XG
    have:=hL3.o.ge
    omega
   exact ⟨rfl,(hS.old b6 (lt_of_heap h6) (by simp [hb6])).trans h6,hS.dR⟩
  ·refine hk wr2 w4 x l' ⟨I4,E4,O4,by omega,?_,fun y hy=>hL.bl y (hpl.mem_iff.2 (by simp [hy])),?_⟩
   ·have h1:=hL.sum
    rw [H9 hpl,kT] at h1
    rw [← h1]
    unfold dX
    simp only [Prod.mk.injEq]
    omega
   ·have:=hL3.ba.both hbx
    refine this.mono ?_
    omega
set_option maxRecDepth 20000 in
theorem aaA (X:yD V wA p k ts vv rv s st b4 b5 b6 b7 c g cap D cur) (hG:Wg.gN≤wA.heap.size) {b:Frame} (hbf:b.fn=97) (hbk:b.kind=.normal) {cs:List Frame} {Q:wY}
  (hend:∀ wr1 w x10 x18 x19 x20 x21 x22 x26 x27 x28 x29 x30 x31,XB V wA k s st b4 b5 b6 b7 c g D E bo k.sources.length D1 wr1 [] (dW k s st) w→(∀ v∈[x10,x18,x19,x20,x21,x22,x26,x27,x28,x29,x30,x31],VR (iq (dK b4 b5 b7 c g D E ++ [b6,bo])) v v) →
   oK Tryd.prog c D1 wr1 [] (G (b.at ⟨wE p s st b4 b5 b6 b7 c bo (.slice (some ⟨g,0,none⟩) k.sources.length cap) k.sources.length k.sources.length k.sources.length x10 x18 x19 x20 x21 x22 x26 x27 x28 x29 x30 x31,[]⟩ head2) cs) w Q) :
  ∀ (m j:Nat),j+m=k.sources.length→∀ wr1 w x10 x18 x19 x20 x21 x22 x26 x27 x28 x29 x30 x31 l acc,XB V wA k s st b4 b5 b6 b7 c g D E bo j D1 wr1 l acc w→(∀ v∈[x10,x18,x19,x20,x21,x22,x26,x27,x28,x29,x30,x31],VR (iq (dK b4 b5 b7 c g D E ++ [b6,bo])) v v) →
   oK Tryd.prog c D1 wr1 (l.map aJ) (G (b.at ⟨wE p s st b4 b5 b6 b7 c bo (.slice (some ⟨g,0,none⟩) k.sources.length cap) k.sources.length k.sources.length j x10 x18 x19 x20 x21 x22 x26 x27 x28 x29 x30 x31,[]⟩ head2) cs) w Q:=by
 intro m
 induction m with
 | zero =>
  intro j hj wr1 w x10 x18 x19 x20 x21 x22 x26 x27 x28 x29 x30 x31 l acc hL hx
  obtain rfl:j=k.sources.length:=by omega
  have hl:l=[]:=List.length_eq_zero_iff.1 (by have:=hL.len;omega)
  subst hl
  have e:acc=dW k s st:=by
   rw [← hL.sum]
   unfold dX CJ
   simp
  subst e
  exact hend wr1 w x10 x18 x19 x20 x21 x22 x26 x27 x28 x29 x30 x31 hL hx
 | succ m ih =>
  intro j hj wr1 w x10 x18 x19 x20 x21 x22 x26 x27 x28 x29 x30 x31 l acc hL hx
  have hlt:j < k.sources.length:=by omega
  refine tV fun w1 hr1 hh1 _=>?_
  replace hL:=hL.rely X hr1
  clear hr1 w
  simp only [List.mem_cons,List.not_mem_nil,or_false,forall_eq_or_imp,forall_eq] at hx
  obtain ⟨y10,y18,y19,y20,y21,y22,y26,y27,y28,y29,y30,y31⟩:=hx
  have yt:VR (iq (dK b4 b5 b7 c g D E ++ [b6,bo])) (.bool true) (.bool true):=.of_flat rfl
  have yc:VR (iq (dK b4 b5 b7 c g D E ++ [b6,bo])) (.chan (some c)) (.chan (some c)):=bJ (.chan (by simp [dK]))
  have ys:VR (iq (dK b4 b5 b7 c g D E ++ [b6,bo])) (aJ acc) (aJ acc):=bJ (.agg fun v hv=>by
   have:v=.int .i64 acc.1∨v=.int .i64 acc.2:=by simpa using hv
   rcases this with rfl | rfl <;> rfl)
  refine JB (acc':=acc) (tgt:=ZY) X hL.I hL.e hL.o hG hh1 Lr (pJ (bo:=bo) X (by simp) (by simp) (x26:=x26) (x27:=x27) (x28:=x28) (x29:=x29) (x30:=x30) (x31:=x31) (by simp only [List.mem_cons,List.not_mem_nil,or_false,forall_eq_or_imp,forall_eq];exact ⟨y10,y18,y19,y20,y21,y22,y26,y27,y28,y29,y30,y31⟩))
   (pJ (n:=k.sources.length) (i:=k.sources.length) (bo:=bo) (j:=j) X (by simp) (by simp) (x10:=x10) (x18:=x18) (x19:=x19) (x20:=x20) (x21:=x21) (x22:=x22) (x26:=.bool true) (x27:=x27) (x28:=x28) (x29:=x29) (x30:=x30) (x31:=x31) (by simp only [List.mem_cons,List.not_mem_nil,or_false,forall_eq_or_imp,forall_eq];exact ⟨y10,y18,y19,y20,y21,y22,yt,y27,y28,y29,y30,y31⟩)) hbf hbk (fun VL w0 hVL h6n hon h6 ho h7=>?_) fun wr2 w2 I2 E2 O2=>?_
  ·refine (abx p s st b4 b5 b6 b7 c bo k.sources.length k.sources.length j _ x10 x18 x19 x20 x21 x22 x26 x27 x28 x29 x30 x31 hlt X.n6 w0 hVL).mono ?_
   rintro a w' ⟨rfl,hS⟩
   exact ⟨rfl,(hS.bM.old b6 (lt_of_heap h6)).trans h6,(hS.bM.old bo (lt_of_heap ho)).trans ho⟩
  ·show oK Tryd.prog c D1 wr2 (l.map aJ) (G (b.at ⟨wE p s st b4 b5 b6 b7 c bo (.slice (some ⟨g,0,none⟩) k.sources.length cap) k.sources.length k.sources.length j x10 x18 x19 x20 x21 x22 (.bool true) x27 x28 x29 x30 x31,[]⟩ (.code (.region 11 KC true) :: [.inBlock 3,.code R12,.inLoop L2,.inBlock 2,.code K13])) cs) w2 Q
   refine WA fun l0 hl0=>?_
   rw [Vj] at hl0
   simp only [List.mem_cons,List.not_mem_nil,or_false] at hl0
   have hL2:XB V wA k s st b4 b5 b6 b7 c g D E bo j D1 wr2 l acc w2:=⟨I2,E2,O2,hL.len,hL.sum,hL.bl,hL.ba⟩
   refine tV fun w3 hr3 hh3 _=>?_
   have hL3:=hL2.rely X hr3
   have y5:VR (iq (dK b4 b5 b7 c g D E ++ [b6,bo])) (x5 l0 acc x27) (x5 l0 acc x27):=by
    unfold x5
    split <;> assumption
   show oK Tryd.prog c D1 wr2 (l.map aJ) (G (b.at ⟨wE p s st b4 b5 b6 b7 c bo (.slice (some ⟨g,0,none⟩) k.sources.length cap) k.sources.length k.sources.length j x10 x18 x19 x20 x21 x22 (.bool true) x27 x28 x29 x30 x31,[]⟩ (Au l0)) cs) w3 Q
   refine JB (acc':=acc) (tgt:=Au (2 :: l5 l0)) X hL3.I hL3.e hL3.o hG hh3 (QW l0) (pJ (bo:=bo) X (by simp) (by simp) (x26:=.bool true) (x27:=x27) (x28:=x28) (x29:=x29) (x30:=x30) (x31:=x31) (by simp only [List.mem_cons,List.not_mem_nil,or_false,forall_eq_or_imp,forall_eq];exact ⟨y10,y18,y19,y20,y21,y22,yt,y27,y28,y29,y30,y31⟩))
    (pJ (n:=k.sources.length) (i:=k.sources.length) (bo:=bo) (j:=j) X (by simp) (by simp) (x10:=x10) (x18:=x18) (x19:=x19) (x20:=x20) (x21:=x21) (x22:=x22) (x26:=.bool true) (x27:=x5 l0 acc x27) (x28:=.chan (some c)) (x29:=x29) (x30:=x30) (x31:=x31) (by simp only [List.mem_cons,List.not_mem_nil,or_false,forall_eq_or_imp,forall_eq];exact ⟨y10,y18,y19,y20,y21,y22,yt,y5,yc,y29,y30,y31⟩)) hbf hbk (fun VL w0 hVL h6n hon h6 ho h7=>?_) fun wr4 w4 I4 E4 O4=>?_
   ·refine (abu p s st b4 b5 b6 b7 c bo k.sources.length k.sources.length j acc _ x10 x18 x19 x20 x21 x22 _ x27 x28 x29 x30 x31 l0 hl0 h7 (lK (cs:=[.int .i64 acc.1,.int .i64 acc.2]) (n:=2) ho rfl) hVL).mono ?_
    rintro a w' ⟨rfl,rfl⟩
    exact ⟨rfl,h6,ho⟩
   ·refine Oq (r:=l5 l0) X hG hbf hbk ⟨I4,E4,O4,hL.len,hL.sum,hL.bl,hL.ba⟩ hlt (by simp only [List.mem_cons,List.not_mem_nil,or_false,forall_eq_or_imp,forall_eq];exact ⟨y10,y18,y19,y20,y21,y22,yt,y5,yc,y29,y30,y31⟩) ?_ fun wr5 w5 x l' h5=>?_
    ·rcases hl0 with rfl | rfl | rfl
     ·exact .inl ⟨rfl,rfl⟩
     ·exact .inl ⟨rfl,rfl⟩
     ·exact .inr rfl
    ·refine ih (j+1) (by omega) wr5 w5 _ _ _ _ _ _ _ _ _ _ _ _ l' _ h5 ?_
     have hsp:∀ q:Int × Int,VR (iq (dK b4 b5 b7 c g D E ++ [b6,bo])) (aJ q) (aJ q):=fun q=>bJ (.agg fun v hv=>by
      have:v=.int .i64 q.1∨v=.int .i64 q.2:=by simpa using hv
      rcases this with rfl | rfl <;> rfl)
     simp only [List.mem_cons,List.not_mem_nil,or_false,forall_eq_or_imp,forall_eq]
     exact ⟨y10,y18,y19,y20,y21,y22,yt,ys,yc,hsp _,hsp _,.of_flat rfl⟩
end
section
variable {V:View} {wA w w1 w2:World} {p:Nat} {k:Wk} {ts:List Nat} {vv rv:Value} {s:SS} {st:Bool} {b4 b5 b6 b7 c g cap bo:Nat} {D:List Nat} {cur:Array Value} {D1 wr1 x:Nat→Prop} {E WW:List Nat}
def XE (wA:World) (k:Wk) (s:SS) (st:Bool) (b6 c:Nat) (b:Frame) (cs:List Frame):wY:=fun _ _ vs a w =>
 vs=[]∧∃ a':Act,a=G (b.at a' [.code .ret]) cs∧a'.defers=[]∧a'.tmps.getD 6 undef=ptr b6∧w.heap[b6]? = some (.cells #[.int .i64 (dW k s st).1,.int .i64 (dW k s st).2] 27 (0,0)) ∧
  (∀ b,b < wA.heap.size→b≠b6→b≠c→w.heap[b]? = wA.heap[b]?)∧wA.heap.size≤w.heap.size∧w.os=wA.os∧w.output=wA.output
set_option maxRecDepth 20000 in
theorem XM (X:yD V wA p k ts vv rv s st b4 b5 b6 b7 c g cap D cur) (hG:Wg.gN≤wA.heap.size) {b:Frame} (hbf:b.fn=97) (hbk:b.kind=.normal) {cs:List Frame} {x10 x18 x19 x20 x21 x22 x26 x27 x28 x29 x30 x31:Value}
  (hL:XB V wA k s st b4 b5 b6 b7 c g D E bo k.sources.length D1 wr1 [] (dW k s st) w) (hx:∀ v∈[x10,x18,x19,x20,x21,x22,x26,x27,x28,x29,x30,x31],VR (iq (dK b4 b5 b7 c g D E ++ [b6,bo])) v v) :
  oK Tryd.prog c D1 wr1 [] (G (b.at ⟨wE p s st b4 b5 b6 b7 c bo (.slice (some ⟨g,0,none⟩) k.sources.length cap) k.sources.length k.sources.length k.sources.length x10 x18 x19 x20 x21 x22 x26 x27 x28 x29 x30 x31,[]⟩ head2) cs) w (XE wA k s st b6 c b cs):=by
 refine tV fun w1 hr1 hh1 _=>?_
 replace hL:=hL.rely X hr1
 clear hr1
 have hW:=aa3 X hL.I hL.o hG
 have hseg:=LM X hL.I hL.e hW hG
 have n6:b6 ∉ dK b4 b5 b7 c g D E:=hseg.dis b6 (by simp)
 have no:bo ∉ dK b4 b5 b7 c g D E:=hseg.dis bo (by simp)
 have h6o:b6≠bo:=by
  have:=X.XG
  have:=hL.o.ge
  omega
 refine DL (tgt:=[.code .ret]) X hL.I hL.e hW hG hh1 Lr (pJ X (by simp) (by simp) hx) hbf hbk
  (S:=fun a w'=>a.tmps[6]? = some (ptr b6)∧w'.heap[b6]? = some (.cells #[.int .i64 (dW k s st).1,.int .i64 (dW k s st).2] 27 (0,0))) (fun _ _ _ _ h=>h) (fun τ d=>?_) ?_
 ·obtain ⟨VL,hVL⟩:∃ VL:View,VL=fun i=>if i=b6 then none else lv (dK b4 b5 b7 c g D E) [b6,bo] w1 i:=⟨_,rfl⟩
  have hin:VL.In ((oU (dK b4 b5 b7 c g D E) w1).re τ d):=fun i o h=>by
   subst hVL
   simp only at h
   split at h
   ·cases h
   ·exact Ny _ _ w1 τ d i o h
  have hr:VL.Range bo 0 [.int .i64 (dW k s st).1,.int .i64 (dW k s st).2]:=fun i v hi=>by
   have h1:(lv (dK b4 b5 b7 c g D E) [b6,bo] w1).Cell bo i v:=Jb (by simp) hL.o.obj (by simpa using hi)
   obtain ⟨cs',t',f',h2,h3⟩:=h1
   refine ⟨cs',t',f',?_,by rw [Nat.zero_add];exact h3⟩
   subst hVL
   simp only [Ne.symm h6o,if_false]
   exact h2
  have h6l:((oU (dK b4 b5 b7 c g D E) w1).re τ d).heap[b6]? = some (.cells #[.int .i64 0,.int .i64 0] 27 (0,0)):=by
   show (oU (dK b4 b5 b7 c g D E) w1).heap[b6]? = _
   rw [Ap (WW:=[]) n6]
   exact hL.I.h6
  refine (abk p s st b4 b5 b6 b7 c bo k.sources.length k.sources.length (dW k s st) _ x10 x18 x19 x20 x21 x22 x26 x27 x28 x29 x30 x31 X.n6 h6l (by subst hVL;simp) hr hin).mono ?_
  rintro a w' ⟨⟨x26',x32',rfl⟩,hS⟩
  exact ⟨rfl,hS.dR⟩
 ·rintro R' a' a2 wl w2 ⟨h6t,h6l⟩ hle hAF hdf hWR hkept hfr
  refine tV fun w3 hr3 _ _=>Wn fun w4 hr4=>⟨rfl,a2,rfl,hdf,?_,?_,fun i h1 h2 h3=>?_,?_,?_,?_⟩
  ·have:=aag (sQ hWR hle) hAF h6t (.ptr (by simp))
   rw [Array.getD_eq_getD_getElem?,this]
   rfl
  ·have h1:=AP hWR hle (b:=b6) (by simp) n6 (by simp [iL]) h6l
   have w6:wr1 b6∨own (wX (dK b4 b5 b7 c g D E)) R' b6:=.inl hL.I.w6
   exact ((kY (hr4.keep b6 (.inr w6)) X.WE).trans (kY (hr3.keep b6 (.inr w6)) X.WE)).trans h1
  ·have hn:¬ wr1 i:=fun h=>by
    rcases hL.I.low i h with h | h
    ·exact h2 h
    ·omega
   have hd:=hL.I.rd i h1 h2
   exact ((kY (hr4.keep i (.inl hd)) h3).trans (kY (hr3.keep i (.inl hd)) h3)).trans ((kY (hkept.keep i (Nat.lt_of_lt_of_le h1 hL.I.size) hd hn) h3).trans (hL.I.kept i h1 h2 h3))
  ·exact Nat.le_trans hL.I.size (Nat.le_trans hkept.size (Nat.le_trans hr3.size hr4.size))
  ·exact hr4.os.trans (hr3.os.trans (hkept.os.trans hL.I.os))
  ·exact hr4.output.trans (hr3.output.trans (hkept.output.trans hL.I.out))
set_option maxRecDepth 20000 in
theorem XL (X:yD V wA p k ts vv rv s st b4 b5 b6 b7 c g cap D cur) (hG:Wg.gN≤wA.heap.size) {b:Frame} (hbf:b.fn=97) (hbk:b.kind=.normal) {cs:List Frame} {x10 x18 x19 x20 x21 x22:Value}
  (I:FT wA b6 c D1 wr1 w) (hE:KG wA D E D1 wr1 w) (h22:Sr.flat x22=true) (hx:∀ v∈[x10,x18,x19,x20,x21,x22],VR (iq (dK b4 b5 b7 c g D E ++ [b6])) v v) :
  oK Tryd.prog c D1 wr1 (wC k s st k.sources.length) (G (b.at ⟨iU p s st b4 b5 b6 b7 c (.slice (some ⟨g,0,none⟩) k.sources.length cap) k.sources.length k.sources.length x10 x18 x19 x20 x21 x22,[]⟩ yP) cs) w (XE wA k s st b6 c b cs):=by
 refine tV fun w1 hr1 hh1 hc1=>?_
 replace I:=I.rely X hr1
 replace hE:=hE.rely X hr1
 clear hr1 hc1
 have hW:=ph6 X I
 have hn6:=Jg X I hE hG
 have hlts:=LK X I hE hW hG
 have sf:=yG (E:=E) (WW:=[b6]) (n:=k.sources.length) (i:=k.sources.length) X (by simp) hx
 refine DL (tgt:=head2) X I hE hW hG hh1 Mc sf hbf hbk
  (S:=fun a w'=>∃ bl,a=⟨wE p s st b4 b5 b6 b7 c bl (.slice (some ⟨g,0,none⟩) k.sources.length cap) k.sources.length k.sources.length 0 x10 (.bool false) x19 x20 x21 x22 undef undef undef undef undef undef,[]⟩ ∧
   w'.heap[bl]? = some (.cells #[.int .i64 0,.int .i64 0] 27 (0,0))∧w1.heap.size≤bl∧w'.heap[b6]? = some (.cells #[.int .i64 0,.int .i64 0] 27 (0,0)))
  (fun _ _ _ _ h=>h) (fun τ d=>?_) ?_
 ·refine (abw p s st b4 b5 b6 b7 c g cap k.sources.length x10 x18 x19 x20 x21 x22 X.n6 _ (Ny (dK b4 b5 b7 c g D E) [b6] w1 τ d)).mono ?_
  rintro a w' ⟨bl,rfl,hS⟩
  have hl6:(lv (dK b4 b5 b7 c g D E) [b6] w1) b6=some (.cells #[.int .i64 0,.int .i64 0] 27 (0,0)):=by
   simp only [lv,List.mem_append,List.mem_singleton,or_true,if_true]
   rw [Ap (WW:=[]) hn6]
   exact I.h6
  have hb:=(hS.new (.blk bl 27 [.int .i64 0,.int .i64 0]) (by simp) bl rfl).elim id (fun h=>nomatch h)
  refine ⟨bl,rfl,hS.dR,?_,hS.view _ _ hl6⟩
  have e:((oU (dK b4 b5 b7 c g D E) w1).re τ d).heap.size=w1.heap.size:=oJ _ _
  omega
 ·rintro R' a' a2 wl w2 ⟨bl,rfl,hbl,lbl,h6l⟩ hle hAF hdf hWR hkept hfr
  have hfx:=sQ hWR hle
  obtain ⟨v11,hv11,r11⟩:=hAF.2 11 (ptr bl) rfl
  obtain ⟨bo,rfl,rbo⟩:=Iq r11
  have nD:¬ wX (dK b4 b5 b7 c g D E) bl:=fun h=>by
   have:=hlts bl h
   omega
  obtain ⟨c',hc',hAF1⟩:=wP hWR rbo nD hbl
  have ec:c'=#[.int .i64 0,.int .i64 0]:=CX hfx hAF1 fun v hv=>by
   have:v=.int .i64 0:=by simpa using hv
   subst this
   exact .flat rfl
  subst ec
  have h62:=zZ hWR hle (by simp) hn6 h6l
  have obo:own (wX (dK b4 b5 b7 c g D E)) R' bo:=⟨bl,rbo,nD⟩
  have lbo:wA.heap.size≤bo:=by
   rcases hfr bo obo with h | h
   ·rcases I.low bo h with h | h
    ·subst h
     have e:=hWR.inj bl bo bo rbo (hle bo bo ⟨rfl,by simp⟩)
     have h1:=lt_of_heap I.h6
     omega
    ·exact h
   ·exact Nat.le_trans I.size h
  have hbo:∀ v',VR R' (ptr bl) v'→v'=ptr bo:=fun v' h=>by
   obtain ⟨b',rfl,hb'⟩:=Iq h
   rw [hWR.fn _ _ _ hb' rbo]
  have hall:GR R' (wE p s st b4 b5 b6 b7 c bl (.slice (some ⟨g,0,none⟩) k.sources.length cap) k.sources.length k.sources.length 0 x10 (.bool false) x19 x20 x21 x22 undef undef undef undef undef undef).toList
    (wE p s st b4 b5 b6 b7 c bo (.slice (some ⟨g,0,none⟩) k.sources.length cap) k.sources.length k.sources.length 0 x10 (.bool false) x19 x20 x21 x22 undef undef undef undef undef undef).toList :=
   ⟨fun v' h=>aI hfx (sf _ (by simp [iU])) h,fun v' h=>aI hfx (sf _ (by simp [iU])) h,fun v' h=>aI hfx (sf _ (by simp [iU])) h,fun v' h=>aI hfx (sf _ (by simp [iU])) h,fun v' h=>aI hfx (sf _ (by simp [iU])) h,fun v' h=>aI hfx (sf _ (by simp [iU])) h,fun v' h=>aI hfx (sf _ (by simp [iU])) h,fun v' h=>aI hfx (sf _ (by simp [iU])) h,fun v' h=>aI hfx (sf _ (by simp [iU])) h,fun v' h=>aI hfx (sf _ (by simp [iU])) h,fun v' h=>aI hfx (sf _ (by simp [iU])) h,hbo,fun v' h=>aI hfx (sf _ (by simp [iU])) h,fun v' h=>aI hfx (sf _ (by simp [iU])) h,fun v' h=>aI hfx (sf _ (by simp [iU])) h,fun v' h=>aI hfx (sf _ (by simp [iU])) h,fun v' h=>aI hfx (sf _ (by simp [iU])) h,fun v' h=>aI hfx (sf _ (by simp [iU])) h,fun v' h=>aI hfx (.of_flat rfl) h,fun v' h=>aI hfx (sf _ (by simp [iU])) h,fun v' h=>aI hfx (sf _ (by simp [iU])) h,fun v' h=>aI hfx (sf _ (by simp [iU])) h,fun v' h=>aI hfx (sf _ (by simp [iU])) h,fun v' h=>aI hfx (sf _ (by simp [iU])) h,fun v' h=>aI hfx (.of_flat rfl) h,fun v' h=>aI hfx (.of_flat rfl) h,fun v' h=>aI hfx (sf _ (by simp [iU])) h,fun v' h=>aI hfx (sf _ (by simp [iU])) h,fun v' h=>aI hfx (sf _ (by simp [iU])) h,fun v' h=>aI hfx (sf _ (by simp [iU])) h,fun v' h=>aI hfx (sf _ (by simp [iU])) h,fun v' h=>aI hfx (sf _ (by simp [iU])) h,fun v' h=>aI hfx (sf _ (by simp [iU])) h,trivial⟩
  have htm:=CW hAF hall
  obtain ⟨tmps2,defers2⟩:=a2
  simp only at hdf htm
  subst hdf
  subst htm
  have I2:=I.after X hkept hfr h62
  have E2:=hE.after X hkept hWR hle
  have hxx:∀ v∈[x10,.bool false,x19,x20,x21,x22,undef,undef,undef,undef,undef,undef],VR (iq (dK b4 b5 b7 c g D E ++ [b6,bo])) v v:=fun v hv=>by
   have hm:∀ u,VR (iq (dK b4 b5 b7 c g D E ++ [b6])) u u→VR (iq (dK b4 b5 b7 c g D E ++ [b6,bo])) u u:=fun u hu=>hu.mono fun i i' ⟨h1,h2⟩=>⟨h1,by
    simp only [List.mem_append,List.mem_cons,List.not_mem_nil,or_false] at h2 ⊢
    rcases h2 with h2 | h2
    ·exact .inl h2
    ·exact .inr (.inl h2)⟩
   simp only [List.mem_cons,List.not_mem_nil,or_false] at hv
   rcases hv with rfl | rfl | rfl | rfl | rfl | rfl | rfl | rfl | rfl | rfl | rfl | rfl
   all_goals first | exact .of_flat rfl | exact hm _ (hx _ (by simp))
  have hv:wC k s st k.sources.length=((k.sources.map (kX k s st)).reverse).map aJ:=by
   unfold wC
   rw [List.take_length,List.map_reverse,List.map_map]
   rfl
  rw [hv]
  have hlo:=X.lo
  refine aaA X hG hbf hbk (fun wr3 w3 y10 y18 y19 y20 y21 y22 y26 y27 y28 y29 y30 y31 hL hy=>XM X hG hbf hbk hL hy) k.sources.length 0 (by omega) _ _ _ _ _ _ _ _ _ _ _ _ _ _ _ (0,0) ⟨I2,E2,⟨.inr obo,lbo,hc'⟩,by simp,?_,fun y hy=>?_,?_⟩ hxx
  ·rw [GL,H9 (List.reverse_perm _),Dw]
  ·rw [List.mem_reverse] at hy
   obtain ⟨i,_,rfl⟩:=List.mem_map.1 hy
   exact Hy k X.cel.le s st hlo i
  ·unfold Pb
   simp
end
noncomputable def Yo (V:View) (w wA:World) (b6 c:Nat):View:=fun b=>if b=b6∨b=c then none else newV V w wA b
theorem YV {V:View} {w wA:World} {p:Nat} {k:Wk} {ts:List Nat} {vv rv:Value} {s:SS} {st:Bool} {b4 b5 b6 b7 c:Nat} {sl:Value} {D:List Nat} (hC:zO V p k ts vv rv) (hok:k.Ok) (hs:s.WF) (hlo:∀ i,0≤(s.aP i).1) (hhi:∀ i,(s.aP i).2≤1000) (hD:Closed V D) (hp:p∈D) (hV:V.In w)
  (T:ZA V w p k ts s st b4 b5 b6 b7 c sl wA):∃ g cap cur,sl=.slice (some ⟨g,0,none⟩) k.sources.length cap∧yD (Yo V w wA b6 c) wA p k ts vv rv s st b4 b5 b6 b7 c g cap D cur:=by
 have hpos:=vY hok
 have hle:k.sources.length≤6:=Nat.le_trans (sD k k.n) hC.le
 have hGw:Wg.gN≤w.heap.size:=by
  obtain ⟨o,ho⟩:=hD.last
  have:=lt_of_heap (hV _ _ ho)
  omega
 have hnew:∀ {b:Nat},w.heap.size≤b→V b=none:=fun {b} h=>by
  cases hv:V b with
  | none=>rfl
  | some o =>
   have:=lt_of_heap (hV b o hv)
   omega
 have hsub:∀ j o,V j=some o→Yo V w wA b6 c j=some o:=fun j o h=>by
  have h1:j≠b6:=by rintro rfl;rw [hnew T.n6] at h;cases h
  have h2:j≠c:=by rintro rfl;rw [hnew T.nc] at h;cases h
  simp only [Yo,h1,h2,or_self,if_false]
  exact rD hV j o h
 have hN:∀ {b:Nat} {o:Obj},w.heap.size≤b→wA.heap[b]? = some o→b≠b6→b≠c→Yo V w wA b6 c b=some o:=fun {b o} h1 h2 h3 h4=>by
  simp only [Yo,h3,h4,or_self,if_false,newV,show ¬ b < w.heap.size by omega]
  exact h2
 have WE:b6≠c:=by
  rintro rfl
  have:=T.h6
  rw [T.hc] at this
  cases this
 have ne_c:∀ {b:Nat} {cs:Array Value} {t:TypeId} {f:Nat × Nat},wA.heap[b]? = some (.cells cs t f)→b≠c:=fun h=>by
  rintro rfl
  rw [T.hc] at h
  cases h
 obtain ⟨g,cap,cur,rfl,_,_,hcur,hget⟩:=oz T.row.1 hpos
 have hg:=T.new g rfl
 have hti:=(hC.keep hD hp).2
 have hsz:cur.toList.length ≥ k.sources.length:=by
  have:=congrArg List.length hget
  simp only [List.length_take,List.length_map] at this
  omega
 have hsrc:∀ (i x:Nat),k.sources[i]? = some x→cur[i]? = some (ptr (ts.getD x 0)):=fun i x h=>by
  have h1:(cur.toList.take k.sources.length)[i]? = some (ptr (ts.getD x 0)):=by rw [hget,List.getElem?_map,h];rfl
  have hi:i < k.sources.length:=(List.getElem?_eq_some_iff.1 h).1
  rw [List.getElem?_take,if_pos hi] at h1
  simpa using h1
 refine ⟨g,cap,cur,rfl,?_⟩
 have n6:=T.n64
 have h6g:g≠b6:=fun h=>n6.2.2.2 (by rw [h];rfl)
 refine ⟨fun b o h=>?_,hC.mono hsub,hok,hs,hlo,hhi,kM hD hsub,hp,hN T.n4 T.h4 (Ne.symm n6.1) (ne_c T.h4),hN T.n5 T.h5 (Ne.symm n6.2.1) (ne_c T.h5),hN T.n7 T.h7 (Ne.symm n6.2.2.1) (ne_c T.h7),hN hg hcur h6g (ne_c hcur),fun v hv=>?_,hsrc,by simp [Yo],by simp [Yo],T.h6,T.hc,
  ⟨Nat.le_trans hGw T.n4,Nat.le_trans hGw T.n5,Nat.le_trans hGw T.n6,Nat.le_trans hGw T.n7,Nat.le_trans hGw T.nc,Nat.le_trans hGw hg⟩,hle,hpos⟩
 ·unfold Yo at h
  split at h
  ·cases h
  ·unfold newV at h
   split at h
   ·rename_i hlt
    rw [T.kp.old b hlt]
    exact hV b o h
   ·exact h
 ·obtain ⟨i,hi,rfl⟩:=Array.mem_iff_getElem.1 hv
  by_cases hlt:i < k.sources.length
  ·have h1:=hsrc i _ (List.getElem?_eq_getElem hlt)
   rw [Array.getElem?_eq_getElem hi] at h1
   rw [Option.some.inj h1]
   exact .inr (.inl ⟨_,_,rfl,hti _ (Dt (List.getElem?_eq_getElem hlt))⟩)
  ·exact .inl (T.row.2 g rfl cur 124 (0,0) hcur i _ (by omega) (Array.getElem?_eq_getElem hi))
theorem xM {w:World} {v:Value}:Ins fun e w'=>e=.returned v∧Kp w w':=fun e w' τ d h=>⟨h.1,⟨h.2.os,h.2.output,h.2.size,h.2.old⟩⟩
theorem QA {V:View} {p:Nat} {k:Wk} {ts:List Nat} {vv rv:Value} (hC:zO V p k ts vv rv) (hok:k.Ok) (s:SS) (hs:s.WF) (hlo:∀ i,0≤(s.aP i).1) (hhi:∀ i,(s.aP i).2≤1000) (st:Bool) {D:List Nat} (hD:Closed V D) (hp:p∈D) {w:World} (hV:V.In w) (hh:ay OC w) :
  kL Tryd.prog 97 #[ptr p,.agg (dJ s).toArray,.bool st] w fun e w'=>e=.returned (aJ (dW k s st))∧Kp w w':=by
 refine jD Tryd.func97 (show Tryd.f97.body=some B97 from rfl) fun cs b hbf hbk hbr=>?_
 have e30:Tryd.f97.ntmps - (#[ptr p,.agg (dJ s).toArray,.bool st]:Array Value).size=30:=by kernel_rfl
 rw [e30]
 obtain ⟨tm0,htm⟩:∃ tm0,#[ptr p,.agg (dJ s).toArray,.bool st] ++ Array.replicate 30 undef=tm0:=⟨_,rfl⟩
 rw [htm]
 have hst:uw 97 (b.at { tmps:=tm0,defers:=[] } [.code B97]) []:=by
  refine ⟨⟨fun x hx=>?_,(fun d hd=>nomatch hd),.inl hbk⟩,rfl,hbk,hbf⟩
  have:x=.code B97:=by simpa [Frame.at] using hx
  subst this
  exact (show bY true B97=true by kernel_rfl)
 have hGw:Wg.gN≤w.heap.size:=by
  obtain ⟨o,ho⟩:=hD.last
  have:=lt_of_heap (hV _ _ ho)
  omega
 refine yE lT hst hh (S:=fun a w'=>∃ b4 b5 b6 b7 c sl,a=⟨iU p s st b4 b5 b6 b7 c sl k.sources.length 0 undef undef undef undef undef undef,[]⟩∧ZA V w p k ts s st b4 b5 b6 b7 c sl w') ?_ (fun τ d=>?_) ?_ (tgt:=[.code (.block 0 (.loop L1)),.code K8])
 ·rintro a w' τ d ⟨b4,b5,b6,b7,c,sl,rfl,T⟩
  exact ⟨b4,b5,b6,b7,c,sl,rfl,⟨⟨T.kp.os,T.kp.output,T.kp.size,T.kp.old⟩,T.h4,T.h5,T.h6,T.h7,T.hc,⟨T.row.1,T.row.2⟩,T.new,T.n4,T.n5,T.n6,T.n7,T.nc,T.n64⟩⟩
 ·rw [← htm]
  refine (LX p k ts vv rv hC hok s hs st (w.re τ d) hV).mono ?_
  rintro a w' ⟨b4,b5,b6,b7,c,sl,rfl,T⟩
  exact ⟨b4,b5,b6,b7,c,sl,rfl,⟨⟨T.kp.os,T.kp.output,T.kp.size,T.kp.old⟩,T.h4,T.h5,T.h6,T.h7,T.hc,T.row,T.new,T.n4,T.n5,T.n6,T.n7,T.nc,T.n64⟩⟩
 ·rintro a' wA ⟨b4,b5,b6,b7,c,sl,rfl,T⟩ hhA _
  obtain ⟨g,cap,cur,rfl,X⟩:=YV hC hok hs hlo hhi hD hp hV T
  have hGA:Wg.gN≤wA.heap.size:=Nat.le_trans hGw T.kp.size
  refine Tv (WL ?_)
  have I:FT wA b6 c (fun i=>i < wA.heap.size∧i≠b6) (fun i=>i=b6) wA:=⟨fun _ _ _ _=>rfl,Nat.le_refl _,rfl,rfl,fun i h1 h2=>⟨h1,h2⟩,rfl,fun i h=>.inl h,X.h6,⟨_,X.hc,rfl⟩⟩
  have hC1:=aaz X hGA hbf hbk (cs:=cs) (Q:=XE wA k s st b6 c b cs) (fun D1 wr1 w x10 x18 x19 x20 x21 x22 E I hE h22 hx=>XL X hGA hbf hbk I hE h22 hx) k.sources.length 0 (by omega) _ _ wA undef undef undef undef undef undef [] I ⟨fun b hb=>nomatch hb⟩ rfl (fun v hv=>by
   simp only [List.mem_cons,List.not_mem_nil,or_false,or_self] at hv
   subst hv
   exact .of_flat rfl)
  have hB:=Sl (P:=Tryd.prog) (c:=c) (QB:=fun a w'=>XE wA k s st b6 c b cs (fun _=>False) (fun _=>False) [] a w'∧ay OC w') hhA ⟨0,X.hc⟩ (fun h=>X.WE h.symm) (fun i h=>by
   rcases h with h | h
   ·exact h.1
   ·rw [h];exact X.XG) hC1 (fun D wr vs a w h hh=>⟨h.1,⟨rfl,h.2⟩,hh⟩)
  refine hB.bind fun a1 w1 ⟨⟨_,a',ha,hd,h6t,h6,hkept,hsz,hos,hout⟩,hh1⟩=>?_
  subst ha
  refine CV (Hz (v:=aJ (dW k s st)) (fn:=Tryd.f97) hbf hbk hd Tryd.func97 hh1 ?_ ⟨rfl,?_⟩ xM)
  ·have hS:St w1 [b6] (fun _=>none) [.blk b6 27 [.int .i64 (dW k s st).1,.int .i64 (dW k s st).2]] w1:=St.Zj (fun _ _ h=>by cases h) h6 rfl
   exact bH (r1:=.cell 6 27) (by kernel_rfl) (Aa hS (n:=2) 0 h6t rfl (by kernel_rfl) rfl rfl)
  ·refine ⟨hos.trans T.kp.os,hout.trans T.kp.output,Nat.le_trans T.kp.size hsz,fun i hi=>?_⟩
   have h1:=T.n6
   have h2:=T.nc
   have h3:=T.kp.size
   exact (hkept i (by omega) (by omega) (by omega)).trans (T.kp.old i hi)
end Go.Proofs.YtjjmefieegcddaaDoor
namespace Go.Tm
open Go
open Go.Conc
variable {P:Program}
theorem Bq (hS:ED P fun _=>True) {f0:FuncId} {fn:Func} {R:Ending→World→Prop} (hins:Ins R) (hout:∀ w,¬ R .outgrown w) {fr:Frame} {w:World} (hst:uw f0 fr []) (hf:P.funcs[f0]? = some fn) (hw:ay OC w) (hm:fr.mode=.returning)
  (h:∀ τ d,Leaves P fn fr.tmps R fr.defers .returning (w.re τ d)) (cs:List Frame) :
  kU P (G fr cs) w (fun a' w'=>∃ e fr,a'=G fr cs∧R e w'∧fr.fn=f0∧fr.leaving P w' e∧e≠.outgrown∧ay OC w'):=by
 let Stop:Frame→List Frame→World→Prop:=fun fr mine w=>mine=[]∧∃ e,R e w∧e≠.outgrown∧fr.fn=f0∧fr.leaving P w e
 have hfn:fr.fn=f0:=hst.2.2.2
 have hterm:Term P (SH f0 Stop) fr [] w:=by
  refine qU hS ?_ hst hw ?_
  ·rintro fr mine w τ d hw ⟨rfl,e,h1,h2,h3,h4⟩
   exact ⟨rfl,e,hins _ _ _ _ h1,h2,h3,kD hw h4 τ d⟩
  ·intro τ d
   obtain ⟨e,w',fr',h1,h2,h3,h4⟩:=leaves_steps fr.defers .returning (w.re τ d) fr [floor P] hm rfl rfl (by rw [hfn];exact hf) hst.2.2.1 (h τ d)
   cases e with
   | outgrown=>exact (hout _ h1).elim
   | returned v=>exact ⟨fr',[],w',⟨rfl,_,h1,by simp,h3.trans hfn,h4⟩,h2⟩
   | panicked chain=>exact ⟨fr',[],w',⟨rfl,_,h1,by simp,h3.trans hfn,h4⟩,h2⟩
 have:=uS (fun fr mine w d h=>by
  obtain ⟨⟨rfl,e,h1,h2,h3,h4⟩,h5,h6⟩:=h
  exact ⟨⟨rfl,e,hins _ _ w.tape d h1,h2,h3,kD h5 h4 w.tape d⟩,h5,h6⟩) hterm cs
 refine this.mono fun a' w' ⟨fr',mine',h1,⟨h2,e,h3,h4,h5,h6⟩,h7,h8⟩=>?_
 subst h2
 exact ⟨e,fr',h1,h3,h5,h6,h4,h7⟩
end Go.Tm
namespace Go.Proofs.YtjjmefieegcddaaDoor
open Go.RowKit Go.Wg Go.Mm Go.Wk
open Go Go.Sr Go.Ph Go.Tm Go.Conc
variable {w:World} {V:View}
def dC (b:Nat):Deferred:={ target:=.fn (.func 82) #[],args:=#[.pointer (some ⟨b,0,none⟩)] }
noncomputable def B40:Code:=match Tryd.f40.body with | some c=>c | none=>.skip
noncomputable def zF:Array Oper:=match Tryd.f40.body with | some (.seq _ (.seq _ (.seq _ (.seq _ (.seq (.region _ o _) _)))))=>o | _=>#[]
set_option maxRecDepth 20000 in
theorem OO (vv rv:Value) (k:Wk) (hk:iJ V vv rv k) (hG:GV V) (hV:V.In w) (hb:aS k []=0) (hst:Go.Wg.settle k (aN k aC)=none) :
  fA Tryd.prog [.inRegion zF [3,4,5],.code .ret] (fun a w'=>∃ p V' D b1 b2 b3,(∃ x5 x7 x8 x9 x10 x11,a=⟨#[.agg #[vv,rv],ptr b1,ptr b2,ptr b3,ptr p,x5,.agg #[vv,rv],x7,x8,x9,x10,x11,undef,undef,ptr p,ptr p,.agg (dJ (aN k aC)).toArray,undef],[dC b3]⟩) ∧
    jh V' p k∧Closed V' D∧p∈D∧St w [] V' [.blk b3 38 [.int .i64 0],.blk b2 27 [.int .i64 0,.int .i64 0]] w')
   [.code B40] { tmps:=#[.agg #[vv,rv]] ++ Array.replicate 17 undef,defers:=[] } w:=by
 have hk0:=hk
 obtain ⟨va,vcap,rfl,hvc,hvm,hve⟩:=hk0.ves.is
 obtain ⟨ra,rcap,rfl,hrc,hrm,hre⟩:=hk0.rdg.is
 have hS:=St.start w V hV
 clear hk0 hve hre
 have hok:=dP hb
 have hcan:can k (aN k aC)=true:=by unfold can;rw [hst];rfl
 replace hst:=aj hst;replace hcan:=aj hcan;replace hb:=aj hb
 simp only [Array.replicate_succ,Array.replicate_zero,List.push_toArray,List.append_toArray,List.nil_append,List.cons_append]
 unfold ptr
 refine au (aA ?_)
 go_wp2_with (first | ((with_reducible refine gB ?_);refine iK 1 rfl hS rfl rfl rfl ?_;refine ⟨_,za,?_⟩;clear hS;(try clear w');intro b1;intro a' hp;(try simp only [fr] at hp);subst hp;intro w' hS) | ((with_reducible refine gA ?_);refine aT 2 rfl hS rfl rfl ?_;clear hS;(try clear w');intro b2;intro a' hp;(try simp only [fr] at hp);subst hp;intro w' hS) | ((with_reducible refine gA ?_);refine aT 3 rfl hS rfl rfl ?_;clear hS;(try clear w');intro b3;intro a' hp;(try simp only [fr] at hp);subst hp;intro w' hS))
 refine au (aA ?_)
 go_wp2_with (fail)
 refine au (aA ?_)
 go_wp2_with (first | ((first | ((with_reducible refine gL ?_);refine lW hS rfl rfl rfl ?_) | ((with_reducible refine gS ?_);refine pX hS rfl rfl rfl ?_));refine ⟨_,zd,?_⟩;clear hS;(try clear w');intro a' hp;(try simp only [fr] at hp);subst hp;intro w' hS;(try simp only [sE] at hS)) | (go_at_call 77;refine zG hS hk pG (by simp) hb.out ?_;clear hS;(try clear w');intro p V' w' D hVV hcel hD hpD hS;have hG':GV V':=hG.mono hVV))
 refine au (au (aA ?_))
 go_wp2_with (((with_reducible refine gL ?_);refine gY hS rfl rfl rfl ?_);refine ⟨_,zd,?_⟩;clear hS;(try clear w');intro a' hp;(try simp only [fr] at hp);subst hp;intro w' hS;(try simp only [sE] at hS))
 refine dZ (t:=false) rfl (lu (au (ig ?_)))
 refine cO (i:=0) (v:=.pointer (some ⟨p,0,none⟩)) (w':=w') rfl rfl rfl ?_
 refine cO (i:=1) (v:=.pointer (some ⟨p,0,none⟩)) (w':=w') rfl rfl rfl ?_
 refine rZ (i:=2) rfl rfl (run_call_body rfl Tryd.func83 (by kernel_rfl) rfl) ?_
 simp only [List.map_toArray,List.map_cons,List.map_nil]
 show Calls Tryd.prog 83 #[ptr p] w' _
 refine (y8 V' p k hcel hok hcan.out _ (St.view hS)).mono ?_
 rintro e w2 ⟨rfl,hkp⟩
 refine ⟨_,rfl,?_⟩
 replace hS:=hS.kp hkp
 exact bG (tgt:=[.inRegion zF [3,4,5],.code .ret]) ⟨p,V',D,b1,b2,b3,⟨_,_,_,_,_,_,rfl⟩,hcel,hD,hpD,hS.sub (List.Sublist.cons_cons _ (List.Sublist.cons_cons _ (List.Sublist.cons _ (List.Sublist.refl _))))⟩
theorem Vz {w0:World} {V':View} {b1 b2 b3 p:Nat} {r:Int × Int} {x0 x5 x6 x7 x8 x9 x10 x11 x14 x15 x16:Value} (hS:St w0 [] V' [.blk b3 38 [.int .i64 0],.blk b2 27 [.int .i64 0,.int .i64 0]] w) :
  fA Tryd.prog [.code .ret] (fun a w'=>a=⟨#[x0,ptr b1,ptr b2,ptr b3,ptr p,x5,x6,x7,x8,x9,x10,x11,undef,undef,x14,x15,x16,aJ r],[dC b3]⟩∧St w0 [] V' [.blk b3 38 [.int .i64 0],.blk b2 27 [.int .i64 r.1,.int .i64 r.2]] w')
   [.inRegion zF [4,5],.code .ret] ⟨#[x0,ptr b1,ptr b2,ptr b3,ptr p,x5,x6,x7,x8,x9,x10,x11,undef,undef,x14,x15,x16,aJ r],[dC b3]⟩ w:=by
 refine xK hS (i:=4) (vs:=[.int .i64 r.1,.int .i64 r.2]) rfl rfl rfl (j:=1) (i':=0) (n:=2) rfl rfl rfl (by simp [Value.oneCell']) (by kernel_rfl) rfl (by simp) fun w1 hS1=>?_
 refine D6 hS1 (i:=5) (v:=.int .i64 0) rfl rfl rfl (j:=0) (i':=0) rfl rfl rfl rfl (by kernel_rfl) (by simp) fun w2 hS2=>?_
 exact dH (bG (tgt:=[.code .ret]) ⟨rfl,hS2⟩)
def vX (k:Wk):(Int × Int) × Int :=
 if aS k []=0 then (if (Go.Wg.settle k (aN k aC)).isNone then (dW k (aN k aC) false,0) else ((0,0),9)) else ((0,0),aS k [])
set_option maxRecDepth 20000 in
theorem UY (vv rv:Value) (k:Wk) (hk:iJ V vv rv k) (hG:GV V) (hV:V.In w) (hbs:¬ (aS k []=0∧Go.Wg.settle k (aN k aC)=none)) :
  Calls Tryd.prog 40 #[.agg #[vv,rv]] w fun r w'=>r=.returned (.tuple #[aJ (vX k).1,.int .i64 (vX k).2])∧Kp w w':=by
 have hk0:=hk
 obtain ⟨va,vcap,rfl,hvc,hvm,hve⟩:=hk0.ves.is
 obtain ⟨ra,rcap,rfl,hrc,hrm,hre⟩:=hk0.rdg.is
 have hS:=St.start w V hV
 clear hk0 hve hre
 by_cases hb:aS k []=0
 ·have hok:=dP hb
  cases hst:Go.Wg.settle k (aN k aC) with
  | none=>exact (hbs ⟨hb,hst⟩).elim
  | some i =>
   have hC:vX k=((0,0),9):=by unfold vX;rw [if_pos hb,hst];rfl
   rw [hC]
   simp only
   replace hC:=aj hC;replace hst:=aj hst;replace hb:=aj hb
   clear hbs
   go_enter_defers Tryd.func40,Tryd.ntmps40
   go_wp2_with (first | (first | ((first | ((with_reducible refine gL ?_);first | refine gY hS rfl rfl rfl ?_ | refine lW hS rfl rfl rfl ?_) | ((with_reducible refine gS ?_);refine pX hS rfl rfl rfl ?_));refine ⟨_,zd,?_⟩;clear hS;(try clear w');intro a' hp;(try simp only [fr] at hp);subst hp;intro w' hS;(try simp only [sE] at hS)) | ((with_reducible refine gB ?_);refine iK 1 rfl hS rfl rfl rfl ?_;refine ⟨_,za,?_⟩;clear hS;(try clear w');intro b1;intro a' hp;(try simp only [fr] at hp);subst hp;intro w' hS) | ((with_reducible refine gA ?_);refine aT 2 rfl hS rfl rfl ?_;clear hS;(try clear w');intro b2;intro a' hp;(try simp only [fr] at hp);subst hp;intro w' hS) | ((with_reducible refine gA ?_);refine aT 3 rfl hS rfl rfl ?_;clear hS;(try clear w');intro b3;intro a' hp;(try simp only [fr] at hp);subst hp;intro w' hS)) |
    (go_at_call 77;refine eG hS hk pG (by simp) hb.out ?_;clear hS;(try clear w');intro p V' w' hVV hcel hS;have hG':GV V':=hG.mono hVV) |
    (go_at_call 83;refine nH hS (zN V' p k hcel hok i hst.out _ (St.view hS)) ?_;clear hS;(try clear w');intro w' hS))
   (refine vJ hS ?_;clear hS;(try clear w');intro w' hS;(try simp only [sE] at hS);refine ⟨_,by exact dA (r1:=.cell 2 27) (r2:=.cell 3 38) (by kernel_rfl) (by exact rX hS rfl zd) (by exact zA hS rfl zd),?_⟩)
   exact ⟨rfl,hS.bM⟩
 ·clear hbs
  have hC:vX k=((0,0),aS k []):=by unfold vX;rw [if_neg hb]
  rw [hC]
  simp only
  have hb':(aS k [] == 0)=false:=by rw [beq_eq_false_iff_ne];exact hb
  have hE:Go.RowKit.Hid (∃ e,aS k []=e):=aj ⟨_,rfl⟩
  obtain ⟨e,he⟩:=hE.out
  rw [he] at hb' ⊢
  replace hC:=aj hC;replace he:=aj he
  go_enter_defers Tryd.func40,Tryd.ntmps40
  go_wp2_with (first | (first | ((first | ((with_reducible refine gL ?_);first | refine gY hS rfl rfl rfl ?_ | refine lW hS rfl rfl rfl ?_) | ((with_reducible refine gS ?_);refine pX hS rfl rfl rfl ?_));refine ⟨_,zd,?_⟩;clear hS;(try clear w');intro a' hp;(try simp only [fr] at hp);subst hp;intro w' hS;(try simp only [sE] at hS)) | ((with_reducible refine gB ?_);refine iK 1 rfl hS rfl rfl rfl ?_;refine ⟨_,za,?_⟩;clear hS;(try clear w');intro b1;intro a' hp;(try simp only [fr] at hp);subst hp;intro w' hS) | ((with_reducible refine gA ?_);refine aT 2 rfl hS rfl rfl ?_;clear hS;(try clear w');intro b2;intro a' hp;(try simp only [fr] at hp);subst hp;intro w' hS) | ((with_reducible refine gA ?_);refine aT 3 rfl hS rfl rfl ?_;clear hS;(try clear w');intro b3;intro a' hp;(try simp only [fr] at hp);subst hp;intro w' hS)) |
   (go_at_call 77;refine fF hS hk pG (by simp) hb ?_;rw [he.out];clear hS;(try clear w');intro w' hS))
  (refine bF (S:=(St w [] V [.blk b3 38 [.int .i64 e]])) [false,false,false,false] rfl (by kernel_rfl) ?_;replace hS:=St.eY hS;(iterate 2 ((first | refine hxp 0 rfl ?_ | refine hxa 1 rfl ?_);intro a' l' hp hl;(try simp only [fr] at hp);(try simp only [sB] at hl);subst hp;subst hl));((refine wQ 2 (by kernel_rfl) rfl hS rfl  rfl rfl ?_;refine ⟨_,zd,?_⟩);clear hS;(try clear w');intro a' l' hp hl;(try simp only [fr] at hp);(try simp only [sB] at hl);subst hp;subst hl;intro w' hS;(try simp only [sE] at hS);refine ⟨(St.aG hS),?_⟩);((refine jl 3 (by kernel_rfl) rfl hS rfl  rfl rfl ?_;refine ⟨_,zd,?_⟩);clear hS;(try clear w');intro a' l' hp hl;(try simp only [fr] at hp);(try simp only [sB] at hl);subst hp;subst hl;intro w' hS;(try simp only [sE] at hS);refine ⟨(St.aG hS),?_⟩);refine wpAnyH_done (by kernel_rfl) ?_ _)
  go_wp2_with (fail)
  (refine iF hS ?_;clear hS;(try clear w');intro w' hS;(try simp only [sE] at hS);refine ⟨_,by exact dA (r1:=.cell 2 27) (r2:=.cell 3 38) (by kernel_rfl) (by exact rX hS rfl zd) (by exact zA hS rfl zd),?_⟩)
  exact ⟨by rfl,(hS.bM)⟩
theorem ZB (vv rv:Value) (k:Wk) (hk:iJ V vv rv k) (hG:GV V) (hV:V.In w) (hh:ay OC w) :
  kL Tryd.prog 40 #[.agg #[vv,rv]] w fun r w'=>r=.returned (.tuple #[aJ (vX k).1,.int .i64 (vX k).2])∧Kp w w':=by
 by_cases hbs:aS k []=0∧Go.Wg.settle k (aN k aC)=none
 ·obtain ⟨hb,hst⟩:=hbs
  have hC:vX k=(dW k (aN k aC) false,0):=by unfold vX;rw [if_pos hb,hst];rfl
  rw [hC]
  have hok:=dP hb
  refine jD Tryd.func40 (show Tryd.f40.body=some B40 from rfl) fun cs b hbf hbk hbr=>?_
  have e17:Tryd.f40.ntmps - (#[.agg #[vv,rv]]:Array Value).size=17:=by kernel_rfl
  rw [e17]
  obtain ⟨tm0,htm⟩:∃ tm0,#[Value.agg #[vv,rv]] ++ Array.replicate 17 undef=tm0:=⟨_,rfl⟩
  rw [htm]
  have hsk:uw 40 (b.at { tmps:=tm0,defers:=[] } [.code B40]) []:=by
   refine ⟨⟨fun x hx=>?_,(fun d hd=>nomatch hd),.inl hbk⟩,rfl,hbk,hbf⟩
   have:x=.code B40:=by simpa [Frame.at] using hx
   subst this
   exact (show bY true B40=true by kernel_rfl)
  have hio:(zF.all fun o=>qj true o.op)=true:=by kernel_rfl
  have hdC:∀ b3,iZ (dC b3):=fun b3=>by simp [iZ,dC]
  refine yE lT hsk hh (fun a w' τ d h=>?_) (fun τ d=>?_) ?_ (tgt:=[.inRegion zF [3,4,5],.code .ret]) (S:=fun a w'=>∃ p V' D b1 b2 b3,(∃ x5 x7 x8 x9 x10 x11,a=⟨#[.agg #[vv,rv],ptr b1,ptr b2,ptr b3,ptr p,x5,.agg #[vv,rv],x7,x8,x9,x10,x11,undef,undef,ptr p,ptr p,.agg (dJ (aN k aC)).toArray,undef],[dC b3]⟩) ∧
    jh V' p k∧Closed V' D∧p∈D∧St w [] V' [.blk b3 38 [.int .i64 0],.blk b2 27 [.int .i64 0,.int .i64 0]] w')
  ·obtain ⟨p,V',D,b1,b2,b3,h1,h2,h3,h4,h5⟩:=h
   exact ⟨p,V',D,b1,b2,b3,h1,h2,h3,h4,h5.re1 τ d⟩
  ·rw [← htm]
   refine (OO (w:=w.re τ d) vv rv k hk hG hV hb hst).mono ?_
   rintro a w' ⟨p,V',D,b1,b2,b3,h1,h2,h3,h4,h5⟩
   exact ⟨p,V',D,b1,b2,b3,h1,h2,h3,h4,h5.re0⟩
  ·rintro a' wA ⟨p,V',D,b1,b2,b3,⟨x5,x7,x8,x9,x10,x11,rfl⟩,⟨ts,vv',rv',hcel⟩,hD,hpD,hS⟩ hhA _
   have htot:=QA hcel hok (aN k aC) (gG _ _) (QU k hok aC) (fun i=>Int.le_trans (Jy k hok aC i) (by decide)) false hD hpD hS.view hhA
   refine Ou lT (i:=3) (o:=zF[3]!) (r:=true) rfl rfl (by rw [hbk];decide) rfl hhA (fun _ _ _=>trivial) fun d=>?_
   rw [run_call_body rfl Tryd.func97 (by kernel_rfl) rfl]
   intro hhd
   simp only [List.map_toArray,List.map_cons,List.map_nil]
   have hat:∀ {Q:Goroutine→World→Prop} {g:Goroutine},kU Tryd.prog g wA Q→kU Tryd.prog g (wA.at d) Q:=fun h=>h.at
   refine hat (xI (i:=3) (o:=zF[3]!) rfl htot (fun v w1 ⟨hv,hk1⟩ hh1=>?_) fun ch w1 ⟨hv,_⟩ _=>nomatch hv)
   cases hv
   replace hS:=hS.kp hk1
   show kU Tryd.prog (G (b.at ⟨#[.agg #[vv,rv],ptr b1,ptr b2,ptr b3,ptr p,x5,.agg #[vv,rv],x7,x8,x9,x10,x11,undef,undef,ptr p,ptr p,.agg (dJ (aN k aC)).toArray,aJ (dW k (aN k aC) false)],[dC b3]⟩ [.inRegion zF [4,5],.code .ret]) cs) w1 _
   refine yE lT (f0:=40) ⟨⟨fun x hx=>?_,fun d hd=>?_,.inl hbk⟩,rfl,hbk,hbf⟩ hh1 (fun a w' τ d h=>⟨h.1,h.2.re1 τ d⟩) (fun τ d=>Vz (hS.re1 τ d)) ?_
   ·have:x=.inRegion zF [4,5]∨x=.code .ret:=by simpa [Frame.at] using hx
    rcases this with rfl | rfl
    ·exact hio
    ·exact (show bY true .ret=true from rfl)
   ·have:d=dC b3:=by simpa [Frame.at] using hd
    subst this
    exact hdC b3
   ·rintro a' w2 ⟨rfl,hS2⟩ hh2 _
    refine CV ?_
    refine (Bq (fr:={ b.at ⟨#[.agg #[vv,rv],ptr b1,ptr b2,ptr b3,ptr p,x5,.agg #[vv,rv],x7,x8,x9,x10,x11,undef,undef,ptr p,ptr p,.agg (dJ (aN k aC)).toArray,aJ (dW k (aN k aC) false)],[dC b3]⟩ [.code .ret] with mode:=.returning }) lT xM (fun w h=>nomatch h.1) (fn:=Tryd.f40) ⟨⟨fun x hx=>?_,fun d hd=>?_,.inl hbk⟩,rfl,hbk,hbf⟩ Tryd.func40 hh2 rfl (fun τ d=>?_) cs)
    ·have:x=.code .ret:=by simpa [Frame.at] using hx
     subst this
     exact (show bY true .ret=true from rfl)
    ·have:d=dC b3:=by simpa [Frame.at] using hd
     subst this
     exact hdC b3
    ·refine iF (R:=fun r w'=>r=.returned (.tuple #[aJ (dW k (aN k aC) false),.int .i64 0])∧Kp w w') (hS2.re1 τ d) fun w3 hS3=>⟨_,dA (r1:=.cell 2 27) (r2:=.cell 3 38) (by kernel_rfl) (Aa hS3 (n:=2) 1 rfl rfl (by kernel_rfl) rfl rfl) (AO hS3 0 rfl rfl (by kernel_rfl) rfl),rfl,hS3.bM⟩
 ·refine uF lT xM (fun w h=>nomatch h.1) hh fun τ d=>?_
  exact (UY (w:=w.re τ d) vv rv k hk hG hV hbs).mono fun e w' h=>⟨h.1,⟨h.2.os,h.2.output,h.2.size,h.2.old⟩⟩
end Go.Proofs.YtjjmefieegcddaaDoor
