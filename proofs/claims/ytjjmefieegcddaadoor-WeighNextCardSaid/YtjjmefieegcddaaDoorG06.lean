/- A part of the proof: M1, M2, M3, M4, M6, M7, M8, Q1, Q2, S2, S3, S4, S5, S6, S7, S8, S9. -/
import Derived.Test.YtjjmefieegcddaaDoorG05
import Derived.Deep.MidRow
import Derived.OwnWalk
import Derived.OrdersHeld
import Derived.Below
import Derived.Maps.AppendAt
import Derived.BigRegion
import Derived.Test.YtjjmefieegcddaaDoorProg
set_option linter.unusedVariables false
set_option linter.unusedSimpArgs false
set_option maxHeartbeats 8000000
namespace Go.Mm
open Go
abbrev View:=Nat→Option Obj
def View.In (V:View) (w:World):Prop:=∀ k o,V k=some o→w.heap[k]? = some o
def View.Cell (V:View) (b i:Nat) (v:Value):Prop:=∃ cs t fr,V b=some (.cells cs t fr)∧cs[i]? = some v
def View.Range (V:View) (b i:Nat) (vs:List Value):Prop:=∀ j v,vs[j]? = some v→V.Cell b (i+j) v
theorem View.Cell.cell {V:View} {w:World} {b i:Nat} {v:Value} (h:V.Cell b i v) (hV:V.In w):w.cell? ⟨b,i,none⟩=some v:=by
 obtain ⟨cs,t,fr,h1,h2⟩:=h
 rw [cell_of_row w b i cs t fr (hV _ _ h1)];exact h2
theorem View.Range.range {V:View} {w:World} {b i:Nat} {vs:List Value} (h:V.Range b i vs) (hV:V.In w):w.rangeAt b i vs:=fun j v hj=>(h j v hj).cell hV
theorem View.Cell.mono {V V':View} {b i:Nat} {v:Value} (h:V.Cell b i v) (hV:∀ k o,V k=some o→V' k=some o):V'.Cell b i v:=by
 obtain ⟨cs,t,fr,h1,h2⟩:=h
 exact ⟨cs,t,fr,hV _ _ h1,h2⟩
theorem View.Range.mono {V V':View} {b i:Nat} {vs:List Value} (h:V.Range b i vs) (hV:∀ k o,V k=some o→V' k=some o):V'.Range b i vs:=fun j v hj=>(h j v hj).mono hV
inductive dF where
 | blk (b:Nat) (t:TypeId) (cs:List Value)
 | row (v:Value) (t:TypeId) (size n:Nat) (xs:List Value)
def dF.foot:dF→Option Nat
 | .blk b _ _=>some b
 | .row v _ _ _ _=>v.ownBlock
def iL:Value→Bool
 | .int _ _ | .bool _ | .pointer none | .slice none _ _=>true
 | _=>false
def DR (w:World) (v:Value) (k:Nat):Prop:=∀ g,v.ownBlock=some g→∀ cur t fr,w.heap[g]? = some (.cells cur t fr)→∀ i c,k≤i→cur[i]? = some c→iL c=true
def dF.Holds (w:World):dF→Prop
 | .blk b t cs=>w.heap[b]? = some (.cells cs.toArray t (0,0))
 | .row v t s n xs=>w.ownsRow 0 t s v n xs∧DR w v (n * s)
structure St (w0:World) (X:List Nat) (V:View) (L:List dF) (w:World):Prop where
 os:w.os=w0.os
 output:w.output=w0.output
 size:w0.heap.size≤w.heap.size
 old:∀ k,k < w0.heap.size→k ∉ X→w.heap[k]? = w0.heap[k]?
 view:V.In w
 has:∀ e∈L,e.Holds w
 new:∀ e∈L,∀ b,e.foot=some b→w0.heap.size≤b∨b∈X
 off:∀ e∈L,∀ b,e.foot=some b→V b=none
 nd:(L.filterMap dF.foot).Nodup
structure Kp (w w':World):Prop where
 os:w'.os=w.os
 output:w'.output=w.output
 size:w.heap.size≤w'.heap.size
 old:∀ k,k < w.heap.size→w'.heap[k]? = w.heap[k]?
theorem Kp.refl (w:World):Kp w w:=⟨rfl,rfl,Nat.le_refl _,fun _ _=>rfl⟩
theorem Kp.drew (w:World) (n:Nat):Kp w (w.drewN n):=⟨rfl,rfl,Nat.le_refl _,fun _ _=>rfl⟩
theorem Kp.trans {a b c:World} (h:Kp a b) (k:Kp b c):Kp a c :=
 ⟨k.os.trans h.os,k.output.trans h.output,Nat.le_trans h.size k.size,fun i hi=>(k.old i (Nat.lt_of_lt_of_le hi h.size)).trans (h.old i hi)⟩
theorem lt_of_heap {w:World} {k:Nat} {o:Obj} (h:w.heap[k]? = some o):k < w.heap.size:=by
 rcases Nat.lt_or_ge k w.heap.size with h1 | h1
 ·exact h1
 ·rw [Array.getElem?_eq_none h1] at h;cases h
theorem View.In.kp {V:View} {w w':World} (h:V.In w) (k:Kp w w'):V.In w':=fun i o hi=>by
 have:=h i o hi
 rw [k.old i (lt_of_heap this)];exact this
theorem Ci {w w':World} {e:TypeId} {s n:Nat} {v:Value} {xs:List Value} (h:w.ownsRow 0 e s v n xs) (hb:∀ g,v.ownBlock=some g→w'.heap[g]? = w.heap[g]?):w'.ownsRow 0 e s v n xs:=by
 obtain ⟨h1,h2⟩:=h
 refine ⟨h1,?_⟩
 rcases h2 with h2 | ⟨g,cap,cur,rfl,h3,h4,h5⟩
 ·exact .inl h2
 ·exact .inr ⟨g,cap,cur,rfl,h3,by rw [hb g rfl];exact h4,h5⟩
theorem dF.Holds.of_heap {w w':World} {e:dF} (h:e.Holds w) (hb:∀ g,e.foot=some g→w'.heap[g]? = w.heap[g]?):e.Holds w':=by
 cases e with
 | blk b t cs=>exact (hb b rfl).trans h
 | row v t s n xs=>exact ⟨Ci h.1 hb,fun g hg cur t fr hc=>h.2 g hg cur t fr (by rw [← hb g hg];exact hc)⟩
theorem dF.Holds.lt {w:World} {e:dF} (h:e.Holds w) {g:Nat} (hg:e.foot=some g):g < w.heap.size:=by
 cases e with
 | blk b t cs=>cases hg;exact lt_of_heap h
 | row v t s n xs=>exact (World.ownsRow.lt h.1 g hg).2
variable {w0:World} {X:List Nat} {V:View} {L:List dF} {w w':World}
theorem St.start (w:World) (V:View) (hV:V.In w):St w [] V [] w :=
 ⟨rfl,rfl,Nat.le_refl _,fun _ _ _=>rfl,hV,by simp,by simp,by simp,by simp⟩
theorem St.kp (h:St w0 X V L w) (k:Kp w w'):St w0 X V L w' :=
 ⟨k.os.trans h.os,k.output.trans h.output,Nat.le_trans h.size k.size,fun i hi hx=>(k.old i (Nat.lt_of_lt_of_le hi h.size)).trans (h.old i hi hx),
  h.view.kp k,fun e he=>(h.has e he).of_heap (fun g hg=>k.old g ((h.has e he).lt hg)),h.new,h.off,h.nd⟩
theorem St.drew (h:St w0 X V L w) (n:Nat):St w0 X V L (w.drewN n):=h.kp (Kp.drew w n)
theorem St.bM (h:St w0 [] V L w):Kp w0 w:=⟨h.os,h.output,h.size,fun k hk=>h.old k hk (by simp)⟩
theorem vN {e:dF} {b:Nat} (he:e∈L) (hf:e.foot=some b):b∈L.filterMap dF.foot:=List.mem_filterMap.2 ⟨e,he,hf⟩
theorem St.alloc (h:St w0 X V L w) (t:TypeId) (cs:List Value):St w0 X V (.blk w.heap.size t cs :: L) (w.alloc (.cells cs.toArray t)):=by
 have hold:∀ k,k < w.heap.size→(w.alloc (.cells cs.toArray t)).heap[k]? = w.heap[k]?:=fun k hk=>heap_alloc_old w _ hk
 have hlt:∀ e∈L,∀ b,e.foot=some b→b < w.heap.size:=fun e he b hb=>(h.has e he).lt hb
 refine ⟨h.os,h.output,?_,fun k hk hx=>(hold k (Nat.lt_of_lt_of_le hk h.size)).trans (h.old k hk hx),fun k o hk=>?_,?_,?_,?_,?_⟩
 ·have:=h.size
  show _≤(w.heap.push _).size
  simp;omega
 ·have:=h.view k o hk
  rw [hold k (lt_of_heap this)];exact this
 ·intro e he
  rcases List.mem_cons.1 he with rfl | he
  ·exact heap_alloc_new w _
  ·exact (h.has e he).of_heap (fun g hg=>hold g (hlt e he g hg))
 ·intro e he b hb
  rcases List.mem_cons.1 he with rfl | he
  ·cases hb;exact .inl h.size
  ·exact h.new e he b hb
 ·intro e he b hb
  rcases List.mem_cons.1 he with rfl | he
  ·cases hb
   cases hv:V w.heap.size with
   | none=>rfl
   | some o=>exact absurd (lt_of_heap (h.view _ _ hv)) (Nat.lt_irrefl _)
  ·exact h.off e he b hb
 ·show (List.filterMap dF.foot (dF.blk w.heap.size t cs :: L)).Nodup
  rw [List.filterMap_cons_some (f:=dF.foot) (b:=w.heap.size) rfl,List.nodup_cons]
  refine ⟨fun hm=>?_,h.nd⟩
  obtain ⟨e,he,hf⟩:=List.mem_filterMap.1 hm
  exact absurd (hlt e he _ hf) (Nat.lt_irrefl _)
theorem CZ (hnd:(L.filterMap dF.foot).Nodup) {j i:Nat} {e f:dF} (hj:L[j]? = some e) (hi:L[i]? = some f) (hji:j≠i) {b:Nat} (he:e.foot=some b):f.foot≠some b:=by
 induction L generalizing j i with
 | nil=>simp at hj
 | cons a L ih =>
  intro hf
  cases ha:a.foot with
  | none =>
   rw [List.filterMap_cons_none ha] at hnd
   cases j with
   | zero=>simp at hj;subst hj;rw [he] at ha;cases ha
   | succ j =>
    cases i with
    | zero=>simp at hi;subst hi;rw [hf] at ha;cases ha
    | succ i=>exact ih hnd (by simpa using hj) (by simpa using hi) (by omega) hf
  | some c =>
   rw [List.filterMap_cons_some ha,List.nodup_cons] at hnd
   cases j with
   | zero =>
    simp at hj;subst hj
    rw [he] at ha;cases ha
    cases i with
    | zero=>exact hji rfl
    | succ i=>exact hnd.1 (vN (List.mem_of_getElem? (by simpa using hi)) hf)
   | succ j =>
    cases i with
    | zero =>
     simp at hi;subst hi
     rw [hf] at ha;cases ha
     exact hnd.1 (vN (List.mem_of_getElem? (by simpa using hj)) he)
    | succ i=>exact ih hnd.2 (by simpa using hj) (by simpa using hi) (by omega) hf
theorem mX {j:Nat} {e f:dF} (hj:L[j]? = some e) (hf:f.foot=e.foot):(L.set j f).filterMap dF.foot=L.filterMap dF.foot:=by
 induction L generalizing j with
 | nil=>simp at hj
 | cons a L ih =>
  cases j with
  | zero=>simp at hj;subst hj;simp [List.filterMap_cons,hf]
  | succ j =>
   simp only [List.set_cons_succ,List.filterMap_cons]
   rw [ih (by simpa using hj)]
theorem St.set (h:St w0 X V L w) {j:Nat} {e f:dF} {b:Nat} (hj:L[j]? = some e) (he:e.foot=some b) (hf:f.foot=some b)
  (hos:w'.os=w.os) (hout:w'.output=w.output) (hsz:w'.heap.size=w.heap.size) (hoth:∀ k,k≠b→w'.heap[k]? = w.heap[k]?) (hh:f.Holds w') {L':List dF} (hL:L.set j f=L'):St w0 X V L' w':=by
 subst hL
 have hem:e∈L:=List.mem_of_getElem? hj
 have hb:=h.new e hem b he
 have hbV:=h.off e hem b he
 refine ⟨hos.trans h.os,hout.trans h.output,by rw [hsz];exact h.size,fun k hk hx=>?_,fun k o hk=>?_,?_,?_,?_,?_⟩
 ·have hkb:k≠b:=by
   rintro rfl
   rcases hb with hb | hb
   ·omega
   ·exact hx hb
  exact (hoth k hkb).trans (h.old k hk hx)
 ·have hkb:k≠b:=by rintro rfl;rw [hbV] at hk;cases hk
  rw [hoth k hkb];exact h.view k o hk
 ·intro g hg
  rcases List.getElem?_of_mem hg with ⟨i,hi⟩
  rw [List.getElem?_set] at hi
  by_cases hji:j=i
  ·subst hji
   have hl:j < L.length:=by
    rcases List.getElem?_eq_some_iff.1 hj with ⟨hl,_⟩;exact hl
   simp [hl] at hi
   subst hi;exact hh
  ·simp [hji] at hi
   have hgL:g∈L:=List.mem_of_getElem? hi
   exact (h.has g hgL).of_heap (fun k hk=>hoth k (by rintro rfl;exact CZ h.nd hj hi hji he hk))
 ·intro g hg c hc
  rcases List.mem_or_eq_of_mem_set hg with hg | rfl
  ·exact h.new g hg c hc
  ·rw [hf] at hc;cases hc;exact hb
 ·intro g hg c hc
  rcases List.mem_or_eq_of_mem_set hg with hg | rfl
  ·exact h.off g hg c hc
  ·rw [hf] at hc;cases hc;exact hbV
 ·rw [mX hj (by rw [hf,he])];exact h.nd
theorem St.at (h:St w0 X V L w) {j:Nat} {b:Nat} {t:TypeId} {cs:List Value} (hj:L[j]? = some (.blk b t cs)):w.heap[b]? = some (.cells cs.toArray t (0,0)) :=
 h.has _ (List.mem_of_getElem? hj)
theorem St.wu (h:St w0 X V L w) {j:Nat} {v:Value} {t:TypeId} {s n:Nat} {xs:List Value} (hj:L[j]? = some (.row v t s n xs)):w.ownsRow 0 t s v n xs :=
 (h.has _ (List.mem_of_getElem? hj)).1
theorem St.Wj (h:St w0 X V L w) {j:Nat} {v:Value} {t:TypeId} {s n:Nat} {xs:List Value} (hj:L[j]? = some (.row v t s n xs)):DR w v (n * s) :=
 (h.has _ (List.mem_of_getElem? hj)).2
theorem St.freeze {b:Nat} {t:TypeId} {cs:List Value} (h:St w0 X V (.blk b t cs :: L) w):St w0 X (fun k=>if k=b then some (.cells cs.toArray t (0,0)) else V k) L w:=by
 refine ⟨h.os,h.output,h.size,h.old,fun k o hk=>?_,fun e he=>h.has e (List.mem_cons_of_mem _ he),fun e he=>h.new e (List.mem_cons_of_mem _ he),fun e he c hc=>?_,?_⟩
 ·by_cases hkb:k=b
  ·subst hkb
   simp at hk;subst hk
   exact h.has _ (List.mem_cons_self ..)
  ·simp [hkb] at hk;exact h.view k o hk
 ·have hcb:c≠b:=by
   rintro rfl
   have:=h.nd
   rw [List.filterMap_cons_some (f:=dF.foot) (b:=c) rfl,List.nodup_cons] at this
   exact this.1 (vN he hc)
  simp [hcb]
  exact h.off e (List.mem_cons_of_mem _ he) c hc
 ·have:=h.nd
  rw [List.filterMap_cons_some (f:=dF.foot) (b:=b) rfl,List.nodup_cons] at this
  exact this.2
theorem St.drop {e:dF} (h:St w0 X V (e :: L) w):St w0 X V L w :=
 ⟨h.os,h.output,h.size,h.old,h.view,fun g hg=>h.has g (List.mem_cons_of_mem _ hg),fun g hg=>h.new g (List.mem_cons_of_mem _ hg),fun g hg=>h.off g (List.mem_cons_of_mem _ hg),by
  have:=h.nd
  cases he:e.foot with
  | none=>rwa [List.filterMap_cons_none he] at this
  | some b=>rw [List.filterMap_cons_some he,List.nodup_cons] at this;exact this.2⟩
theorem St.perm (h:St w0 X V L w) {L':List dF} (hp:L.Perm L'):St w0 X V L' w :=
 ⟨h.os,h.output,h.size,h.old,h.view,fun g hg=>h.has g (hp.mem_iff.2 hg),fun g hg=>h.new g (hp.mem_iff.2 hg),fun g hg=>h.off g (hp.mem_iff.2 hg),(hp.filterMap dF.foot).nodup_iff.1 h.nd⟩
theorem St.weaken (h:St w0 X V L w) {V':View} (hV:∀ k o,V' k=some o→V k=some o):St w0 X V' L w :=
 ⟨h.os,h.output,h.size,h.old,fun k o hk=>h.view k o (hV k o hk),h.has,h.new,(fun e he b hb=>by
  cases hv:V' b with
  | none=>rfl
  | some o=>have:=h.off e he b hb;rw [hV b o hv] at this;cases this),h.nd⟩
theorem St.call (h:St w0 X V L w) (k:Kp w w') {V':View} (hV:V'.In w') (hnew:∀ i,i < w.heap.size→V' i=V i):St w0 X V' L w':=by
 have h':=h.kp k
 exact ⟨h'.os,h'.output,h'.size,h'.old,hV,h'.has,h'.new,fun e he b hb=>by rw [hnew b ((h.has e he).lt hb)];exact h.off e he b hb,h'.nd⟩
structure ni (b:Nat) (w w':World):Prop where
 os:w'.os=w.os
 output:w'.output=w.output
 size:w.heap.size≤w'.heap.size
 old:∀ k,k < w.heap.size→k≠b→w'.heap[k]? = w.heap[k]?
theorem St.but {e:dF} {b:Nat} (h:St w0 X V (e :: L) w) (he:e.foot=some b) (k:ni b w w'):St w0 X V L w':=by
 have hd:=h.drop
 have hb:=h.new e (List.mem_cons_self ..) b he
 have hbV:=h.off e (List.mem_cons_self ..) b he
 have hbL:∀ f∈L,∀ g,f.foot=some g→g≠b:=fun f hf g hg hgb=>by
  subst hgb
  have:=h.nd
  rw [List.filterMap_cons_some (f:=dF.foot) he,List.nodup_cons] at this
  exact this.1 (vN hf hg)
 refine ⟨k.os.trans h.os,k.output.trans h.output,Nat.le_trans h.size k.size,fun j hj hx=>?_,fun j o hj=>?_,fun f hf=>?_,hd.new,hd.off,hd.nd⟩
 ·have hjb:j≠b:=by
   rintro rfl
   rcases hb with hb | hb
   ·omega
   ·exact hx hb
  exact (k.old j (Nat.lt_of_lt_of_le hj h.size) hjb).trans (h.old j hj hx)
 ·have hjb:j≠b:=by rintro rfl;rw [hbV] at hj;cases hj
  have:=h.view j o hj
  rw [k.old j (lt_of_heap this) hjb];exact this
 ·exact (hd.has f hf).of_heap fun g hg=>k.old g ((hd.has f hf).lt hg) (hbL f hf g hg)
theorem St.sub {L':List dF} (h:St w0 X V L w) (hs:L'.Sublist L):St w0 X V L' w :=
 ⟨h.os,h.output,h.size,h.old,h.view,fun g hg=>h.has g (hs.subset hg),fun g hg=>h.new g (hs.subset hg),fun g hg=>h.off g (hs.subset hg),(hs.filterMap dF.foot).nodup h.nd⟩
end Go.Mm
namespace Go.Mm
open Go
variable {P:Program}
def uK (P:Program) (ty:TypeId):Bool:=match P.underlying ty with | some (.struct _) | some (.array _ _)=>false | some _=>(P.info? ty).any (·.size == 1) | none=>false
def rowB (P:Program) (ty:TypeId) (n:Nat):Bool:=(match P.underlying ty with | some (.struct _) | some (.array _ _)=>true | _=>false) && (P.info? ty).any (·.size == n)
def QD (P:Program) (ty:TypeId):List Value:=match (P.info? ty).bind (·.zero) with | some v=>v.cells.toList | none=>[]
def QK (P:Program) (ty:TypeId):Bool:=((P.info? ty).bind (·.zero)).isSome
theorem qR {ty:TypeId} (h:uK P ty=true) (w:World):(isAgg ty).run P w=.ok false w:=by
 unfold uK at h
 cases hu:P.underlying ty with
 | none=>rw [hu] at h;cases h
 | some d =>
  unfold isAgg
  rw [Sem.run_bind,run_underlying hu w]
  rw [hu] at h
  cases d <;> simp_all
theorem sW {ty:TypeId} {n:Nat} (h:rowB P ty n=true):∃ d,P.underlying ty=some d∧d.isRow=true∧(P.info? ty).map (·.size)=some n:=by
 unfold rowB at h
 simp only [Bool.and_eq_true] at h
 obtain ⟨h1,h2⟩:=h
 cases hu:P.underlying ty with
 | none=>rw [hu] at h1;cases h1
 | some d =>
  rw [hu] at h1
  refine ⟨d,rfl,?_,?_⟩
  ·cases d <;> simp_all
  ·cases hq:P.info? ty with
   | none=>rw [hq] at h2;cases h2
   | some i=>rw [hq] at h2;simpa using h2
theorem aX {w:World} {b o:Nat} {cs:List Value} {t:TypeId} {fr:Nat × Nat} {v:Value} (hb:w.heap[b]? = some (.cells cs.toArray t fr)) (hv:cs[o]? = some v):w.cell? ⟨b,o,none⟩=some v:=by
 rw [cell_of_row w b o _ t fr hb];simpa using hv
theorem lK {w:World} {b o n:Nat} {cs vs:List Value} {t:TypeId} {fr:Nat × Nat} (hb:w.heap[b]? = some (.cells cs.toArray t fr)) (hv:(cs.drop o).take n=vs):w.rangeAt b o vs:=fun j v hj=>by
 refine aX hb ?_
 subst hv
 rw [List.getElem?_take] at hj
 split at hj
 ·rwa [List.getElem?_drop] at hj
 ·cases hj
theorem Wh {cs:List Value} {n:Nat} (h:cs.length=n):(cs.drop 0).take n=cs:=by subst h;simp
theorem fP {o:Oper} {ρ:Operand→Value} {w:World} {ty:TypeId} {x:Operand} (ho:o.op=.load ty x) {b i:Nat} (hx:ρ x=.pointer (some ⟨b,i,none⟩)) (hty:uK P ty=true)
  {v:Value} (hc:w.cell? ⟨b,i,none⟩=some v):(execOp ρ o).run P w=.ok (.value v) w:=by
 unfold execOp
 simp only [ho,hx,Instr.loadAt,Instr.sureAddr,Sem.run_bind,Sem.run_pure,Result.andThen_ok,loadVar,qR hty]
 simp [hc]
theorem iy {o:Oper} {ρ:Operand→Value} {w:World} {ty:TypeId} {x:Operand} (ho:o.op=.load ty x) {b i n:Nat} (hx:ρ x=.pointer (some ⟨b,i,none⟩)) (hty:rowB P ty n=true)
  {vs:List Value} (hn:vs.length=n) (hc:w.rangeAt b i vs):(execOp ρ o).run P w=.ok (.value (.agg vs.toArray)) w:=by
 obtain ⟨d,hu,hd,hi⟩:=sW hty
 unfold execOp
 simp only [ho,hx,Instr.loadAt,Instr.sureAddr,Sem.run_bind,Sem.run_pure,Result.andThen_ok,run_loadVar_mid w b i ty vs d hc hu hd (by rw [hi,hn])]
theorem qL (w:World) (a:Addr) (v:Value) (k:Nat) (hk:k≠a.block):(w.setCell a v).heap[k]? = w.heap[k]?:=heap_setCell_other w a k v hk
theorem xw (b:Nat) (t:TypeId):∀ (vs:List Value) (o:Nat) (w:World) (cs:List Value),w.heap[b]? = some (.cells cs.toArray t (0,0))→o+vs.length≤cs.length →
  (w.setCells b o vs).heap[b]? = some (.cells (cs.take o ++ vs ++ cs.drop (o+vs.length)).toArray t (0,0))
 | [],o,w,cs,hb,_=>by simpa [World.setCells] using hb
 | v :: r,o,w,cs,hb,hl=>by
  have h1:(w.setCell ⟨b,o,none⟩ v).heap[b]? = some (.cells (cs.set o v).toArray t (0,0)):=by
   rw [heap_setCell_same w b o _ t v hb];simp
  have:=xw b t r (o+1) _ _ h1 (by simp at hl ⊢;omega)
  show ((w.setCell ⟨b,o,none⟩ v).setCells b (o+1) r).heap[b]? = _
  rw [this]
  congr 3
  simp only [List.length_cons] at hl ⊢
  rw [List.take_set,List.drop_set_of_lt (by omega)]
  apply List.ext_getElem?
  intro i
  simp only [List.append_assoc,List.cons_append,List.getElem?_append,List.length_set,List.length_take,List.getElem?_set,List.getElem?_take,List.getElem?_cons,List.getElem?_drop]
  have e1:min (o+1) cs.length=o+1:=by omega
  have e2:min o cs.length=o:=by omega
  rw [e1,e2]
  by_cases h1:i < o
  ·simp [h1,show i < o+1 by omega,show ¬ o=i by omega]
  ·by_cases h2:i=o
   ·subst h2;simp
   ·have h3:¬ i < o+1:=by omega
    simp only [h1,h3,if_false]
    have h4:i - o≠0:=by omega
    simp only [h4,if_false]
    rw [show i - o - 1=i - (o+1) by omega]
    simp only [show o+(r.length+1)=o+1+r.length by omega]
theorem qP:∀ (vs:List Value) (b o:Nat) (w:World),(w.setCells b o vs).os=w.os∧(w.setCells b o vs).output=w.output∧(w.setCells b o vs).heap.size=w.heap.size∧∀ k,k≠b→(w.setCells b o vs).heap[k]? = w.heap[k]?
 | [],_,_,_=>⟨rfl,rfl,rfl,fun _ _=>rfl⟩
 | v :: r,b,o,w=>by
  have h:=qP r b (o+1) (w.setCell ⟨b,o,none⟩ v)
  refine ⟨h.1,h.2.1,h.2.2.1.trans (by simp [World.setCell]),fun k hk=>(h.2.2.2 k hk).trans (qL w _ v k hk)⟩
def splice (cs:List Value) (o:Nat) (vs:List Value):List Value:=cs.take o ++ vs ++ cs.drop (o+vs.length)
variable {w0:World} {X:List Nat} {V:View} {L:List dF} {w:World}
theorem LV {b o n:Nat} {cs:List Value} {t:TypeId} (hb:w.heap[b]? = some (.cells cs.toArray t (0,0))) (hl:o+n≤cs.length):w.there b o n:=fun j hj=>by
 constructor
 ·rw [cell_of_row w b (o+j) _ t (0,0) hb]
  simp only [List.getElem?_toArray]
  rw [List.getElem?_eq_getElem (by omega)];rfl
 ·exact frozen_of_row w b (o+j) _ t hb
theorem yg (hS:St w0 X V L w) {o:Oper} {ρ:Operand→Value} {ty:TypeId} {x y:Operand} (ho:o.op=.store ty x y) {j b i:Nat} {t:TypeId} {cs:List Value} (hj:L[j]? = some (.blk b t cs))
  (hx:ρ x=.pointer (some ⟨b,i,none⟩)) {v:Value} (hy:ρ y=v) (hv:v.oneCell'=true) (hty:uK P ty=true) (hl:i < cs.length) {L':List dF} (hL:L.set j (.blk b t (cs.set i v))=L') :
  ∃ w',(execOp ρ o).run P w=.ok .skip w'∧St w0 X V L' w':=by
 have hb:=hS.at hj
 refine ⟨w.setCell ⟨b,i,none⟩ v,?_,?_⟩
 ·have hc:w.cell? ⟨b,i,none⟩=some (cs[i]'hl):=aX hb (List.getElem?_eq_getElem hl)
  have hf:=frozen_of_row w b i _ t hb
  have hsz:v.cells=#[v]:=by cases v <;> first | rfl | (cases hv)
  have hi:(sizeOf ty).run P w=.ok 1 w:=by
   unfold uK at hty
   cases hq:P.info? ty with
   | none=>rw [hq] at hty;split at hty <;> simp_all
   | some q =>
    rw [hq] at hty
    have:q.size=1:=by split at hty <;> simp_all
    simp [sizeOf,typeInfo,hq,this]
  unfold execOp
  have hadd:(⟨b,i,none⟩:Addr).add 0=⟨b,i,none⟩:=by rw [Addr.add_mid];rfl
  simp only [ho,hx,hy,Instr.storeAt,Instr.sureAddr,Sem.run_bind,Sem.run_pure,Result.andThen_ok,storeVar,hi,hsz]
  simp [storeCells,hadd,run_store P w _ v _ hv,hc,hf]
 ·refine hS.set (w':=w.setCell ⟨b,i,none⟩ v) hj rfl (f:=.blk b t (cs.set i v)) rfl rfl rfl (by simp [World.setCell]) (fun k hk=>qL w _ v k hk) ?_ hL
  show (w.setCell ⟨b,i,none⟩ v).heap[b]? = _
  rw [heap_setCell_same w b i _ t v hb];simp
theorem xJ (hS:St w0 X V L w) {o:Oper} {ρ:Operand→Value} {ty:TypeId} {x y:Operand} (ho:o.op=.store ty x y) {j b i n:Nat} {t:TypeId} {cs vs:List Value} (hj:L[j]? = some (.blk b t cs))
  (hx:ρ x=.pointer (some ⟨b,i,none⟩)) (hy:ρ y=.agg vs.toArray) (hv:∀ v∈vs,v.oneCell'=true) (hty:rowB P ty n=true) (hn:vs.length=n) (hl:i+n≤cs.length)
  {L':List dF} (hL:L.set j (.blk b t (splice cs i vs))=L') :
  ∃ w',(execOp ρ o).run P w=.ok .skip w'∧St w0 X V L' w':=by
 have hb:=hS.at hj
 obtain ⟨d,hu,hd,hi⟩:=sW hty
 subst hn
 obtain ⟨h1,h2,h3,h4⟩:=qP vs b i w
 refine ⟨w.setCells b i vs,?_,?_⟩
 ·unfold execOp
  simp only [ho,hx,hy,Instr.storeAt,Instr.sureAddr,Sem.run_bind,Sem.run_pure,Result.andThen_ok,run_storeVar_mid w b i ty vs.toArray (LV hb hl) (by simpa using hi) (all_oneCell_toArray hv)]
 ·exact hS.set hj rfl (f:=.blk b t (splice cs i vs)) rfl h1 h2 h3 h4 (xw b t vs i w cs hb hl) hL
theorem Ye (hS:St w0 X V L w) {o:Oper} {ρ:Operand→Value} {ty:TypeId} {x:Operand} (ho:o.op=.box ty x) {v:Value} (hx:ρ x=v) {cs:List Value} (hc:v.cells=cs.toArray) :
  (execOp ρ o).run P w=.ok (.value (.pointer (some ⟨w.heap.size,0,none⟩))) (w.alloc (.cells cs.toArray ty))∧St w0 X V (.blk w.heap.size ty cs :: L) (w.alloc (.cells cs.toArray ty)):=by
 refine ⟨?_,hS.alloc ty cs⟩
 unfold execOp
 simp only [ho,hx,Instr.box,newVar,newRow,hc]
 rfl
theorem Aq (hS:St w0 X V L w) {o:Oper} {ρ:Operand→Value} {ty:TypeId} (ho:o.op=.alloc ty) (hz:QK P ty=true) {cs:List Value} (hc:QD P ty=cs) :
  (execOp ρ o).run P w=.ok (.value (.pointer (some ⟨w.heap.size,0,none⟩))) (w.alloc (.cells cs.toArray ty))∧St w0 X V (.blk w.heap.size ty cs :: L) (w.alloc (.cells cs.toArray ty)):=by
 refine ⟨?_,hS.alloc ty cs⟩
 unfold execOp
 unfold QK at hz
 unfold QD at hc
 cases hq:P.info? ty with
 | none=>rw [hq] at hz;cases hz
 | some q =>
  rw [hq] at hz hc
  cases hzz:q.zero with
  | none=>simp [hzz] at hz
  | some z =>
   simp [hzz] at hc
   subst hc
   simp [ho,Instr.alloc,zeroValue,typeInfo,hq,hzz,newVar,newRow]
section
variable {ops:Array Oper} {rest:List Oper} {o:Oper} {a:Act} {Q:Exit→Act→World→Prop}
theorem xE (hw:Region.wanted o (yielded ops a.tmps)=true) (h:∀ K:Act→World→Prop,(∀ a w,wpList P ops Q rest a w→K a w)→o.wp P a w K Q):wpList P ops Q (o :: rest) a w:=by
 unfold wpList
 rw [hw]
 exact .inl (h _ fun _ _ h=>h)
theorem dU {v:Value} {w':World} (hgd:Region.wanted o (yielded ops a.tmps)=true) (hr:(execOp a.eval o).run P w=.ok (.value v) w') (h:wpList P ops Q rest (a.put o.dst v) w'):wpList P ops Q (o :: rest) a w :=
 xE hgd fun _ hK=>by unfold Oper.wp;rw [hr];exact hK _ _ h
theorem ES {w':World} (hgd:Region.wanted o (yielded ops a.tmps)=true) (hr:(execOp a.eval o).run P w=.ok .skip w') (h:wpList P ops Q rest (a.put o.dst undef) w'):wpList P ops Q (o :: rest) a w :=
 xE hgd fun _ hK=>by unfold Oper.wp;rw [hr];exact hK _ _ h
theorem OA (hS:St w0 X V L w) (hgd:Region.wanted o (yielded ops a.tmps)=true) {ty:TypeId} {x y:Operand} (ho:o.op=.store ty x y) (j:Nat) {b i:Nat} {t:TypeId} {cs:List Value}
  {v:Value} (hx:a.eval x=.pointer (some ⟨b,i,none⟩)) (hj:L[j]? = some (.blk b t cs)) (hy:a.eval y=v) (hv:v.oneCell'=true) (hty:uK P ty=true) (hl:i < cs.length) {L':List dF} (hL:L.set j (.blk b t (cs.set i v))=L')
  (h:∀ w',St w0 X V L' w'→wpList P ops Q rest (a.put o.dst undef) w'):wpList P ops Q (o :: rest) a w:=by
 obtain ⟨w',hr,hS'⟩:=yg hS ho hj hx hy hv hty hl hL
 exact ES hgd hr (h w' hS')
theorem FN (hS:St w0 X V L w) (hgd:Region.wanted o (yielded ops a.tmps)=true) {ty:TypeId} {x y:Operand} (ho:o.op=.store ty x y) (j:Nat) {b i n:Nat} {t:TypeId} {cs vs:List Value}
  (hx:a.eval x=.pointer (some ⟨b,i,none⟩)) (hj:L[j]? = some (.blk b t cs)) (hy:a.eval y=.agg vs.toArray) (hv:∀ v∈vs,v.oneCell'=true) (hty:rowB P ty n=true) (hn:vs.length=n) (hl:i+n≤cs.length)
  {L':List dF} (hL:L.set j (.blk b t (splice cs i vs))=L') (h:∀ w',St w0 X V L' w'→wpList P ops Q rest (a.put o.dst undef) w'):wpList P ops Q (o :: rest) a w:=by
 obtain ⟨w',hr,hS'⟩:=xJ hS ho hj hx hy hv hty hn hl hL
 exact ES hgd hr (h w' hS')
theorem BA {cs vs:List Value} (h:cs.length=vs.length):splice cs 0 vs=vs:=by
 unfold splice
 simp [← h]
theorem OU {cs vs:List Value} {i:Nat} (h:i+vs.length≤cs.length):(splice cs i vs).length=cs.length:=by
 unfold splice
 simp;omega
theorem Jd (hS:St w0 X V L w) (hgd:Region.wanted o (yielded ops a.tmps)=true) {ty:TypeId} {x y:Operand} (ho:o.op=.store ty x y) (j:Nat) {b n:Nat} {t:TypeId} {cs vs:List Value}
  (hx:a.eval x=.pointer (some ⟨b,0,none⟩)) (hj:L[j]? = some (.blk b t cs)) (hy:a.eval y=.agg vs.toArray) (hv:∀ v∈vs,v.oneCell'=true) (hty:rowB P ty n=true) (hn:vs.length=n) (hl:cs.length=n)
  {L':List dF} (hL:L.set j (.blk b t vs)=L') (h:∀ w',St w0 X V L' w'→wpList P ops Q rest (a.put o.dst undef) w'):wpList P ops Q (o :: rest) a w :=
 FN hS hgd ho j hx hj hy hv hty hn (by omega) (by rw [BA (by omega)];exact hL) h
theorem Yd (hS:St w0 X V L w) (hgd:Region.wanted o (yielded ops a.tmps)=true) {ty:TypeId} {x:Operand} (ho:o.op=.box ty x) {v:Value} (hx:a.eval x=v) {cs:List Value} (hc:v.cells=cs.toArray)
  (h:∀ b w',St w0 X V (.blk b ty cs :: L) w'→wpList P ops Q rest (a.put o.dst (.pointer (some ⟨b,0,none⟩))) w'):wpList P ops Q (o :: rest) a w:=by
 obtain ⟨hr,hS'⟩:=Ye (P:=P) hS ho hx hc
 exact dU hgd hr (h _ _ hS')
theorem SL (hS:St w0 X V L w) (hgd:Region.wanted o (yielded ops a.tmps)=true) {ty:TypeId} (ho:o.op=.alloc ty) (hz:QK P ty=true) {cs:List Value} (hc:QD P ty=cs)
  (h:∀ b w',St w0 X V (.blk b ty cs :: L) w'→wpList P ops Q rest (a.put o.dst (.pointer (some ⟨b,0,none⟩))) w'):wpList P ops Q (o :: rest) a w:=by
 obtain ⟨hr,hS'⟩:=Aq (P:=P) (ρ:=a.eval) hS ho hz hc
 exact dU hgd hr (h _ _ hS')
theorem Td (hS:St w0 X V L w) (hgd:Region.wanted o (yielded ops a.tmps)=true) {ty:TypeId} {x:Operand} (ho:o.op=.load ty x) (j:Nat) {b i:Nat} {t:TypeId} {cs:List Value}
  {v:Value} (hx:a.eval x=.pointer (some ⟨b,i,none⟩)) (hj:L[j]? = some (.blk b t cs)) (hty:uK P ty=true) (hv:cs[i]? = some v)
  (h:wpList P ops Q rest (a.put o.dst v) w):wpList P ops Q (o :: rest) a w :=
 dU hgd (fP ho hx hty (aX (hS.at hj) hv)) h
theorem Ud (hS:St w0 X V L w) (hgd:Region.wanted o (yielded ops a.tmps)=true) {ty:TypeId} {x:Operand} (ho:o.op=.load ty x) (j:Nat) {b i n:Nat} {t:TypeId} {cs vs:List Value}
  (hx:a.eval x=.pointer (some ⟨b,i,none⟩)) (hj:L[j]? = some (.blk b t cs)) (hty:rowB P ty n=true) (hv:(cs.drop i).take n=vs) (hn:vs.length=n)
  (h:wpList P ops Q rest (a.put o.dst (.agg vs.toArray)) w):wpList P ops Q (o :: rest) a w :=
 dU hgd (iy ho hx hty hn (lK (hS.at hj) hv)) h
theorem PU (hS:St w0 X V L w) (hgd:Region.wanted o (yielded ops a.tmps)=true) {ty:TypeId} {x:Operand} (ho:o.op=.load ty x) {b i:Nat}
  {v:Value} (hx:a.eval x=.pointer (some ⟨b,i,none⟩)) (hty:uK P ty=true) (hv:V.Cell b i v)
  (h:wpList P ops Q rest (a.put o.dst v) w):wpList P ops Q (o :: rest) a w :=
 dU hgd (fP ho hx hty (hv.cell hS.view)) h
theorem Om (hS:St w0 X V L w) (hgd:Region.wanted o (yielded ops a.tmps)=true) {ty:TypeId} {x:Operand} (ho:o.op=.load ty x) {b i n:Nat} {vs:List Value}
  (hx:a.eval x=.pointer (some ⟨b,i,none⟩)) (hty:rowB P ty n=true) (hv:V.Range b i vs) (hn:vs.length=n)
  (h:wpList P ops Q rest (a.put o.dst (.agg vs.toArray)) w):wpList P ops Q (o :: rest) a w :=
 dU hgd (iy ho hx hty hn (hv.range hS.view)) h
end
section
variable {ops:Array Oper} {o:Oper} {a:Act} {K:Act→World→Prop} {Q:Exit→Act→World→Prop} {i₀:Nat}
theorem oO {v:Value} {w':World} (hi:ops[i₀]? = some o) (hgd:Region.wanted o (yielded ops a.tmps)=true) (hr:(execOp a.eval o).run P w=.ok (.value v) w') (h:K (a.put o.dst v) w'):wpOp P ops Q i₀ K a w:=by
 unfold wpOp
 simp only [hi]
 rw [hgd]
 exact .inl (by unfold Oper.wp;rw [hr];exact h)
theorem Nh {w':World} (hi:ops[i₀]? = some o) (hgd:Region.wanted o (yielded ops a.tmps)=true) (hr:(execOp a.eval o).run P w=.ok .skip w') (h:K (a.put o.dst undef) w'):wpOp P ops Q i₀ K a w:=by
 unfold wpOp
 simp only [hi]
 rw [hgd]
 exact .inl (by unfold Oper.wp;rw [hr];exact h)
theorem Rx {v:Value} {f:FuncId} {args:Array Value} {R:World→Prop} (hi:ops[i₀]? = some o) (hgd:Region.wanted o (yielded ops a.tmps)=true) (hr:(execOp a.eval o).run P w=.ok (.enter f args) w)
  (hc:Calls P f args w fun e w'=>e=.returned v∧R w') (h:∀ w',R w'→K (a.put o.dst v) w'):wpOp P ops Q i₀ K a w:=by
 unfold wpOp
 simp only [hi]
 rw [hgd]
 refine .inl ?_
 unfold Oper.wp
 rw [hr]
 exact hc.mono fun e w' ⟨he,hR⟩=>by subst he;exact h w' hR
theorem PS (hS:St w0 X V L w) (hi:ops[i₀]? = some o) (hgd:Region.wanted o (yielded ops a.tmps)=true) {ty:TypeId} {x y:Operand} (ho:o.op=.store ty x y) (j:Nat) {b i:Nat} {t:TypeId} {cs:List Value}
  {v:Value} (hx:a.eval x=.pointer (some ⟨b,i,none⟩)) (hj:L[j]? = some (.blk b t cs)) (hy:a.eval y=v) (hv:v.oneCell'=true) (hty:uK P ty=true) (hl:i < cs.length) {L':List dF} (hL:L.set j (.blk b t (cs.set i v))=L')
  (h:∀ w',St w0 X V L' w'→K (a.put o.dst undef) w'):wpOp P ops Q i₀ K a w:=by
 obtain ⟨w',hr,hS'⟩:=yg hS ho hj hx hy hv hty hl hL
 exact Nh hi hgd hr (h w' hS')
theorem Di (hS:St w0 X V L w) (hi:ops[i₀]? = some o) (hgd:Region.wanted o (yielded ops a.tmps)=true) {ty:TypeId} {x y:Operand} (ho:o.op=.store ty x y) (j:Nat) {b i n:Nat} {t:TypeId} {cs vs:List Value}
  (hx:a.eval x=.pointer (some ⟨b,i,none⟩)) (hj:L[j]? = some (.blk b t cs)) (hy:a.eval y=.agg vs.toArray) (hv:∀ v∈vs,v.oneCell'=true) (hty:rowB P ty n=true) (hn:vs.length=n) (hl:i+n≤cs.length)
  {L':List dF} (hL:L.set j (.blk b t (splice cs i vs))=L') (h:∀ w',St w0 X V L' w'→K (a.put o.dst undef) w'):wpOp P ops Q i₀ K a w:=by
 obtain ⟨w',hr,hS'⟩:=xJ hS ho hj hx hy hv hty hn hl hL
 exact Nh hi hgd hr (h w' hS')
theorem Il (hS:St w0 X V L w) (hi:ops[i₀]? = some o) (hgd:Region.wanted o (yielded ops a.tmps)=true) {ty:TypeId} {x y:Operand} (ho:o.op=.store ty x y) (j:Nat) {b n:Nat} {t:TypeId} {cs vs:List Value}
  (hx:a.eval x=.pointer (some ⟨b,0,none⟩)) (hj:L[j]? = some (.blk b t cs)) (hy:a.eval y=.agg vs.toArray) (hv:∀ v∈vs,v.oneCell'=true) (hty:rowB P ty n=true) (hn:vs.length=n) (hl:cs.length=n)
  {L':List dF} (hL:L.set j (.blk b t vs)=L') (h:∀ w',St w0 X V L' w'→K (a.put o.dst undef) w'):wpOp P ops Q i₀ K a w :=
 Di hS hi hgd ho j hx hj hy hv hty hn (by omega) (by rw [BA (by omega)];exact hL) h
theorem aeE (hS:St w0 X V L w) (hi:ops[i₀]? = some o) (hgd:Region.wanted o (yielded ops a.tmps)=true) {ty:TypeId} (ho:o.op=.alloc ty) (hz:QK P ty=true) {cs:List Value} (hc:QD P ty=cs)
  (h:∀ b w',St w0 X V (.blk b ty cs :: L) w'→K (a.put o.dst (.pointer (some ⟨b,0,none⟩))) w'):wpOp P ops Q i₀ K a w:=by
 obtain ⟨hr,hS'⟩:=Aq (P:=P) (ρ:=a.eval) hS ho hz hc
 exact oO hi hgd hr (h _ _ hS')
theorem TU {ty:TypeId} {x:Operand} (ho:o.op=.load ty x) (j:Nat) {b i:Nat} {t:TypeId} {cs:List Value} {v:Value} (hgd:Region.wanted o (yielded ops a.tmps)=true) (hx:a.eval x=.pointer (some ⟨b,i,none⟩)) (hj:L[j]? = some (.blk b t cs))
  (hty:uK P ty=true) (hv:cs[i]? = some v):YieldsIf P ops (St w0 X V L) o v a :=
 .inl ⟨hgd,fun _ hS=>fP ho hx hty (aX (hS.at hj) hv)⟩
theorem RN {ty:TypeId} {x:Operand} (ho:o.op=.load ty x) (j:Nat) {b i n:Nat} {t:TypeId} {cs vs:List Value} (hgd:Region.wanted o (yielded ops a.tmps)=true) (hx:a.eval x=.pointer (some ⟨b,i,none⟩)) (hj:L[j]? = some (.blk b t cs))
  (hty:rowB P ty n=true) (hv:(cs.drop i).take n=vs) (hn:vs.length=n):YieldsIf P ops (St w0 X V L) o (.agg vs.toArray) a :=
 .inl ⟨hgd,fun _ hS=>iy ho hx hty hn (lK (hS.at hj) hv)⟩
theorem PE {ty:TypeId} {x:Operand} (ho:o.op=.load ty x) {b i:Nat} {v:Value} (hgd:Region.wanted o (yielded ops a.tmps)=true) (hx:a.eval x=.pointer (some ⟨b,i,none⟩))
  (hty:uK P ty=true) (hv:V.Cell b i v):YieldsIf P ops (St w0 X V L) o v a :=
 .inl ⟨hgd,fun _ hS=>fP ho hx hty (hv.cell hS.view)⟩
theorem ad1 {ty:TypeId} {x:Operand} (ho:o.op=.load ty x) {b i n:Nat} {vs:List Value} (hgd:Region.wanted o (yielded ops a.tmps)=true) (hx:a.eval x=.pointer (some ⟨b,i,none⟩))
  (hty:rowB P ty n=true) (hv:V.Range b i vs) (hn:vs.length=n):YieldsIf P ops (St w0 X V L) o (.agg vs.toArray) a :=
 .inl ⟨hgd,fun _ hS=>iy ho hx hty hn (hv.range hS.view)⟩
end
section
variable {o:Oper} {a:Act} {K:Act→Prop}
theorem qp {C:World→Prop} {v:Value} (hr:∀ w,C w→(execOp a.eval o).run P w=.ok (.value v) w) (h:K (a.put o.dst v)):o.quiet P a C K :=
 ⟨v,fun w hw=>by unfold Oper.quietAt;rw [hr w hw];exact ⟨rfl,rfl⟩,h⟩
theorem Nb {C:World→Prop} {v:Value} {f:FuncId} {args:Array Value} (hr:∀ w,C w→(execOp a.eval o).run P w=.ok (.enter f args) w)
  (hc:∀ w,C w→Calls P f args w fun e w'=>e=.returned v∧C w') (h:K (a.put o.dst v)):o.quiet P a C K :=
 ⟨v,fun w hw=>by unfold Oper.quietAt;rw [hr w hw];exact ⟨rfl,hc w hw⟩,h⟩
theorem Nc {ty:TypeId} {x:Operand} (ho:o.op=.load ty x) (j:Nat) {b i:Nat} {t:TypeId} {cs:List Value} {v:Value} (hx:a.eval x=.pointer (some ⟨b,i,none⟩)) (hj:L[j]? = some (.blk b t cs))
  (hty:uK P ty=true) (hv:cs[i]? = some v) (h:K (a.put o.dst v)):o.quiet P a (St w0 X V L) K :=
 qp (fun _ hS=>fP ho hx hty (aX (hS.at hj) hv)) h
theorem LY {ty:TypeId} {x:Operand} (ho:o.op=.load ty x) (j:Nat) {b i n:Nat} {t:TypeId} {cs vs:List Value} (hx:a.eval x=.pointer (some ⟨b,i,none⟩)) (hj:L[j]? = some (.blk b t cs))
  (hty:rowB P ty n=true) (hv:(cs.drop i).take n=vs) (hn:vs.length=n) (h:K (a.put o.dst (.agg vs.toArray))):o.quiet P a (St w0 X V L) K :=
 qp (fun _ hS=>iy ho hx hty hn (lK (hS.at hj) hv)) h
theorem St.eY (h:St w0 X V L w):St w0 X V L { w with drawn:=w.drawn+1 }:=h.drew 1
end
theorem aj {p:Prop} (h:p):Go.RowKit.Hid p:=h
theorem L9 {P:Program} {w0:World} {X:List Nat} {V:View} {L:List dF} {f:FuncId} {args:Array Value} {w:World} {v:Value} (hS:St w0 X V L w)
  (h:Calls P f args w fun e w'=>e=.returned v∧Kp w w'):Calls P f args w fun e w'=>e=.returned v∧St w0 X V L w' :=
 h.mono fun _ _ ⟨he,hk⟩=>⟨he,hS.kp hk⟩
theorem rH {P:Program} {w0:World} {X:List Nat} {V:View} {L:List dF} {f:FuncId} {args:Array Value} {w:World} {v:Value} {R:Ending→World→Prop} (hS:St w0 X V L w)
  (hc:Calls P f args w fun e w'=>e=.returned v∧Kp w w') (h:∀ w',St w0 X V L w'→R (.returned v) w'):Calls P f args w R :=
 hc.mono fun _ _ ⟨he,hk⟩=>by subst he;exact h _ (hS.kp hk)
def iI (tmps:Array Value):ResultVar→Sem Value
 | .tmp t=>pure (tmps.getD t undef)
 | .cell a t=>do loadVar t (← asAddr (tmps.getD a undef))
theorem mO (fn:Func) (tmps:Array Value):results fn tmps=(do
  let vs ← fn.results.mapM (iI tmps)
  pure (if h:vs.size=1 then vs[0] else .tuple vs)):=by
 unfold results
 have:(fun x:ResultVar=>(match x with | .tmp t=>pure (tmps.getD t undef) | .cell a t=>do loadVar t (← asAddr (tmps.getD a undef)):Sem Value))=iI tmps:=by
  funext x;cases x <;> rfl
 rw [← this]
 rfl
theorem bH {fn:Func} {tmps:Array Value} {r1:ResultVar} (h:fn.results=#[r1]) {v1:Value} (h1:(iI tmps r1).run P w=.ok v1 w):(results fn tmps).run P w=.ok v1 w:=by
 rw [mO,h]
 simp [h1]
theorem dA {fn:Func} {tmps:Array Value} {r1 r2:ResultVar} (h:fn.results=#[r1,r2]) {v1 v2:Value} (h1:(iI tmps r1).run P w=.ok v1 w) (h2:(iI tmps r2).run P w=.ok v2 w) :
  (results fn tmps).run P w=.ok (.tuple #[v1,v2]) w:=by
 rw [mO,h]
 simp [h1,h2]
theorem results3 {fn:Func} {tmps:Array Value} {r1 r2 r3:ResultVar} (h:fn.results=#[r1,r2,r3]) {v1 v2 v3:Value} (h1:(iI tmps r1).run P w=.ok v1 w) (h2:(iI tmps r2).run P w=.ok v2 w) (h3:(iI tmps r3).run P w=.ok v3 w) :
  (results fn tmps).run P w=.ok (.tuple #[v1,v2,v3]) w:=by
 rw [mO,h]
 simp [h1,h2,h3]
theorem FB {fn:Func} {tmps:Array Value} (h:fn.results=#[]):(results fn tmps).run P w=.ok (.tuple #[]) w:=by
 rw [mO,h]
 simp
theorem yS {tmps:Array Value} {t:Tmp} {v:Value} (h:tmps.getD t undef=v):(iI tmps (.tmp t)).run P w=.ok v w:=by subst h;rfl
theorem AO (hS:St w0 X V L w) {tmps:Array Value} {t:Tmp} {ty:TypeId} (j:Nat) {b i:Nat} {t':TypeId} {cs:List Value} {v:Value} (hx:tmps.getD t undef=.pointer (some ⟨b,i,none⟩)) (hj:L[j]? = some (.blk b t' cs))
  (hty:uK P ty=true) (hv:cs[i]? = some v):(iI tmps (.cell t ty)).run P w=.ok v w:=by
 have hc:=aX (hS.at hj) hv
 have hx':tmps[t]?.getD undef=.pointer (some ⟨b,i,none⟩):=by simpa using hx
 simp [iI,hx',asAddr,loadVar,Sem.run_bind,qR hty,hc]
theorem Aa (hS:St w0 X V L w) {tmps:Array Value} {t:Tmp} {ty:TypeId} (j:Nat) {b i n:Nat} {t':TypeId} {cs vs:List Value} (hx:tmps.getD t undef=.pointer (some ⟨b,i,none⟩)) (hj:L[j]? = some (.blk b t' cs))
  (hty:rowB P ty n=true) (hv:(cs.drop i).take n=vs) (hn:vs.length=n):(iI tmps (.cell t ty)).run P w=.ok (.agg vs.toArray) w:=by
 obtain ⟨d,hu,hd,hi⟩:=sW hty
 have hx':tmps[t]?.getD undef=.pointer (some ⟨b,i,none⟩):=by simpa using hx
 simp [iI,hx',asAddr,Sem.run_bind,run_loadVar_mid w b i ty vs d (lK (hS.at hj) hv) hu hd (by rw [hi,hn])]
theorem aB {fn:Func} {R:Ending→World→Prop} {a:Act} (h:bodyPost P fn R .ret a w):bodyPost P fn R .normal a w:=h
def VP (P:Program) (t e:TypeId):Bool:=(match P.underlying t with | some (.slice e')=>e' == e | _=>false) && uK P e && ((P.info? e).bind (·.zero)).isSome
def tagged (n:Nat):List Value→List (Nat × Value)
 | []=>[]
 | v :: vs=>(n,v) :: tagged (n+1) vs
theorem AQ:∀ (vs pre:List Value) (cells:List Value),cells.length=pre.length+vs.length→cells.take pre.length=pre→(∀ v∈vs,v.oneCell'=true) →
  Instr.fill (fun i=>some (i * 1,1)) cells.toArray (tagged pre.length vs)=some (pre ++ vs).toArray
 | [],pre,cells,h1,h2,_=>by
  simp only [tagged,Instr.fill,List.append_nil]
  rw [← h2,List.take_of_length_le (by simp at h1;omega)]
 | v :: vs,pre,cells,h1,h2,h3=>by
  have hv:v.cells=#[v]:=by
   have:=h3 v (by simp)
   cases v <;> first | rfl | (cases this)
  simp only [List.length_cons] at h1
  simp only [tagged,Instr.fill,hv]
  have hc:(pre.length * 1 + #[v].size > cells.toArray.size)=False:=by simp;omega
  simp only [List.size_toArray,List.length_cons,List.length_nil,Nat.zero_add,ne_eq,not_true_eq_false,decide_false,Bool.false_or,decide_eq_true_eq,Nat.mul_one]
  rw [if_neg (by simp;omega)]
  have:=AQ vs (pre ++ [v]) (cells.set pre.length v) (by simp;omega) (by
   rw [List.length_append,List.length_cons,List.length_nil,List.take_set,List.take_succ_eq_append_getElem (by omega),h2]
   simp) (fun x hx=>h3 x (by simp [hx]))
  simp only [List.length_append,List.length_cons,List.length_nil,Nat.zero_add,List.append_assoc,List.cons_append,List.nil_append,Nat.mul_one] at this
  rw [← this]
  congr 1
  simp
theorem DV {o:Oper} {ρ:Operand→Value} {t e:TypeId} {len:Nat} {parts:Array (Nat × Operand)} (ho:o.op=.buildSlice t len parts) {vs:List Value}
  (hp:(parts.toList.map fun p=>(p.1,ρ p.2))=tagged 0 vs) (hn:vs.length=len) (hl:len≤100) (h1:∀ v∈vs,v.oneCell'=true) (ht:VP P t e=true) (w:World) :
  (execOp ρ o).run P w=.ok (.value (.slice (some ⟨w.heap.size,0,none⟩) len len)) (w.alloc (.cells vs.toArray e)):=by
 unfold VP at ht
 simp only [Bool.and_eq_true] at ht
 obtain ⟨⟨ht1,ht2⟩,ht3⟩:=ht
 have hu:P.underlying t=some (.slice e):=by
  cases hd:P.underlying t with
  | none=>rw [hd] at ht1;cases ht1
  | some d=>rw [hd] at ht1;cases d <;> simp_all
 unfold uK at ht2
 cases hq:P.info? e with
 | none=>rw [hq] at ht3;cases ht3
 | some q =>
  rw [hq] at ht3 ht2
  have hs:q.size=1:=by
   cases hu2:P.underlying e with
   | none=>rw [hu2] at ht2;cases ht2
   | some d=>rw [hu2] at ht2;cases d <;> simp_all
  cases hz:q.zero with
  | none=>simp [hz] at ht3
  | some z =>
   have hf:Instr.fill (fun i=>some (i * 1,1)) (((List.range len).map fun j=>(z.cells[j % z.cells.size]!)).toArray) (tagged 0 vs)=some vs.toArray:=by
    have:=AQ vs [] ((List.range len).map fun j=>(z.cells[j % z.cells.size]!)) (by simp [hn]) (by simp) h1
    simpa using this
   have hf':Instr.fill (fun i=>some (i,1)) (Array.map (fun x=>z.cells[x % z.cells.size]!) (Array.range len)) (tagged 0 vs)=some vs.toArray:=by
    have e1:(Array.map (fun x=>z.cells[x % z.cells.size]!) (Array.range len))=((List.range len).map fun j=>(z.cells[j % z.cells.size]!)).toArray:=by
     apply Array.ext'
     simp [Array.toList_range]
    rw [e1,← hf]
    simp
   have hp':List.map (fun x=>(x.fst,ρ x.snd)) parts.toList=tagged 0 vs:=hp
   unfold execOp
   have hlim:¬ (16777216:Nat) < len:=by omega
   by_cases hl0:len=0
   ·subst hl0
    have:vs=[]:=List.length_eq_zero_iff.1 hn
    subst this
    simp [ho,Instr.buildSlice,underlying,hu,sizeOf,typeInfo,hq,hs,hp',tagged,Instr.fill,newRow]
    have e0:(Array.map (fun _:Nat=>(default:Value)) (Array.range 0))=#[]:=by apply Array.ext';simp
    rw [e0]
   ·simp [ho,Instr.buildSlice,underlying,hu,sizeOf,typeInfo,hq,hs,zeroValue,hz,hlim,hl0,hp',hf',newRow]
section
variable {ops:Array Oper} {rest:List Oper} {o:Oper} {a:Act} {Q:Exit→Act→World→Prop}
theorem O7 (hS:St w0 X V L w) (hgd:Region.wanted o (yielded ops a.tmps)=true) {t e:TypeId} {len:Nat} {parts:Array (Nat × Operand)} (ho:o.op=.buildSlice t len parts) {vs:List Value}
  (hp:(parts.toList.map fun p=>(p.1,a.eval p.2))=tagged 0 vs) (hn:vs.length=len) (hl:len≤100) (h1:∀ v∈vs,v.oneCell'=true) (ht:VP P t e=true)
  (h:∀ b w',St w0 X V (.blk b e vs :: L) w'→wpList P ops Q rest (a.put o.dst (.slice (some ⟨b,0,none⟩) len len)) w'):wpList P ops Q (o :: rest) a w :=
 dU hgd (DV ho hp hn hl h1 ht w) (h _ _ (hS.alloc e vs))
theorem DU {K:Act→World→Prop} {i₀:Nat} (hS:St w0 X V L w) (hi:ops[i₀]? = some o) (hgd:Region.wanted o (yielded ops a.tmps)=true) {t e:TypeId} {len:Nat} {parts:Array (Nat × Operand)} (ho:o.op=.buildSlice t len parts) {vs:List Value}
  (hp:(parts.toList.map fun p=>(p.1,a.eval p.2))=tagged 0 vs) (hn:vs.length=len) (hl:len≤100) (h1:∀ v∈vs,v.oneCell'=true) (ht:VP P t e=true)
  (h:∀ b w',St w0 X V (.blk b e vs :: L) w'→K (a.put o.dst (.slice (some ⟨b,0,none⟩) len len)) w'):wpOp P ops Q i₀ K a w :=
 oO hi hgd (DV ho hp hn hl h1 ht w) (h _ _ (hS.alloc e vs))
end
theorem EG {L:List dF} {j:Nat} {e f:dF} (hj:L[j]? = some e) (hnd:(L.filterMap dF.foot).Nodup) {b:Nat} (hf:f.foot=some b) (hb:∀ g∈L,g.foot≠some b):((L.set j f).filterMap dF.foot).Nodup:=by
 induction L generalizing j with
 | nil=>simp at hj
 | cons a L ih =>
  have hbL:b ∉ L.filterMap dF.foot:=fun hm=>by
   obtain ⟨g,hg,hgb⟩:=List.mem_filterMap.1 hm
   exact hb g (List.mem_cons_of_mem _ hg) hgb
  cases j with
  | zero =>
   simp only [List.set_cons_zero]
   rw [List.filterMap_cons_some hf,List.nodup_cons]
   refine ⟨hbL,?_⟩
   cases ha:a.foot with
   | none=>rwa [List.filterMap_cons_none ha] at hnd
   | some c=>rw [List.filterMap_cons_some ha,List.nodup_cons] at hnd;exact hnd.2
  | succ j =>
   simp only [List.set_cons_succ]
   cases ha:a.foot with
   | none =>
    rw [List.filterMap_cons_none ha] at hnd ⊢
    exact ih (by simpa using hj) hnd fun g hg=>hb g (List.mem_cons_of_mem _ hg)
   | some c =>
    rw [List.filterMap_cons_some ha,List.nodup_cons] at hnd ⊢
    refine ⟨fun hm=>?_,ih (by simpa using hj) hnd.2 fun g hg=>hb g (List.mem_cons_of_mem _ hg)⟩
    obtain ⟨g,hg,hgc⟩:=List.mem_filterMap.1 hm
    rcases List.mem_or_eq_of_mem_set hg with hg | rfl
    ·exact hnd.1 (vN hg hgc)
    ·rw [hf] at hgc
     cases hgc
     exact hb a (List.mem_cons_self ..) ha
theorem St.grow (h:St w0 X V L w) {j:Nat} {v v':Value} {t:TypeId} {s n n':Nat} {xs xs':List Value} (hj:L[j]? = some (.row v t s n xs)) {w':World}
  (hg:w.grownBy w' v.ownBlock) (ho:w'.ownsRow 0 t s v' n' xs') (hpd:DR w' v' (n' * s)) (hf:v'.ownBlock=v.ownBlock∨v'.ownBlock=some w.heap.size):St w0 X V (L.set j (.row v' t s n' xs')) w':=by
 have hem:=List.mem_of_getElem? hj
 have hlt:∀ e∈L,∀ b,e.foot=some b→b < w.heap.size:=fun e he b hb=>(h.has e he).lt hb
 have hoth:∀ i f,L[i]? = some f→j≠i→∀ k,f.foot=some k→w'.heap[k]? = w.heap[k]?:=fun i f hi hji k hk=>by
  refine hg.block k (hlt f (List.mem_of_getElem? hi) k hk) ?_
  intro hkv
  exact CZ h.nd hj hi hji (b:=k) hkv.symm hk
 have hkeep:∀ k,k < w.heap.size→(∀ b,v.ownBlock=some b→k≠b)→w'.heap[k]? = w.heap[k]?:=fun k hk hne=>hg.block k hk fun hkv=>hne k hkv.symm rfl
 refine ⟨hg.os.trans h.os,hg.output.trans h.output,Nat.le_trans h.size hg.size,fun k hk hx=>?_,fun k o hk=>?_,fun e he=>?_,fun e he b hb=>?_,fun e he b hb=>?_,?_⟩
 ·refine (hkeep k (Nat.lt_of_lt_of_le hk h.size) fun b hb hkb=>?_).trans (h.old k hk hx)
  subst hkb
  rcases h.new _ hem k hb with h1 | h1
  ·omega
  ·exact hx h1
 ·have:=h.view k o hk
  rw [hkeep k (lt_of_heap this) fun b hb hkb=>by subst hkb;rw [h.off _ hem k hb] at hk;cases hk];exact this
 ·rcases List.getElem?_of_mem he with ⟨i,hi⟩
  rw [List.getElem?_set] at hi
  by_cases hji:j=i
  ·subst hji
   have hl:j < L.length:=(List.getElem?_eq_some_iff.1 hj).1
   simp [hl] at hi
   subst hi;exact ⟨ho,hpd⟩
  ·simp [hji] at hi
   exact (h.has e (List.mem_of_getElem? hi)).of_heap (hoth i e hi hji)
 ·rcases List.mem_or_eq_of_mem_set he with he | rfl
  ·exact h.new e he b hb
  ·rcases hf with hf | hf
   ·exact h.new _ hem b (hf.symm.trans hb)
   ·rw [show v'.ownBlock=some b from hb] at hf;cases hf;exact .inl h.size
 ·rcases List.mem_or_eq_of_mem_set he with he | rfl
  ·exact h.off e he b hb
  ·rcases hf with hf | hf
   ·exact h.off _ hem b (hf.symm.trans hb)
   ·rw [show v'.ownBlock=some b from hb] at hf;cases hf
    cases hv:V w.heap.size with
    | none=>rfl
    | some o=>exact absurd (lt_of_heap (h.view _ _ hv)) (Nat.lt_irrefl _)
 ·rcases hf with hf | hf
  ·rw [mX hj (by exact hf)];exact h.nd
  ·exact EG hj h.nd (b:=w.heap.size) hf fun g hg hgb=>absurd (hlt g hg _ hgb) (Nat.lt_irrefl _)
def Yv (P:Program) (t e:TypeId) (size:Nat):Bool :=
 (match P.underlying t with | some (.slice e')=>e' == e | _=>false) && (P.info? e).any (fun i=>i.size == size && i.zero.any (fun z=>z.cells.size == size && z.cells.all iL) && decide (i.bytes≤1000)) && decide (0 < size)
theorem Dv {z:Array Value} (hz:z.all iL=true) (n:Nat):∀ (i:Nat) (c:Value),(Builtin.zeroCells z n)[i]? = some c→iL c=true:=by
 intro i c hc
 have hm:=Array.mem_of_getElem? hc
 unfold Builtin.zeroCells at hm
 obtain ⟨j,hj,rfl⟩:=Array.mem_map.1 hm
 have hj':j < n * z.size:=by simpa using hj
 have hpos:0 < z.size:=by
  rcases Nat.eq_zero_or_pos z.size with h | h
  ·rw [h] at hj';omega
  ·exact h
 have hlt:j % z.size < z.size:=Nat.mod_lt _ hpos
 rw [Array.all_eq_true] at hz
 rw [getElem!_pos z _ hlt]
 exact hz _ hlt
theorem yw {w w':World} {t ty e:TypeId} {i:TypeInfo} {z:Value} (ht:P.underlying t=some (.slice e)) (hi:P.info? e=some i) (hz:i.zero=some z) (hzf:z.cells.all iL=true)
  {v v':Value} {n:Nat} {xs:List Value} (hown:w.ownsRow 0 e i.size v n xs) (hpd:DR w v (n * i.size)) {a:Addr} {m c:Nat} {news:List Value} (hl:news.length=m * i.size)
  (hnews:∀ j u,news[j]? = some u→w.cell? (a.add j)=some u) (h1:∀ u∈news,u.oneCell'=true) (h63:n+m≤maxLen) (hbytes:(n+m) * i.bytes≤140737488355328)
  (hr:(Builtin.append_ #[t,t] ty #[v,.slice (some a) m c]).run P w=.ok v' w'):DR w' v' ((n+m) * i.size):=by
 have hsmall:n+m≤9223372036854775807:=by simp only [maxLen] at h63;omega
 have made:∀ (W:World) (k:Nat) (g cap:Nat),DR ({ W with heap:=W.heap.push (.cells (xs.toArray ++ news.toArray ++ Builtin.zeroCells z.cells k) e) }) (.slice (some ⟨W.heap.size,0,none⟩) g cap) ((n+m) * i.size):=by
  intro W k g cap b hb cur t' fr hcur j c' hj hc
  have hb':b=W.heap.size:=by simpa [Value.ownBlock] using hb.symm
  subst hb'
  have hcur':some (Obj.cells (xs.toArray ++ news.toArray ++ Builtin.zeroCells z.cells k) e (0,0))=some (Obj.cells cur t' fr):=by rw [← hcur];simp
  cases hcur'
  have hlen:(xs.toArray ++ news.toArray).size=(n+m) * i.size:=by simp [hown.1,hl,Nat.add_mul]
  rw [Array.getElem?_append_right (by omega)] at hc
  exact Dv hzf k _ _ hc
 rcases hown.2 with ⟨rfl,rfl⟩ | ⟨g,cap,cur,rfl,_,hg,hnc,hcm,hcs,htake⟩
 ·have hx:xs=[]:=List.eq_nil_of_length_eq_zero (by simpa using hown.1)
  subst hx
  by_cases hm:m=0
  ·subst hm
   have hn:news=[]:=List.eq_nil_of_length_eq_zero (by simpa using hl)
   subst hn
   have hr0:(Builtin.append_ #[t,t] ty #[.slice none 0 0,.slice (some a) 0 c]).run P w=.ok (.slice none 0 0) w:=by
    simp [Builtin.append_,run_underlying ht,sizeOf,typeInfo,hi,Builtin.lenOf,Builtin.firstCells,loadCells,loadCellsFrom]
   rw [hr0] at hr
   cases hr
   intro b hb;cases hb
  ·rw [run_append_nil (P:=P) w t ty e i z ht hi hz a m c news hl hnews (by omega) (by omega) (by have hb:=hbytes;simp only [Nat.zero_add] at hb;omega)] at hr
   cases hr
   have:=made w.drew (grownCap w m 0 e - m) m (grownCap w m 0 e)
   simp only [List.nil_append,Array.empty_append] at this ⊢
   exact this
 ·by_cases hroom:n+m≤cap
  ·have hfit:n * i.size+news.length≤cur.size:=by rw [hl,hcs,← Nat.add_mul];exact Nat.mul_le_mul_right _ hroom
   rw [run_append_room (P:=P) w t ty e i ht hi g n cap cur hg a m c news hl hnews h1 hroom hfit] at hr
   cases hr
   intro b hb cur' t' fr hcur j c' hj hc
   have hb':b=g:=by simpa [Value.ownBlock] using hb.symm
   subst hb'
   rw [setRow_heap w b cur _ e _ hg] at hcur
   cases hcur
   have hx:n * i.size≤cur.size:=by omega
   have hjj:n * i.size+m * i.size≤j:=by rw [← Nat.add_mul];exact hj
   have hll:(cur.toList.take (n * i.size) ++ news).length=n * i.size+news.length:=by simp only [List.length_append,List.length_take,Array.length_toList];omega
   rw [List.getElem?_toArray,List.getElem?_append_right (by rw [hll];omega),List.getElem?_drop] at hc
   refine hpd b rfl cur e (0,0) hg (n * i.size+news.length+(j - (cur.toList.take (n * i.size) ++ news).length)) c' (by omega) (by simpa using hc)
  ·rw [run_append_grow (P:=P) w t ty e i z ht hi hz ⟨g,0,none⟩ n cap xs hown.1 (hown.cells (g:=g) rfl) a m c news hl hnews (by omega) (by omega) (growslice_fits (by omega) hbytes)] at hr
   cases hr
   exact made w.drew _ _ _
theorem PK (hS:St w0 X V L w) {o:Oper} {ρ:Operand→Value} {sl x:Operand} {t e:TypeId} {size:Nat} (ho:o.op=.call { callee:=.builtin .append,args:=#[sl,x],argTypes:=#[t,t] })
  (ht:Yv P t e size=true) {j n:Nat} {v:Value} {xs:List Value} (hj:L[j]? = some (.row v e size n xs)) (hv:ρ sl=v)
  {jb b m c:Nat} {te:TypeId} {news:List Value} (hjb:L[jb]? = some (.blk b te news)) (hx:ρ x=.slice (some ⟨b,0,none⟩) m c) (hm:news.length=m * size) (h1:∀ u∈news,u.oneCell'=true) (hn:n+m≤1000) :
  ∃ v' w',(execOp ρ o).run P w=.ok (.value v') w'∧St w0 X V (L.set j (.row v' e size (n+m) (xs ++ news))) w':=by
 unfold Yv at ht
 simp only [Bool.and_eq_true] at ht
 obtain ⟨⟨ht1,ht2⟩,ht3⟩:=ht
 have hu:P.underlying t=some (.slice e):=by
  cases hd:P.underlying t with
  | none=>rw [hd] at ht1;cases ht1
  | some d=>rw [hd] at ht1;cases d <;> simp_all
 cases hq:P.info? e with
 | none=>rw [hq] at ht2;cases ht2
 | some q =>
  rw [hq] at ht2
  simp only [Option.any_some,Bool.and_eq_true,beq_iff_eq,decide_eq_true_eq] at ht2
  obtain ⟨⟨hqs,hqz⟩,hqb⟩:=ht2
  cases hz:q.zero with
  | none=>rw [hz] at hqz;cases hqz
  | some z =>
   rw [hz] at hqz
   simp only [Option.any_some,Bool.and_eq_true,beq_iff_eq] at hqz
   obtain ⟨hqz,hqf⟩:=hqz
   have hsz:0 < size:=by simpa using ht3
   have hb:=hS.at hjb
   obtain ⟨v',w',hr,h2,h3,_,h5⟩:=run_append_own_at (P:=P) w 0 t o.type e q z size q.bytes hu hq hz hqs rfl hqz hsz v n xs (hS.wu hj) ⟨b,0,none⟩ m c news hm
    (fun i u hi=>by rw [Addr.add_mid];exact aX hb (by simpa using hi)) h1 (by unfold maxLen;omega) (by
     have:(n+m) * q.bytes≤1000 * 1000:=Nat.mul_le_mul hn hqb
     omega) (Nat.zero_le _)
   refine ⟨v',w',?_,hS.grow hj h3 h2 (hqs ▸ yw (P:=P) hu hq hz hqf (hqs ▸ hS.wu hj) (hqs ▸ hS.Wj hj) (a:=⟨b,0,none⟩) (hqs ▸ hm) (fun i u hi=>by rw [Addr.add_mid];exact aX hb (by simpa using hi)) h1 (by unfold maxLen;omega) (by
     have:(n+m) * q.bytes≤1000 * 1000:=Nat.mul_le_mul hn hqb
     omega) hr) h5⟩
   unfold execOp
   simp only [ho,resolve,invoke,builtin,Sem.run_bind,Sem.run_pure,Result.andThen_ok,List.map_toArray,List.map_cons,List.map_nil,hv,hx,hr]
end Go.Mm
namespace Go.Mm
open Go
variable {P:Program} {w0:World} {X:List Nat} {V:View} {L:List dF} {w w':World}
theorem St.xW (w:World) (V:View) (hV:V.In w) {g:Nat} {t:TypeId} {cs:List Value} (hg:w.heap[g]? = some (.cells cs.toArray t (0,0))) (hVg:V g=none):St w [g] V [.blk g t cs] w :=
 ⟨rfl,rfl,Nat.le_refl _,fun _ _ _=>rfl,hV,fun e he=>by simp at he;subst he;exact hg,fun e he b hb=>by simp at he;subst he;cases hb;exact .inr (by simp),
  fun e he b hb=>by simp at he;subst he;cases hb;exact hVg,by simp [dF.foot]⟩
theorem St.Js {g:Nat} (h:St w0 [g] V L w):ni g w0 w:=⟨h.os,h.output,h.size,fun k hk hkg=>h.old k hk (by simp [hkg])⟩
theorem St.mut (h:St w0 X V L w) {j:Nat} {g:Nat} {t:TypeId} {cs cs':List Value} (hj:L[j]? = some (.blk g t cs)) (k:ni g w w') (hg:w'.heap[g]? = some (.cells cs'.toArray t (0,0)))
  {L':List dF} (hL:L.set j (.blk g t cs')=L'):St w0 X V L' w':=by
 subst hL
 have hem:=List.mem_of_getElem? hj
 have hb:=h.new _ hem g rfl
 have hbV:=h.off _ hem g rfl
 refine ⟨k.os.trans h.os,k.output.trans h.output,Nat.le_trans h.size k.size,fun i hi hx=>?_,fun i o hi=>?_,fun e he=>?_,fun e he c hc=>?_,fun e he c hc=>?_,?_⟩
 ·refine (k.old i (Nat.lt_of_lt_of_le hi h.size) ?_).trans (h.old i hi hx)
  rintro rfl
  rcases hb with hb | hb
  ·omega
  ·exact hx hb
 ·have:=h.view i o hi
  rw [k.old i (lt_of_heap this) (by rintro rfl;rw [hbV] at hi;cases hi)];exact this
 ·rcases List.getElem?_of_mem he with ⟨i,hi⟩
  rw [List.getElem?_set] at hi
  by_cases hji:j=i
  ·subst hji
   have hl:j < L.length:=(List.getElem?_eq_some_iff.1 hj).1
   simp [hl] at hi
   subst hi;exact hg
  ·simp [hji] at hi
   have heL:=List.mem_of_getElem? hi
   exact (h.has e heL).of_heap fun c hc=>k.old c ((h.has e heL).lt hc) (by rintro rfl;exact CZ h.nd hj hi hji rfl hc)
 ·rcases List.mem_or_eq_of_mem_set he with he | rfl
  ·exact h.new e he c hc
  ·cases hc;exact hb
 ·rcases List.mem_or_eq_of_mem_set he with he | rfl
  ·exact h.off e he c hc
  ·cases hc;exact hbV
 ·rw [mX (f:=dF.blk g t cs') hj rfl];exact h.nd
theorem St.fresh (h0:St w0 X V L w) (k:Kp w w') {e:dF} (he:e.Holds w') (hf:∀ b,e.foot=some b→w.heap.size≤b):St w0 X V (e :: L) w':=by
 have h:=h0.kp k
 have hlt:∀ f∈L,∀ b,f.foot=some b→b < w.heap.size:=fun f hm b hb=>(h0.has f hm).lt hb
 refine ⟨h.os,h.output,h.size,h.old,h.view,fun f hm=>?_,fun f hm b hb=>?_,fun f hm b hb=>?_,?_⟩
 ·rcases List.mem_cons.1 hm with rfl | hm
  ·exact he
  ·exact h.has f hm
 ·rcases List.mem_cons.1 hm with rfl | hm
  ·exact .inl (Nat.le_trans h0.size (hf b hb))
  ·exact h.new f hm b hb
 ·rcases List.mem_cons.1 hm with rfl | hm
  ·cases hv:V b with
   | none=>rfl
   | some o=>exact absurd (lt_of_heap (h0.view _ _ hv)) (by have:=hf b hb;omega)
  ·exact h.off f hm b hb
 ·cases hfo:e.foot with
  | none=>rw [List.filterMap_cons_none (f:=dF.foot) hfo];exact h.nd
  | some b =>
   rw [List.filterMap_cons_some (f:=dF.foot) hfo,List.nodup_cons]
   refine ⟨fun hm=>?_,h.nd⟩
   obtain ⟨f,hm,hb⟩:=List.mem_filterMap.1 hm
   have:=hlt f hm b hb
   have:=hf b hfo
   omega
theorem St.nilRow (h:St w0 X V L w) (t:TypeId) (s:Nat):St w0 X V (.row (.slice none 0 0) t s 0 [] :: L) w :=
 h.fresh (Kp.refl w) ⟨⟨by simp,.inl ⟨rfl,rfl⟩⟩,fun b hb=>by cases hb⟩ (fun b hb=>by cases hb)
end Go.Mm
namespace Go.Mm
open Go
variable {P:Program}
class jS (P:Program) (ty:TypeId) (n:outParam Nat):Prop where
 ok:rowB P ty n=true
class iR (P:Program) (ty:TypeId):Prop where
 ok:uK P ty=true
class lX (P:Program) (ty:TypeId) (cs:outParam (List Value)):Prop where
 has:QK P ty=true
 ok:QD P ty=cs
class Xu (P:Program) (t:TypeId) (e:outParam TypeId):Prop where
 ok:VP P t e=true
class Zz (P:Program) (t:TypeId) (e:outParam TypeId) (size:outParam Nat):Prop where
 ok:Yv P t e size=true
class Hr (L:List dF) (v:Value) (j:outParam Nat) (t:outParam TypeId) (s n:outParam Nat) (xs:outParam (List Value)):Prop where
 ok:L[j]? = some (.row v t s n xs)
instance Hr.here {L:List dF} {v:Value} {t:TypeId} {s n:Nat} {xs:List Value}:Hr (.row v t s n xs :: L) v 0 t s n xs:=⟨rfl⟩
instance Hr.there {L:List dF} {v:Value} {j:Nat} {t:TypeId} {s n:Nat} {xs:List Value} {e:dF} [h:Hr L v j t s n xs]:Hr (e :: L) v (j+1) t s n xs:=⟨by simpa using h.ok⟩
class Hs (L:List dF) (b:Nat) (j:outParam Nat) (t:outParam TypeId) (cs:outParam (List Value)):Prop where
 ok:L[j]? = some (.blk b t cs)
instance Hs.here {L:List dF} {b:Nat} {t:TypeId} {cs:List Value}:Hs (.blk b t cs :: L) b 0 t cs:=⟨rfl⟩
instance Hs.there {L:List dF} {b j:Nat} {t:TypeId} {cs:List Value} {e:dF} [h:Hs L b j t cs]:Hs (e :: L) b (j+1) t cs:=⟨by simpa using h.ok⟩
def kV (a:Act):Operand→Option Value
 | .tmp t=>a.tmps.toList[t]?
 | .const v=>some v
 | .global g=>some (.pointer (some ⟨g,0,none⟩))
 | .func f=>some (.func (.func f) #[] #[])
theorem gU {a:Act} {x:Operand} {v:Value} (h:kV a x=some v):a.eval x=v:=by
 cases x with
 | tmp t =>
  have h':a.tmps[t]? = some v:=by simpa [kV] using h
  simp [Act.eval,Array.getD_eq_getD_getElem?,h']
 | const c=>exact Option.some.inj h
 | global g=>exact Option.some.inj h
 | func f=>exact Option.some.inj h
structure PartOf (cs:List Value) (i n:Nat) (vs:List Value):Prop where
 part:(cs.drop i).take n=vs
 len:vs.length=n
theorem UJ {cs:List Value} {n:Nat} (h:cs.length=n):PartOf cs 0 n cs:=⟨Wh h,h⟩
inductive Lit:List Value→Nat→Nat→List Value→Prop where
 | nil {l:List Value}:Lit l 0 0 []
 | take {x:Value} {l r:List Value} {n:Nat}:Lit l 0 n r→Lit (x :: l) 0 (n+1) (x :: r)
 | drop {x:Value} {l r:List Value} {i n:Nat}:Lit l i n r→Lit (x :: l) (i+1) n r
theorem UA {cs:List Value} {i n:Nat} {vs:List Value} (h:Lit cs i n vs):PartOf cs i n vs:=by
 induction h with
 | nil=>exact ⟨by simp,rfl⟩
 | take _ ih=>exact ⟨by simpa using ih.part,by simpa using ih.len⟩
 | drop _ ih=>exact ⟨by simpa using ih.part,ih.len⟩
inductive Parts (a:Act):Nat→List (Nat × Operand)→List Value→Prop where
 | nil {i:Nat}:Parts a i [] []
 | cons {i:Nat} {x:Operand} {v:Value} {r:List (Nat × Operand)} {vs:List Value}:kV a x=some v→Parts a (i+1) r vs→Parts a i ((i,x) :: r) (v :: vs)
theorem Eo {a:Act} {i:Nat} {l:List (Nat × Operand)} {vs:List Value} (h:Parts a i l vs):(l.map fun p=>(p.1,a.eval p.2))=tagged i vs:=by
 induction h with
 | nil=>rfl
 | cons hx _ ih=>simp [tagged,ih,gU hx]
section
variable {w0:World} {X:List Nat} {V:View} {L:List dF} {w:World}
variable {ops:Array Oper} {rest:List Oper} {o:Oper} {a:Act} {Q:Exit→Act→World→Prop}
theorem gY (hS:St w0 X V L w) (hgd:Region.wanted o (yielded ops a.tmps)=true) {ty:TypeId} {x:Operand} (ho:o.op=.load ty x) {b i:Nat} (hx:a.eval x=.pointer (some ⟨b,i,none⟩))
  {j:Nat} {t:TypeId} {cs:List Value} [hj:Hs L b j t cs] [hty:iR P ty] (h:∃ v,cs[i]? = some v∧∀ a',a.put o.dst v=a'→∀ w',St w0 X V L w'→wpList P ops Q rest a' w'):wpList P ops Q (o :: rest) a w:=by
 obtain ⟨v,hv,h⟩:=h
 exact Td hS hgd ho j hx hj.ok hty.ok hv (h _ rfl w hS)
theorem lW (hS:St w0 X V L w) (hgd:Region.wanted o (yielded ops a.tmps)=true) {ty:TypeId} {x:Operand} (ho:o.op=.load ty x) {b i:Nat} (hx:a.eval x=.pointer (some ⟨b,i,none⟩))
  {j n:Nat} {t:TypeId} {cs:List Value} [hj:Hs L b j t cs] [hty:jS P ty n] (h:∃ vs,PartOf cs i n vs∧∀ a',a.put o.dst (.agg vs.toArray)=a'→∀ w',St w0 X V L w'→wpList P ops Q rest a' w'):wpList P ops Q (o :: rest) a w:=by
 obtain ⟨vs,hv,h⟩:=h
 exact Ud hS hgd ho j hx hj.ok hty.ok hv.part hv.len (h _ rfl w hS)
theorem nC (hS:St w0 X V L w) (hgd:Region.wanted o (yielded ops a.tmps)=true) {ty:TypeId} {x:Operand} (ho:o.op=.load ty x) {b i:Nat} (hx:a.eval x=.pointer (some ⟨b,i,none⟩))
  [hty:iR P ty] (h:∃ v,V.Cell b i v∧∀ a',a.put o.dst v=a'→∀ w',St w0 X V L w'→wpList P ops Q rest a' w'):wpList P ops Q (o :: rest) a w:=by
 obtain ⟨v,hv,h⟩:=h
 exact PU hS hgd ho hx hty.ok hv (h _ rfl w hS)
theorem zQ (hS:St w0 X V L w) (hgd:Region.wanted o (yielded ops a.tmps)=true) {ty:TypeId} {x:Operand} (ho:o.op=.load ty x) {b i:Nat} (hx:a.eval x=.pointer (some ⟨b,i,none⟩))
  {n:Nat} [hty:jS P ty n] (h:∃ vs,(V.Range b i vs∧vs.length=n)∧∀ a',a.put o.dst (.agg vs.toArray)=a'→∀ w',St w0 X V L w'→wpList P ops Q rest a' w'):wpList P ops Q (o :: rest) a w:=by
 obtain ⟨vs,hv,h⟩:=h
 exact Om hS hgd ho hx hty.ok hv.1 hv.2 (h _ rfl w hS)
theorem pX (hS:St w0 X V L w) (hgd:Region.wanted o (yielded ops a.tmps)=true) {ty:TypeId} {x y:Operand} (ho:o.op=.store ty x y) {b i:Nat} (hx:a.eval x=.pointer (some ⟨b,i,none⟩))
  {j:Nat} {t:TypeId} {cs:List Value} [hj:Hs L b j t cs] [hty:iR P ty] (h:∃ v,(kV a y=some v∧v.oneCell'=true∧i < cs.length)∧∀ a',a.put o.dst undef=a'→∀ w',St w0 X V (L.set j (.blk b t (cs.set i v))) w'→wpList P ops Q rest a' w'):wpList P ops Q (o :: rest) a w:=by
 obtain ⟨v,⟨hy,h1,h2⟩,h⟩:=h
 exact OA hS hgd ho j hx hj.ok (gU hy) h1 hty.ok h2 rfl fun w' hw=>h _ rfl w' hw
theorem qsn (hS:St w0 X V L w) (hgd:Region.wanted o (yielded ops a.tmps)=true) {ty:TypeId} {x y:Operand} (ho:o.op=.store ty x y) {b i:Nat} (hx:a.eval x=.pointer (some ⟨b,i,none⟩))
  {j n:Nat} {t:TypeId} {cs:List Value} [hj:Hs L b j t cs] [hty:jS P ty n] (h:∃ vs:List Value,(kV a y=some (.agg vs.toArray)∧(∀ v∈vs,v.oneCell'=true)∧vs.length=n∧i+n≤cs.length)∧∀ a',a.put o.dst undef=a' →
   ∀ w',St w0 X V (L.set j (.blk b t (splice cs i vs))) w'→wpList P ops Q rest a' w'):wpList P ops Q (o :: rest) a w:=by
 obtain ⟨vs,⟨hy,h1,h2,h3⟩,h⟩:=h
 exact FN hS hgd ho j hx hj.ok (gU hy) h1 hty.ok h2 h3 rfl fun w' hw=>h _ rfl w' hw
theorem bQ (hS:St w0 X V L w) (hgd:Region.wanted o (yielded ops a.tmps)=true) {ty:TypeId} {x y:Operand} (ho:o.op=.store ty x y) {b:Nat} (hx:a.eval x=.pointer (some ⟨b,0,none⟩))
  {j n:Nat} {t:TypeId} {cs:List Value} [hj:Hs L b j t cs] [hty:jS P ty n] (h:∃ vs:List Value,(kV a y=some (.agg vs.toArray)∧(∀ v∈vs,v.oneCell'=true)∧vs.length=n∧cs.length=n)∧∀ a',a.put o.dst undef=a' →
   ∀ w',St w0 X V (L.set j (.blk b t vs)) w'→wpList P ops Q rest a' w'):wpList P ops Q (o :: rest) a w:=by
 obtain ⟨vs,⟨hy,h1,h2,h3⟩,h⟩:=h
 exact Jd hS hgd ho j hx hj.ok (gU hy) h1 hty.ok h2 h3 rfl fun w' hw=>h _ rfl w' hw
theorem jQ (hS:St w0 X V L w) (hgd:Region.wanted o (yielded ops a.tmps)=true) {ty:TypeId} {x:Operand} (ho:o.op=.box ty x) {v:Value} (hx:kV a x=some v)
  (h:∃ cs:List Value,v.cells=cs.toArray∧∀ b a',a.put o.dst (.pointer (some ⟨b,0,none⟩))=a'→∀ w',St w0 X V (.blk b ty cs :: L) w'→wpList P ops Q rest a' w'):wpList P ops Q (o :: rest) a w:=by
 obtain ⟨cs,hc,h⟩:=h
 exact Yd hS hgd ho (gU hx) hc fun b w' hw=>h b _ rfl w' hw
theorem dM (hS:St w0 X V L w) (hgd:Region.wanted o (yielded ops a.tmps)=true) {ty:TypeId} (ho:o.op=.alloc ty) {cs:List Value} [hz:lX P ty cs]
  (h:∀ b a',a.put o.dst (.pointer (some ⟨b,0,none⟩))=a'→∀ w',St w0 X V (.blk b ty cs :: L) w'→wpList P ops Q rest a' w'):wpList P ops Q (o :: rest) a w :=
 SL hS hgd ho hz.has hz.ok fun b w' hw=>h b _ rfl w' hw
theorem rE (hS:St w0 X V L w) (hgd:Region.wanted o (yielded ops a.tmps)=true) {t e:TypeId} {len:Nat} {parts:List (Nat × Operand)} (ho:o.op=.buildSlice t len parts.toArray) [ht:Xu P t e]
  (h:∃ vs,Parts a 0 parts vs∧(vs.length=len∧len≤100∧∀ v∈vs,v.oneCell'=true)∧∀ b a',a.put o.dst (.slice (some ⟨b,0,none⟩) len len)=a'→∀ w',St w0 X V (.blk b e vs :: L) w'→wpList P ops Q rest a' w'):wpList P ops Q (o :: rest) a w:=by
 obtain ⟨vs,hp,hc,h⟩:=h
 exact O7 hS hgd ho (by simpa using Eo hp) hc.1 hc.2.1 hc.2.2 ht.ok fun b w' hw=>h b _ rfl w' hw
theorem iK (d:Nat) (_hd:o.dst=some d) (hS:St w0 X V L w) (hgd:Region.wanted o (yielded ops a.tmps)=true) {ty:TypeId} {x:Operand} (ho:o.op=.box ty x) {v:Value} (hx:kV a x=some v)
  (h:∃ cs:List Value,v.cells=cs.toArray∧∀ b a',a.put o.dst (.pointer (some ⟨b,0,none⟩))=a'→∀ w',St w0 X V (.blk b ty cs :: L) w'→wpList P ops Q rest a' w'):wpList P ops Q (o :: rest) a w :=
 jQ hS hgd ho hx h
theorem aT (d:Nat) (_hd:o.dst=some d) (hS:St w0 X V L w) (hgd:Region.wanted o (yielded ops a.tmps)=true) {ty:TypeId} (ho:o.op=.alloc ty) {cs:List Value} [hz:lX P ty cs]
  (h:∀ b a',a.put o.dst (.pointer (some ⟨b,0,none⟩))=a'→∀ w',St w0 X V (.blk b ty cs :: L) w'→wpList P ops Q rest a' w'):wpList P ops Q (o :: rest) a w :=
 dM hS hgd ho h
theorem UL (d:Nat) (_hd:o.dst=some d) (hS:St w0 X V L w) (hgd:Region.wanted o (yielded ops a.tmps)=true) {t e:TypeId} {len:Nat} {parts:List (Nat × Operand)} (ho:o.op=.buildSlice t len parts.toArray) [ht:Xu P t e]
  (h:∃ vs,Parts a 0 parts vs∧(vs.length=len∧len≤100∧∀ v∈vs,v.oneCell'=true)∧∀ b a',a.put o.dst (.slice (some ⟨b,0,none⟩) len len)=a'→∀ w',St w0 X V (.blk b e vs :: L) w'→wpList P ops Q rest a' w'):wpList P ops Q (o :: rest) a w :=
 rE hS hgd ho h
end
section
variable {w0:World} {X:List Nat} {V:View} {L:List dF} {w:World}
variable {ops:Array Oper} {rest:List Oper} {o:Oper} {a:Act} {Q:Exit→Act→World→Prop}
end
section
variable {w0:World} {X:List Nat} {V:View} {L:List dF}
variable {o:Oper} {a:Act} {K:Act→Prop}
theorem pq {ty:TypeId} {x:Operand} (ho:o.op=.load ty x) {b i:Nat} (hx:a.eval x=.pointer (some ⟨b,i,none⟩)) {j:Nat} {t:TypeId} {cs:List Value} [hj:Hs L b j t cs] [hty:iR P ty]
  (h:∃ v,cs[i]? = some v∧∀ a',a.put o.dst v=a'→K a'):o.quiet P a (St w0 X V L) K:=by
 obtain ⟨v,hv,h⟩:=h
 exact Nc ho j hx hj.ok hty.ok hv (h _ rfl)
theorem wB {ty:TypeId} {x:Operand} (ho:o.op=.load ty x) {b i:Nat} (hx:a.eval x=.pointer (some ⟨b,i,none⟩)) {j n:Nat} {t:TypeId} {cs:List Value} [hj:Hs L b j t cs] [hty:jS P ty n]
  (h:∃ vs,PartOf cs i n vs∧∀ a',a.put o.dst (.agg vs.toArray)=a'→K a'):o.quiet P a (St w0 X V L) K:=by
 obtain ⟨vs,hv,h⟩:=h
 exact LY ho j hx hj.ok hty.ok hv.part hv.len (h _ rfl)
theorem jW {C:World→Prop} {x:Operand} {v:Value} (ho:o.op=.move x) (hx:kV a x=some v) (h:∀ a',a.put o.dst v=a'→K a'):o.quiet P a C K :=
 qp (fun w _=>by have:=gU hx;exact this ▸ BigFrame.run_move x ho w) (h _ rfl)
theorem gu {C:World→Prop} (h:∃ v,(∀ w,(execOp a.eval o).run P w=.ok (.value v) w)∧∀ a',a.put o.dst v=a'→K a'):o.quiet P a C K:=by
 obtain ⟨v,hr,h⟩:=h
 exact qp (fun w _=>hr w) (h _ rfl)
theorem mF (h:∃ f args,(∀ w,(execOp a.eval o).run P w=.ok (.enter f args) w)∧∃ v,(∀ w,St w0 X V L w→Calls P f args w fun e w'=>e=.returned v∧Kp w w')∧∀ a',a.put o.dst v=a'→K a'):o.quiet P a (St w0 X V L) K:=by
 obtain ⟨f,args,hr,v,hc,h⟩:=h
 exact Nb (fun w _=>hr w) (fun w hS=>L9 hS (hc w hS)) (h _ rfl)
end
section
variable {w0:World} {X:List Nat} {V:View} {L:List dF} {w:World}
theorem bD {tmps:Array Value} {t:Tmp} {v:Value} (h:tmps.toList[t]? = some v):(iI tmps (.tmp t)).run P w=.ok v w:=by
 have h':tmps[t]? = some v:=by simpa using h
 exact yS (by simp [h'])
theorem zA (hS:St w0 X V L w) {tmps:Array Value} {t:Tmp} {ty:TypeId} {b i:Nat} (hx:tmps.getD t undef=.pointer (some ⟨b,i,none⟩)) {j:Nat} {t':TypeId} {cs:List Value} [hj:Hs L b j t' cs]
  [hty:iR P ty] {v:Value} (hv:cs[i]? = some v):(iI tmps (.cell t ty)).run P w=.ok v w:=AO hS j hx hj.ok hty.ok hv
theorem rX (hS:St w0 X V L w) {tmps:Array Value} {t:Tmp} {ty:TypeId} {b i:Nat} (hx:tmps.getD t undef=.pointer (some ⟨b,i,none⟩)) {j n:Nat} {t':TypeId} {cs:List Value} [hj:Hs L b j t' cs]
  [hty:jS P ty n] {vs:List Value} (hv:PartOf cs i n vs):(iI tmps (.cell t ty)).run P w=.ok (.agg vs.toArray) w:=Aa hS j hx hj.ok hty.ok hv.part hv.len
theorem bK {fn:Func} {R:Ending→World→Prop} {a:Act} (h:∃ v,(results fn a.tmps).run P w=.ok v w∧R (.returned v) w) (hd:a.defers=[]):bodyPost P fn R .ret a w:=by
 obtain ⟨v,hr,hR⟩:=h
 exact bodyPost_ret hr hd hR
theorem aH {f:FuncId} {args:Array Value} {R:Ending→World→Prop} (hS:St w0 X V L w) (h:∃ v,(Calls P f args w fun e w'=>e=.returned v∧Kp w w')∧∀ w',St w0 X V L w'→R (.returned v) w'):Calls P f args w R:=by
 obtain ⟨v,hc,h⟩:=h
 exact rH hS hc h
end
theorem fr:(∀ (t:Array Value) (d:List Deferred) (i:Nat) (v:Value),(⟨t,d⟩:Act).put (some i) v=⟨t.setIfInBounds i v,d⟩)∧(∀ (a:Act) (v:Value),a.put none v=a) ∧
  (∀ (l:List Value) (i:Nat) (v:Value),l.toArray.setIfInBounds i v=(l.set i v).toArray)∧(∀ (x:Value) (l:List Value) (i:Nat) (v:Value),(x :: l).set (i+1) v=x :: l.set i v) ∧
  (∀ (x:Value) (l:List Value) (v:Value),(x :: l).set 0 v=v :: l) :=
 ⟨fun _ _ _ _=>rfl,fun _ _=>rfl,fun l i v=>by simp,fun _ _ _ _=>rfl,fun _ _ _=>rfl⟩
theorem sE:(∀ (x:dF) (l:List dF) (i:Nat) (v:dF),(x :: l).set (i+1) v=x :: l.set i v)∧(∀ (x:dF) (l:List dF) (v:dF),(x :: l).set 0 v=v :: l) ∧
  (∀ (x:Value) (l:List Value) (i:Nat) (v:Value),(x :: l).set (i+1) v=x :: l.set i v)∧(∀ (x:Value) (l:List Value) (v:Value),(x :: l).set 0 v=v :: l) :=
 ⟨fun _ _ _ _=>rfl,fun _ _ _=>rfl,fun _ _ _ _=>rfl,fun _ _ _=>rfl⟩
theorem lV:(∀ (l:List Value) (i:Nat) (v:Value),(l.set i v).length=l.length)∧(∀ (l r:List Value),(l ++ r).length=l.length+r.length)∧(∀ (n:Nat) (v:Value),(List.replicate n v).length=n) ∧
  (∀ (x:Value) (l:List Value),(x :: l).length=l.length+1)∧(([]:List Value).length=0) :=
 ⟨fun _ _ _=>by simp,fun _ _=>by simp,fun _ _=>by simp,fun _ _=>rfl,rfl⟩
theorem oN:∀ v∈([]:List Value),v.oneCell'=true:=by simp
theorem oC {x:Value} {l:List Value} (hx:x.oneCell'=true) (h:∀ v∈l,v.oneCell'=true):∀ v∈x :: l,v.oneCell'=true:=by
 intro v hv
 rcases List.mem_cons.1 hv with rfl | hv
 ·exact hx
 ·exact h v hv
section
variable {w0:World} {X:List Nat} {V:View} {L:List dF} {w:World}
variable {ops:Array Oper} {rest:List Oper} {a:Act} {Q:Exit→Act→World→Prop} {d:Option Tmp} {t:TypeId} {p:String} {af:Array Edge} {g:Option (Nat × Bool)}
theorem gL {ty:TypeId} {x:Operand} (h:wpList P ops Q (⟨d,.load ty x,t,p,af,g⟩ :: rest) a w):wpList P ops Q (⟨d,.load ty x,t,p,af,g⟩ :: rest) a w:=h
theorem gS {ty:TypeId} {x y:Operand} (h:wpList P ops Q (⟨d,.store ty x y,t,p,af,g⟩ :: rest) a w):wpList P ops Q (⟨d,.store ty x y,t,p,af,g⟩ :: rest) a w:=h
theorem gA {ty:TypeId} (h:wpList P ops Q (⟨d,.alloc ty,t,p,af,g⟩ :: rest) a w):wpList P ops Q (⟨d,.alloc ty,t,p,af,g⟩ :: rest) a w:=h
theorem gB {ty:TypeId} {x:Operand} (h:wpList P ops Q (⟨d,.box ty x,t,p,af,g⟩ :: rest) a w):wpList P ops Q (⟨d,.box ty x,t,p,af,g⟩ :: rest) a w:=h
theorem uP {ty:TypeId} {n:Nat} {ps:Array (Nat × Operand)} (h:wpList P ops Q (⟨d,.buildSlice ty n ps,t,p,af,g⟩ :: rest) a w):wpList P ops Q (⟨d,.buildSlice ty n ps,t,p,af,g⟩ :: rest) a w:=h
theorem Q5 {xs:Array Operand} {ts:Array TypeId} (h:wpList P ops Q (⟨d,.call ⟨.builtin .append,xs,ts⟩,t,p,af,g⟩ :: rest) a w):wpList P ops Q (⟨d,.call ⟨.builtin .append,xs,ts⟩,t,p,af,g⟩ :: rest) a w:=h
theorem gC {f:FuncId} {xs:Array Value} {R:Ending→World→Prop} (h:Calls P f xs w R):Calls P f xs w R:=h
variable {C:World→Prop} {K:Act→Prop}
theorem Uj {ty:TypeId} {x:Operand} (h:(⟨d,.load ty x,t,p,af,g⟩:Oper).quiet P a C K):(⟨d,.load ty x,t,p,af,g⟩:Oper).quiet P a C K:=h
theorem Xf {x:Operand} (h:(⟨d,.move x,t,p,af,g⟩:Oper).quiet P a C K):(⟨d,.move x,t,p,af,g⟩:Oper).quiet P a C K:=h
theorem YW {x:Operand} {xs:Array Operand} {ts:Array TypeId} (h:(⟨d,.call ⟨.value x,xs,ts⟩,t,p,af,g⟩:Oper).quiet P a C K):(⟨d,.call ⟨.value x,xs,ts⟩,t,p,af,g⟩:Oper).quiet P a C K:=h
end
theorem gE {a:Act} {x:Operand} {v:Value} (h:kV a x=some v):kV a x=some v:=h
theorem gO {v:Value} (h:v.oneCell'=true):v.oneCell'=true:=h
theorem gI {cs:List Value} {i:Nat} {v:Value} (h:cs[i]? = some v):cs[i]? = some v:=h
theorem gP {cs vs:List Value} {i n:Nat} (h:PartOf cs i n vs):PartOf cs i n vs:=h
theorem gN {cs:List Value} {n:Nat} (h:cs.length=n):cs.length=n:=h
theorem gV {vs:List Value} (h:∀ v∈vs,v.oneCell'=true):∀ v∈vs,v.oneCell'=true:=h
theorem zd {p:Prop} (h:p:=by ((repeat' (apply And.intro)) <;> (first | ((with_reducible apply gE);exact rfl) | ((with_reducible apply gO);first | exact rfl | assumption) | ((with_reducible apply gI);first | assumption | exact rfl | (simp only [lV,cZ,eU,Nat.reduceAdd,Nat.reduceMul, *];done)) | ((with_reducible apply gP);first | exact PartOf.mk (by assumption) (by (first | assumption | (simp only [lV,cZ,eU,Nat.reduceAdd,Nat.reduceMul, *];done) | rfl | omega)) | exact UJ (by (first | assumption | (simp only [lV,cZ,eU,Nat.reduceAdd,Nat.reduceMul, *];done) | rfl | omega)) | exact UA (by repeat (first | exact Go.Mm.Lit.nil | apply Go.Mm.Lit.take | apply Go.Mm.Lit.drop))) | ((with_reducible apply gN);(first | assumption | (simp only [lV,cZ,eU,Nat.reduceAdd,Nat.reduceMul, *];done) | rfl | omega)) | ((with_reducible apply gV);first | assumption | exact lF _ | exact VG _ | exact je.one _ | exact nN.one _ | exact JV _ | exact Qk _ | (repeat (first | exact oN | refine oC rfl ?_))) | assumption | omega | exact Nk (by assumption) | exact gG _ _ | exact SS.WF.eu (by assumption) | exact SS.WF.weighed (by assumption) _ _ | (simp only [lV,cZ,eU,Nat.reduceAdd,Nat.reduceMul, *];omega) | exact rfl | (simp only [lV,cZ,eU,Nat.reduceAdd,Nat.reduceMul, *];done)))):p:=h
theorem zp {p:Prop} (h:p:=by (intro _;go_simp;(try simp (disch:=omega) only [IntWalk.i64_in,IntWalk.u64_in,IntWalk.u8_in]);first | done | rfl | exact ⟨rfl,rfl⟩)):p:=h
theorem zc {p:Prop} (h:p:=by (first | assumption | exact rfl | omega | exact gG _ _ | exact SS.WF.eu (by assumption) | exact SS.WF.weighed (by assumption) _ _ | exact je.one _ | exact nN.one _ | exact JV _ | exact Qk _ | (simp only [lV,cZ,eU,Nat.reduceAdd,Nat.reduceMul, *];done) | (simp only [lV,cZ,eU,Nat.reduceAdd,Nat.reduceMul, *];omega))):p:=h
theorem zo {p:Prop} (h:p:=by (go_simp;first | done | rfl | exact ⟨rfl,rfl⟩)):p:=h
theorem zq {p:Prop} (h:p:=by repeat (first | exact Parts.nil | (apply Parts.cons;exact rfl))):p:=h
theorem za {p:Prop} (h:p:=by first | exact rfl | assumption):p:=h
end Go.Mm
namespace Go.Mm
theorem zF {α:Type} {x y:α} {K:α→Prop} (h:K y) (hp:x=y:=by ((try simp only [fr]);exact rfl)):∀ z,x=z→K z:=fun z e=>by subst e;rw [hp];exact h
end Go.Mm
namespace Go.Mm
open Go Go.Proofs
instance:iR Tryd.prog 1:=⟨by kernel_rfl⟩
instance:iR Tryd.prog 2:=⟨by kernel_rfl⟩
instance:iR Tryd.prog 3:=⟨by kernel_rfl⟩
instance:iR Tryd.prog 4:=⟨by kernel_rfl⟩
instance:iR Tryd.prog 22:=⟨by kernel_rfl⟩
instance:iR Tryd.prog 23:=⟨by kernel_rfl⟩
instance:jS Tryd.prog 25 2:=⟨by kernel_rfl⟩
instance:jS Tryd.prog 27 2:=⟨by kernel_rfl⟩
instance:jS Tryd.prog 29 4:=⟨by kernel_rfl⟩
instance:iR Tryd.prog 30:=⟨by kernel_rfl⟩
instance:iR Tryd.prog 38:=⟨by kernel_rfl⟩
instance:jS Tryd.prog 59 4:=⟨by kernel_rfl⟩
instance:iR Tryd.prog 82:=⟨by kernel_rfl⟩
instance:iR Tryd.prog 87:=⟨by kernel_rfl⟩
instance:iR Tryd.prog 88:=⟨by kernel_rfl⟩
instance:jS Tryd.prog 90 3:=⟨by kernel_rfl⟩
instance:iR Tryd.prog 95:=⟨by kernel_rfl⟩
instance:jS Tryd.prog 96 6:=⟨by kernel_rfl⟩
instance:jS Tryd.prog 98 12:=⟨by kernel_rfl⟩
instance:jS Tryd.prog 100 18:=⟨by kernel_rfl⟩
instance:jS Tryd.prog 104 2:=⟨by kernel_rfl⟩
instance:iR Tryd.prog 110:=⟨by kernel_rfl⟩
instance:jS Tryd.prog 112 3:=⟨by kernel_rfl⟩
instance:iR Tryd.prog 124:=⟨by kernel_rfl⟩
instance:jS Tryd.prog 129 6:=⟨by kernel_rfl⟩
instance:iR Tryd.prog 142:=⟨by kernel_rfl⟩
instance:jS Tryd.prog 152 1:=⟨by kernel_rfl⟩
instance:iR Tryd.prog 155:=⟨by kernel_rfl⟩
instance:iR Tryd.prog 159:=⟨by kernel_rfl⟩
instance:iR Tryd.prog 163:=⟨by kernel_rfl⟩
instance:iR Tryd.prog 165:=⟨by kernel_rfl⟩
instance:jS Tryd.prog 170 84:=⟨by kernel_rfl⟩
instance:jS Tryd.prog 176 3:=⟨by kernel_rfl⟩
instance:iR Tryd.prog 179:=⟨by kernel_rfl⟩
instance:lX Tryd.prog 25 ([.slice none 0 0,.slice none 0 0]):=⟨by kernel_rfl,by kernel_rfl⟩
instance:lX Tryd.prog 27 (List.replicate 2 (.int .i64 0)):=⟨by kernel_rfl,by kernel_rfl⟩
instance:lX Tryd.prog 29 ([.int .i64 0,.int .i64 0,.int .i64 0,.int .i64 0]):=⟨by kernel_rfl,by kernel_rfl⟩
instance:lX Tryd.prog 38 ([.int .i64 0]):=⟨by kernel_rfl,by kernel_rfl⟩
instance:lX Tryd.prog 59 ([.int .i64 0,.int .i64 0,.int .i64 0,.int .i64 0]):=⟨by kernel_rfl,by kernel_rfl⟩
instance:lX Tryd.prog 82 ([.slice none 0 0]):=⟨by kernel_rfl,by kernel_rfl⟩
instance:lX Tryd.prog 96 (List.replicate 6 (.int .u64 0)):=⟨by kernel_rfl,by kernel_rfl⟩
instance:lX Tryd.prog 98 (List.replicate 12 (.int .i64 0)):=⟨by kernel_rfl,by kernel_rfl⟩
instance:lX Tryd.prog 100 (List.replicate 6 (.int .u64 0) ++ List.replicate 12 (.int .i64 0)):=⟨by kernel_rfl,by kernel_rfl⟩
instance:lX Tryd.prog 104 ([.slice none 0 0,.slice none 0 0]):=⟨by kernel_rfl,by kernel_rfl⟩
instance:lX Tryd.prog 124 ([.pointer none]):=⟨by kernel_rfl,by kernel_rfl⟩
instance:lX Tryd.prog 142 ([.int .u8 0]):=⟨by kernel_rfl,by kernel_rfl⟩
instance:lX Tryd.prog 152 ([.int .i64 0]):=⟨by kernel_rfl,by kernel_rfl⟩
instance:lX Tryd.prog 163 ([.nilFunc]):=⟨by kernel_rfl,by kernel_rfl⟩
instance:lX Tryd.prog 165 ([.chan none]):=⟨by kernel_rfl,by kernel_rfl⟩
instance:lX Tryd.prog 176 ([.pointer none,.pointer none,.int .u64 0]):=⟨by kernel_rfl,by kernel_rfl⟩
instance:Xu Tryd.prog 30 3:=⟨by kernel_rfl⟩
instance:Xu Tryd.prog 74 30:=⟨by kernel_rfl⟩
instance:Xu Tryd.prog 110 124:=⟨by kernel_rfl⟩
instance:Xu Tryd.prog 143 142:=⟨by kernel_rfl⟩
instance:Xu Tryd.prog 161 38:=⟨by kernel_rfl⟩
instance:Zz Tryd.prog 22 29 4:=⟨by kernel_rfl⟩
instance:Zz Tryd.prog 23 59 4:=⟨by kernel_rfl⟩
instance:Zz Tryd.prog 30 3 1:=⟨by kernel_rfl⟩
instance:Zz Tryd.prog 74 30 1:=⟨by kernel_rfl⟩
instance:Zz Tryd.prog 110 124 1:=⟨by kernel_rfl⟩
end Go.Mm
namespace Go.Wg
open Go
structure SS where
 lim:List Nat
 los:List (Int × Int)
structure SS.WF (s:SS):Prop where
 lim:s.lim.length=6
 los:s.los.length=6
 small:∀ m∈s.lim,m < 2199023255552
def mM (l:List Nat):List Value:=l.map fun m:Nat=>.int .u64 (m:Int)
def pY (l:List (Int × Int)):List Value:=l.flatMap fun p=>[.int .i64 p.1,.int .i64 p.2]
def dJ (s:SS):List Value:=mM s.lim ++ pY s.los
def SS.aK (s:SS) (i:Nat):Nat:=s.lim.getD i 0
def SS.aP (s:SS) (i:Nat):Int × Int:=s.los.getD i (0,0)
def SS.cu (s:SS) (i m:Nat):SS:={ s with lim:=s.lim.set i m }
def SS.eu (s:SS) (i:Nat) (p:Int × Int):SS:={ s with los:=s.los.set i p }
theorem cZ (l:List Nat):(mM l).length=l.length:=by simp [mM]
theorem eU (l:List (Int × Int)):(pY l).length=l.length * 2:=by
 induction l with
 | nil=>rfl
 | cons p l ih=>simp [pY] at ih ⊢;omega
theorem dG {s:SS} (h:s.WF):(dJ s).length=18:=by simp [dJ,cZ,eU,h.lim,h.los]
theorem Ee (l:List (Int × Int)) (i:Nat) (h:i < l.length):(pY l)[i * 2]? = some (.int .i64 (l.getD i (0,0)).1)∧(pY l)[i * 2+1]? = some (.int .i64 (l.getD i (0,0)).2):=by
 induction l generalizing i with
 | nil=>simp at h
 | cons p l ih =>
  cases i with
  | zero=>simp [pY]
  | succ i =>
   have:=ih i (by simpa using h)
   simp only [pY,List.flatMap_cons,List.cons_append,List.nil_append] at this ⊢
   rw [show (i+1) * 2=i * 2+1+1 by omega]
   simpa using this
theorem oh {s:SS} (h:s.WF) {i:Nat} (hi:i < 6):(dJ s)[i]? = some (.int .u64 (s.aK i:Int)):=by
 have h1:=h.lim
 unfold dJ SS.aK
 rw [List.getElem?_append_left (by simp [cZ,h1,hi])]
 simp [mM,List.getElem?_map,List.getElem?_eq_getElem (show i < s.lim.length by omega)]
theorem Us {s:SS} (h:s.WF) {i:Nat} (hi:i < 6):(dJ s)[6+i * 2]? = some (.int .i64 (s.aP i).1):=by
 have h1:=h.lim
 unfold dJ SS.aP
 rw [List.getElem?_append_right (by simp [cZ,h1])]
 simp only [cZ,h1,Nat.add_sub_cancel_left]
 exact (Ee s.los i (by have:=h.los;omega)).1
theorem Pm {s:SS} (h:s.WF) {i:Nat} (hi:i < 6):(dJ s)[6+i * 2+1]? = some (.int .i64 (s.aP i).2):=by
 have h1:=h.lim
 unfold dJ SS.aP
 rw [List.getElem?_append_right (by simp [cZ,h1];omega)]
 simp only [cZ,h1,show 6+i * 2+1 - 6=i * 2+1 by omega]
 exact (Ee s.los i (by have:=h.los;omega)).2
theorem yR (l:List Nat) (i m:Nat):(mM l).set i (.int .u64 (m:Int))=mM (l.set i m):=by simp [mM]
theorem PY (l:List (Int × Int)) (i:Nat) (x:Int) (h:i < l.length):(pY l).set (i * 2) (.int .i64 x)=pY (l.set i (x,(l.getD i (0,0)).2)):=by
 induction l generalizing i with
 | nil=>simp at h
 | cons p l ih =>
  cases i with
  | zero=>simp [pY]
  | succ i =>
   have:=ih i (by simpa using h)
   simp only [pY,List.flatMap_cons,List.cons_append,List.nil_append] at this ⊢
   rw [show (i+1) * 2=i * 2+1+1 by omega]
   simpa using this
theorem NY (l:List (Int × Int)) (i:Nat) (x:Int) (h:i < l.length):(pY l).set (i * 2+1) (.int .i64 x)=pY (l.set i ((l.getD i (0,0)).1,x)):=by
 induction l generalizing i with
 | nil=>simp at h
 | cons p l ih =>
  cases i with
  | zero=>simp [pY]
  | succ i =>
   have:=ih i (by simpa using h)
   simp only [pY,List.flatMap_cons,List.cons_append,List.nil_append] at this ⊢
   rw [show (i+1) * 2=i * 2+1+1 by omega]
   simpa using this
theorem pO {s:SS} (h:s.WF) {i:Nat} (hi:i < 6) (m:Nat):(dJ s).set i (.int .u64 (m:Int))=dJ (s.cu i m):=by
 have h1:=h.lim
 unfold dJ SS.cu
 rw [List.set_append_left _ _ (by simp [cZ,h1,hi]),yR]
theorem TP {s:SS} (h:s.WF) {i:Nat} (hi:i < 6) (x:Int):(dJ s).set (6+i * 2) (.int .i64 x)=dJ (s.eu i (x,(s.aP i).2)):=by
 have h1:=h.lim
 unfold dJ SS.eu SS.aP
 rw [List.set_append_right _ _ (by simp [cZ,h1])]
 simp only [cZ,h1,Nat.add_sub_cancel_left]
 rw [PY _ _ _ (by have:=h.los;omega)]
theorem He {s:SS} (h:s.WF) {i:Nat} (hi:i < 6) (x:Int):(dJ s).set (6+i * 2+1) (.int .i64 x)=dJ (s.eu i ((s.aP i).1,x)):=by
 have h1:=h.lim
 unfold dJ SS.eu SS.aP
 rw [List.set_append_right _ _ (by simp [cZ,h1];omega)]
 simp only [cZ,h1,show 6+i * 2+1 - 6=i * 2+1 by omega]
 rw [NY _ _ _ (by have:=h.los;omega)]
theorem SS.WF.cu {s:SS} (h:s.WF) {i m:Nat} (hm:m < 2199023255552):(s.cu i m).WF :=
 ⟨by simp [SS.cu,h.lim],h.los,fun x hx=>by
  rcases List.mem_or_eq_of_mem_set hx with hx | rfl
  ·exact h.small x hx
  ·exact hm⟩
theorem SS.WF.eu {s:SS} (h:s.WF) {i:Nat} {p:Int × Int}:(s.eu i p).WF:=⟨h.lim,by simp [SS.eu,h.los],h.small⟩
theorem SS.WF.fZ {s:SS} (h:s.WF) (i:Nat):s.aK i < 2199023255552:=by
 unfold SS.aK
 rw [List.getD_eq_getElem?_getD]
 cases hi:s.lim[i]? with
 | none=>decide
 | some m=>exact h.small m (List.mem_of_getElem? hi)
theorem Qk (s:SS):∀ v∈dJ s,v.oneCell'=true:=by
 intro v hv
 unfold dJ mM pY at hv
 rcases List.mem_append.1 hv with h | h
 ·obtain ⟨m,_,rfl⟩:=List.mem_map.1 h;rfl
 ·obtain ⟨p,_,h⟩:=List.mem_flatMap.1 h
  rcases List.mem_cons.1 h with rfl | h
  ·rfl
  ·rcases List.mem_cons.1 h with rfl | h
   ·rfl
   ·cases h
theorem JV (l:List Nat):∀ v∈mM l,v.oneCell'=true:=by
 intro v hv
 obtain ⟨m,_,rfl⟩:=List.mem_map.1 hv;rfl
def SS.weighed (s:SS) (i:Nat) (n:Int):SS:=s.cu i (s.aK i &&& dO n n)
theorem SS.WF.weighed {s:SS} (h:s.WF) (i:Nat) (n:Int):(s.weighed i n).WF:=h.cu (Nat.lt_of_le_of_lt Nat.and_le_left (h.fZ i))
open Go.Mm
structure nN where
 from_:Int
 room:Int
 lo:Int
 hi:Int
 deriving DecidableEq,Inhabited
structure je where
 vessel:Int
 scale:Int
 shown:Int
 err:Int
 deriving DecidableEq,Inhabited
structure Wk where
 ves:List nN
 rdg:List je
 deriving DecidableEq
def nN.cells (v:nN):List Value:=[.int .i64 v.from_,.int .i64 v.room,.int .i64 v.lo,.int .i64 v.hi]
def je.cells (r:je):List Value:=[.int .i64 r.vessel,.int .i64 r.scale,.int .i64 r.shown,.int .i64 r.err]
def Wk.n (k:Wk):Nat:=k.ves.length
def Wk.v (k:Wk) (i:Nat):nN:=k.ves.getD i default
def Wk.fills (k:Wk) (i:Nat):List Nat:=(List.range k.n).filter fun j=>(k.v j).from_ == (i:Int)
structure pW (V:View) (v:Value) (n sz:Nat) (get:Nat→List Value):Prop where
 is:∃ a cap,v=.slice a n cap∧n≤cap∧cap≤maxLen∧(0 < n→∃ g off,a=some ⟨g,off,none⟩∧∀ i,i < n→V.Range g (off+i * sz) (get i))
def ptr (b:Nat):Value:=.pointer (some ⟨b,0,none⟩)
structure zO (V:View) (p:Nat) (k:Wk) (ts:List Nat) (vv rv:Value):Prop where
 c0:V.Cell p 0 vv
 c1:V.Cell p 1 rv
 c2:∃ g cap,V.Cell p 2 (.slice (some ⟨g,0,none⟩) k.n cap)∧∀ i,i < k.n→V.Cell g i (ptr (ts.getD i 0))
 ves:pW V vv k.n 4 fun i=>(k.v i).cells
 rdg:pW V rv k.rdg.length 4 fun i=>(k.rdg.getD i default).cells
 tun:∀ i,i < k.n→V.Range (ts.getD i 0) 0 ((k.v i).cells ++ [.int .i64 (i:Int)])
 fil:∀ i,i < k.n→∃ v,V.Cell (ts.getD i 0) 5 v∧pW V v (k.fills i).length 1 fun j=>[ptr (ts.getD ((k.fills i).getD j 0) 0)]
 pos:0 < k.n
 le:k.n≤6
def jh (V:View) (p:Nat) (k:Wk):Prop:=∃ ts vv rv,zO V p k ts vv rv
theorem zO.mono {V V':View} {p:Nat} {k:Wk} {ts:List Nat} {vv rv:Value} (h:zO V p k ts vv rv) (hV:∀ i o,V i=some o→V' i=some o):zO V' p k ts vv rv:=by
 have sl:∀ {v n sz get},pW V v n sz get→pW V' v n sz get:=fun ⟨a,cap,h1,h2,h3,h4⟩ =>
  ⟨a,cap,h1,h2,h3,fun hn=>by obtain ⟨g,off,h5,h6⟩:=h4 hn;exact ⟨g,off,h5,fun i hi=>(h6 i hi).mono hV⟩⟩
 refine ⟨h.c0.mono hV,h.c1.mono hV,?_,sl h.ves,sl h.rdg,fun i hi=>(h.tun i hi).mono hV,fun i hi=>?_,h.pos,h.le⟩
 ·obtain ⟨g,cap,h1,h2⟩:=h.c2
  exact ⟨g,cap,h1.mono hV,fun i hi=>(h2 i hi).mono hV⟩
 ·obtain ⟨v,h1,h2⟩:=h.fil i hi
  exact ⟨v,h1.mono hV,sl h2⟩
def sums (out:List Nat) (f:List Nat):Nat:=f.foldl (fun m x=>nV m (out.getD x 0)) 1
def uX (k:Wk) (s:SS) (out:List Nat) (i:Nat):Nat :=
 if k.fills i=[] then s.aK i else s.aK i &&& nV (sums (out.set i (s.aK i)) (k.fills i)) (dO (s.aP i).1 (s.aP i).2)
def mJ (k:Wk) (s:SS):Nat→List Nat
 | 0=>List.replicate 6 0
 | m+1=>(mJ k s m).set (k.n - 1 - m) (uX k s (mJ k s m) (k.n - 1 - m))
def up (k:Wk) (s:SS):List Nat:=mJ k s k.n
theorem kZ (k:Wk) (s:SS) (m:Nat):(mJ k s m).length=6:=by
 induction m with
 | zero=>rfl
 | succ m ih=>simp [mJ,ih]
theorem QN (out f:List Nat):sums out f < 2199023255552:=by
 unfold sums
 rcases List.eq_nil_or_concat f with rfl | ⟨l,x,rfl⟩
 ·exact (by decide:(1:Nat) < 2199023255552)
 ·rw [List.concat_eq_append,List.foldl_append]
  exact JX _ _
theorem Rt (out f:List Nat) (j:Nat) (h:j < f.length):sums out (f.take (j+1))=nV (sums out (f.take j)) (out.getD (f.getD j 0) 0):=by
 unfold sums
 rw [List.take_succ_eq_append_getElem h,List.foldl_append]
 simp [List.getD_eq_getElem?_getD,List.getElem?_eq_getElem h]
theorem WH {k:Wk} {s:SS} (h:s.WF) (out:List Nat) (i:Nat):uX k s out i < 2199023255552:=by
 unfold uX
 split
 ·exact h.fZ i
 ·exact Nat.lt_of_le_of_lt Nat.and_le_left (h.fZ i)
theorem Xp {k:Wk} {s:SS} (h:s.WF) (m x:Nat):(mJ k s m).getD x 0 < 2199023255552:=by
 induction m with
 | zero =>
  rw [List.getD_eq_getElem?_getD,mJ,List.getElem?_replicate]
  split <;> decide
 | succ m ih =>
  rw [mJ,List.getD_eq_getElem?_getD,List.getElem?_set]
  split
  ·split
   ·exact WH h _ _
   ·decide
  ·rw [← List.getD_eq_getElem?_getD];exact ih
theorem Vx {l:List Nat} (h:∀ x,l.getD x 0 < 2199023255552) {m:Nat} (hm:m < 2199023255552) (i x:Nat):(l.set i m).getD x 0 < 2199023255552:=by
 rw [List.getD_eq_getElem?_getD,List.getElem?_set]
 split
 ·split
  ·exact hm
  ·decide
 ·rw [← List.getD_eq_getElem?_getD];exact h x
theorem wF {l:List Nat} {i:Nat} (h:i < l.length):(mM l)[i]? = some (.int .u64 (l.getD i 0:Nat)):=by
 simp [mM,List.getElem?_map,List.getElem?_eq_getElem h,List.getD_eq_getElem?_getD]
def settle (k:Wk) (s:SS):Option Nat:=(List.range k.n).reverse.find? fun i=>(up k s).getD i 0 == 0
def can (k:Wk) (s:SS):Bool:=(settle k s).isNone
def lN (k:Wk) (s:SS):Value:=match settle k s with | none=>.nilIface | some i=>.iface 152 (.agg #[.int .i64 (i:Int)])
theorem MH {k:Wk} {s:SS} {i:Nat} (h:i < k.n) (h0:(up k s).getD i 0=0) (h1:∀ j,i < j→j < k.n→(up k s).getD j 0≠0):settle k s=some i:=by
 unfold settle
 have key:∀ n,i < n→(∀ j,i < j→j < n→(up k s).getD j 0≠0)→(List.range n).reverse.find? (fun i=>(up k s).getD i 0 == 0)=some i:=by
  intro n
  induction n with
  | zero=>omega
  | succ n ih =>
   intro hn hj
   rw [List.range_succ,List.reverse_append]
   simp only [List.reverse_cons,List.reverse_nil,List.nil_append,List.cons_append,List.find?_cons]
   by_cases hin:i=n
   ·subst hin
    simp only [h0,beq_self_eq_true]
   ·have hz:((up k s).getD n 0 == 0)=false:=by rw [beq_eq_false_iff_ne];exact hj n (by omega) (by omega)
    rw [hz]
    exact ih (by omega) fun j h2 h3=>hj j h2 (by omega)
 exact key k.n h h1
theorem aeL {k:Wk} {s:SS} (h1:∀ j,j < k.n→(up k s).getD j 0≠0):settle k s=none:=by
 unfold settle
 rw [List.find?_eq_none]
 intro j hj
 have:j < k.n:=by simpa using hj
 simpa using h1 j this
def lS (k:Wk):Nat→SS
 | 0=>⟨List.replicate 6 0,List.replicate 6 (0,0)⟩
 | i+1=>((lS k i).cu i (dO 0 (k.v i).room)).eu i ((k.v i).lo,(k.v i).hi)
def lU (b:je→Bool) (s:SS) (r:je):SS:=if b r then s else s.cu r.vessel.toNat (s.aK r.vessel.toNat &&& dO (r.shown - r.err) (r.shown+r.err))
def aN (k:Wk) (b:je→Bool):SS:=k.rdg.foldl (lU b) (lS k k.n)
def aC (_:je):Bool:=false
theorem nX (k:Wk) (i:Nat):(lS k i).WF:=by
 induction i with
 | zero=>exact ⟨by simp [lS],by simp [lS],fun m hm=>by simp [lS] at hm;omega⟩
 | succ i ih=>exact (ih.cu (rG _ _)).eu
theorem J7 {b:je→Bool} {s:SS} (h:s.WF) (r:je):(lU b s r).WF:=by
 unfold lU
 split
 ·exact h
 ·exact h.cu (Nat.lt_of_le_of_lt Nat.and_le_left (h.fZ _))
theorem Vf {b:je→Bool} {s:SS} (h:s.WF) (l:List je):(l.foldl (lU b) s).WF:=by
 induction l generalizing s with
 | nil=>exact h
 | cons r l ih=>exact ih (J7 h r)
theorem gG (k:Wk) (b:je→Bool):(aN k b).WF:=Vf (nX k _) _
def je.Ok (n:Nat) (r:je):Prop:=0≤r.vessel∧r.vessel < n∧0≤r.scale∧r.scale≤2∧0≤r.shown∧r.shown≤60∧0≤r.err∧r.err≤9
def nN.Ok (i:Nat) (v:nN):Prop:=-1≤v.from_∧v.from_ < i∧0≤v.room∧v.room≤40∧0≤v.lo∧v.lo≤20∧0≤v.hi∧v.hi≤20∧v.lo≤v.hi
structure Wk.Ok (k:Wk):Prop where
 pos:0 < k.n
 le:k.n≤6
 ves:∀ i,i < k.n→(k.v i).Ok i
 rdl:k.rdg.length≤6
 rdg:∀ i,i < k.rdg.length→(k.rdg.getD i default).Ok k.n
theorem KX (s:SS) (h:s.WF) (i:Nat) (hi:i < 6) (x y:Int):splice (dJ s) (6+i * 2) [.int .i64 x,.int .i64 y]=dJ (s.eu i (x,y)):=by
 have e1:=TP h hi x
 have h':(s.eu i (x,(s.aP i).2)).WF:=h.eu
 have e2:=He h' hi y
 rw [← e1] at e2
 have e3:(s.eu i (x,(s.aP i).2)).eu i (((s.eu i (x,(s.aP i).2)).aP i).1,y)=s.eu i (x,y):=by
  have hl:i < s.los.length:=by rw [h.los];exact hi
  simp [SS.eu,SS.aP,hl]
 rw [e3] at e2
 rw [← e2]
 have hl:(dJ s).length=18:=dG h
 unfold splice
 apply List.ext_getElem?
 intro j
 simp only [List.length_cons,List.length_nil,List.append_assoc,List.getElem?_append,List.length_take,hl,List.getElem?_take,List.getElem?_drop,List.getElem?_set,List.length_set]
 have e4:min (6+i * 2) 18=6+i * 2:=by omega
 rw [e4]
 by_cases h1:j < 6+i * 2
 ·simp [h1,show ¬ 6+i * 2=j by omega,show ¬ 6+i * 2+1=j by omega]
 ·simp only [h1,if_false]
  by_cases h2:j=6+i * 2
  ·subst h2;simp;omega
  ·by_cases h3:j=6+i * 2+1
   ·subst h3;simp [show 6+i * 2+1 - (6+i * 2)=1 by omega];omega
   ·have:¬ j - (6+i * 2) < 0+1+1:=by omega
    simp only [this,if_false,show ¬ 6+i * 2=j by omega,show ¬ 6+i * 2+1=j by omega]
    congr 1
    omega
theorem nN.one (v:nN):∀ x∈v.cells,x.oneCell'=true:=by
 intro x hx
 simp only [nN.cells,List.mem_cons,List.not_mem_nil,or_false] at hx
 rcases hx with rfl | rfl | rfl | rfl <;> rfl
theorem je.one (v:je):∀ x∈v.cells,x.oneCell'=true:=by
 intro x hx
 simp only [je.cells,List.mem_cons,List.not_mem_nil,or_false] at hx
 rcases hx with rfl | rfl | rfl | rfl <;> rfl
def bZ (k:Wk) (s:SS) (v:Nat):Nat→Int × Int
 | 0=>(40,0)
 | m+1=>if can k (s.weighed v (m:Nat)) then (min (bZ k s v m).1 m,m) else bZ k s v m
def aO (k:Wk) (s:SS) (v:Nat):Int × Int:=bZ k s v 41
def jP (s:SS) (v:Nat) (n:Nat):SS:=s.eu v ((s.aP v).1,(s.aP v).2+n)
def zn (k:Wk) (v:Nat):Option Nat:=(List.range 41).find? fun n=>can k (jP (aN k aC) v n)
def aJ (p:Int × Int):Value:=.agg #[.int .i64 p.1,.int .i64 p.2]
theorem qE (k:Wk) (s:SS) (v m:Nat) (hm:m≤41):0≤(bZ k s v m).1∧(bZ k s v m).1≤40∧0≤(bZ k s v m).2∧(bZ k s v m).2≤40:=by
 induction m with
 | zero=>simp only [bZ];omega
 | succ m ih =>
  have:=ih (by omega)
  rw [bZ]
  split
  ·simp only;omega
  ·exact this
theorem SS.JD (s:SS) (i:Nat) (p q:Int × Int):(s.eu i p).eu i q=s.eu i q:=by simp [SS.eu]
theorem SS.zx (s:SS) (hs:s.WF) (i:Nat) (hi:i < 6) (p:Int × Int):(s.eu i p).aP i=p:=by
 have:i < s.los.length:=by rw [hs.los];exact hi
 simp [SS.eu,SS.aP,this]
theorem L6 {l:List Value} {i:Nat} {a b:Value} (h1:l[i]? = some a) (h2:l[i+1]? = some b):(l.drop i).take 2=[a,b]:=by
 obtain ⟨hi,rfl⟩:=List.getElem?_eq_some_iff.1 h1
 obtain ⟨hj,rfl⟩:=List.getElem?_eq_some_iff.1 h2
 rw [List.drop_eq_getElem_cons hi,List.drop_eq_getElem_cons hj]
 rfl
theorem UR {s:SS} (h:s.WF) {i:Nat} (hi:i < 6):((dJ s).drop (6+i * 2)).take 2=[.int .i64 (s.aP i).1,.int .i64 (s.aP i).2]:=L6 (Us h hi) (Pm h hi)
theorem OI {s:SS} (hs:s.WF) {v:Nat} (hv:v < 6) (n:Nat):(jP s v n).eu v (((jP s v n).aP v).1,((jP s v n).aP v).2+1)=jP s v (n+1):=by
 unfold jP
 rw [SS.JD,SS.zx s hs v hv]
 congr 2
 show (s.aP v).2+(n:Int)+1=(s.aP v).2+((n+1:Nat):Int)
 omega
theorem OQ {s:SS} (hs:s.WF) {v:Nat} (hv:v < 6):jP s v 0=s:=by
 unfold jP SS.eu SS.aP
 have:v < s.los.length:=by rw [hs.los];exact hv
 cases s with
 | mk lim los =>
  simp only [SS.mk.injEq,true_and]
  simp only at this
  rw [List.getD_eq_getElem?_getD,List.getElem?_eq_getElem this]
  simp only [Option.getD_some,Int.natCast_zero,Int.add_zero]
  exact List.set_getElem_self this
theorem Xc {s:SS} (hs:s.WF) (v n:Nat):(jP s v n).WF:=hs.eu
def bC:List Int→Int
 | []=>0
 | e :: l=>if e=0 then bC l else e
def bI (b:Bool) (e:Int):Int:=if b then 0 else e
def fQ (n lo hi:Int):Bool:=decide (n < lo) || decide (hi < n)
def Le (i:Nat) (v:nN):Int :=
 bC [bI (!fQ v.from_ (-1) (i - 1)) 3,bI (!fQ v.room 0 40) 1,bI (!fQ v.lo 0 20 && !fQ v.hi 0 20) 1,bI (decide (v.lo≤v.hi)) 5]
def KD (n:Nat) (r:je):Int:=bC [bI (!fQ r.vessel 0 (n - 1) && !fQ r.scale 0 2) 3,bI (!fQ r.shown 0 60 && !fQ r.err 0 9) 1]
def wo (k:Wk) (m:Nat):Int:=bC ((List.range m).map fun i=>Le i (k.v i))
def uz (k:Wk) (m:Nat):Int:=bC ((List.range m).map fun i=>KD k.n (k.rdg.getD i default))
def nS (k:Wk):Int :=
 bC [bC [bI (decide (0 < k.n)) 7,bI (decide (k.n≤6)) 6],wo k k.n,if 6 < k.rdg.length then 6 else 0,uz k k.rdg.length]
theorem mV (a b:List Int):bC (a ++ b)=if bC a=0 then bC b else bC a:=by
 induction a with
 | nil=>simp [bC]
 | cons e a ih =>
  simp only [List.cons_append,bC]
  by_cases h:e=0
  ·simp only [h,if_true];exact ih
  ·simp only [h,if_false]
theorem D8 (k:Wk) (m:Nat):wo k (m+1)=if wo k m=0 then Le m (k.v m) else wo k m:=by
 unfold wo
 rw [List.range_succ,List.map_append,mV]
 simp only [List.map_cons,List.map_nil,bC]
 congr 1
 split
 ·rename_i h;exact h.symm
 ·rfl
theorem Et (k:Wk) (m:Nat):uz k (m+1)=if uz k m=0 then KD k.n (k.rdg.getD m default) else uz k m:=by
 unfold uz
 rw [List.range_succ,List.map_append,mV]
 simp only [List.map_cons,List.map_nil,bC]
 congr 1
 split
 ·rename_i h;exact h.symm
 ·rfl
theorem Ri {k:Wk} {m n:Nat} (h:m < n) (h0:wo k m=0) (h1:Le m (k.v m)≠0):wo k n=Le m (k.v m):=by
 induction n with
 | zero=>omega
 | succ n ih =>
  rw [D8]
  by_cases hn:m=n
  ·subst hn;rw [if_pos h0]
  ·have:=ih (by omega)
   rw [if_neg (by rw [this];exact h1),this]
theorem Ru {k:Wk} {m n:Nat} (h:m < n) (h0:uz k m=0) (h1:KD k.n (k.rdg.getD m default)≠0):uz k n=KD k.n (k.rdg.getD m default):=by
 induction n with
 | zero=>omega
 | succ n ih =>
  rw [Et]
  by_cases hn:m=n
  ·subst hn;rw [if_pos h0]
  ·have:=ih (by omega)
   rw [if_neg (by rw [this];exact h1),this]
def sO (a b:Int × Int):Int × Int:=(min a.1 b.1,max a.2 b.2)
def dX (a b:Int × Int):Int × Int:=(a.1+b.1,a.2+b.2)
structure Gr where
 at_:List (Int × Int)
 has:Nat
structure Gr.WF (g:Gr):Prop where
 len:g.at_.length=41
 small:g.has < 2199023255552
def Gr.empty:Gr:=⟨List.replicate 41 (0,0),0⟩
def Gr.get (g:Gr) (n:Nat):Int × Int:=g.at_.getD n (0,0)
def Gr.add (g:Gr) (n:Nat) (v:Int × Int):Gr:=⟨g.at_.set n (if g.has.testBit n then sO (g.get n) v else v),g.has ||| 2 ^ n⟩
def UW:Value:=.func (.func 126) #[] #[]
def sJ (g:Gr):List Value:=pY g.at_ ++ [.int .u64 (g.has:Nat),UW]
theorem Gr.uQ:Gr.empty.WF:=⟨by simp [Gr.empty],by decide⟩
theorem Gr.WF.add {g:Gr} (h:g.WF) {n:Nat} (hn:n < 41) (v:Int × Int):(g.add n v).WF:=by
 refine ⟨by simp [Gr.add,h.len],?_⟩
 have h2:(2:Nat) ^ n < 2 ^ 41:=Nat.pow_lt_pow_right (by omega) hn
 have h1:=h.small
 have:g.has ||| 2 ^ n < 2 ^ 41:=Nat.or_lt_two_pow (by omega) h2
 show g.has ||| 2 ^ n < 2199023255552
 omega
theorem IE {g:Gr} (h:g.WF):(sJ g).length=84:=by simp [sJ,eU,h.len]
theorem sN {g:Gr} (h:g.WF):(sJ g)[82]? = some (.int .u64 (g.has:Nat)):=by
 unfold sJ
 rw [List.getElem?_append_right (by simp [eU,h.len])]
 simp [eU,h.len]
theorem Wy {g:Gr} (h:g.WF):(sJ g)[83]? = some UW:=by
 unfold sJ
 rw [List.getElem?_append_right (by simp [eU,h.len])]
 simp [eU,h.len]
theorem Fb {g:Gr} (h:g.WF) {n:Nat} (hn:n < 41):((sJ g).drop (n * 2)).take 2=[.int .i64 (g.get n).1,.int .i64 (g.get n).2]:=by
 have h1:=Ee g.at_ n (by rw [h.len];exact hn)
 refine L6 ?_ ?_
 ·unfold sJ
  rw [List.getElem?_append_left (by simp [eU,h.len];omega)];exact h1.1
 ·unfold sJ
  rw [List.getElem?_append_left (by simp [eU,h.len];omega)];exact h1.2
theorem La (l:List (Int × Int)) (i:Nat) (h:i < l.length) (p:Int × Int) (r:List Value):splice (pY l ++ r) (i * 2) [.int .i64 p.1,.int .i64 p.2]=pY (l.set i p) ++ r:=by
 induction l generalizing i with
 | nil=>simp at h
 | cons q l ih =>
  cases i with
  | zero=>simp [pY,splice]
  | succ i =>
   have:=ih i (by simpa using h)
   simp only [pY,List.flatMap_cons,List.cons_append,List.nil_append,splice,List.set_cons_succ] at this ⊢
   rw [show (i+1) * 2=i * 2+1+1 by omega]
   simp only [List.take_succ_cons,List.drop_succ_cons,List.cons_append,List.length_cons,List.length_nil] at this ⊢
   rw [← this]
theorem Ht {g:Gr} (h:g.WF) {n:Nat} (hn:n < 41) (p:Int × Int):splice (sJ g) (n * 2) [.int .i64 p.1,.int .i64 p.2]=sJ ⟨g.at_.set n p,g.has⟩:=by
 unfold sJ
 exact La _ _ (by rw [h.len];exact hn) _ _
theorem Dn {g:Gr} (h:g.WF) (m:Nat):(sJ g).set 82 (.int .u64 (m:Nat))=sJ ⟨g.at_,m⟩:=by
 unfold sJ
 rw [List.set_append_right _ _ (by simp [eU,h.len])]
 simp [eU,h.len]
def lY (s:SS) (st:Bool) (i:Nat):Nat→Gr
 | 0=>Gr.empty
 | m+1=>if (s.aK i).testBit m then (lY s st i m).add m (if st then ((m:Int),(m:Int)) else (0,0)) else lY s st i m
def rM (a b:Gr) (x:Nat) (g:Gr):Nat→Gr
 | 0=>g
 | m+1=>if a.has.testBit x && b.has.testBit m then (rM a b x g m).add (x+m) (dX (a.get x) (b.get m)) else rM a b x g m
def ku (a b:Gr):Nat→Gr
 | 0=>Gr.empty
 | x+1=>rM a b x (ku a b x) (41 - x)
def pR (a b:Gr):Gr:=ku a b 41
def iO (sums:Gr) (lim:Nat) (st:Bool) (lo:Int) (x:Nat) (g:Gr):Nat→Gr
 | 0=>g
 | m+1=>if sums.has.testBit x && lim.testBit (x+(lo+m).toNat) then (iO sums lim st lo x g m).add (x+(lo+m).toNat) (if st then sums.get x else dX (sums.get x) (lo+m,lo+m)) else iO sums lim st lo x g m
def qY (lo hi:Int) (x:Nat):Nat:=(min hi (40 - x) - lo+1).toNat
def jY (sums:Gr) (lim:Nat) (st:Bool) (lo hi:Int):Nat→Gr
 | 0=>Gr.empty
 | x+1=>iO sums lim st lo x (jY sums lim st lo hi x) (qY lo hi x)
def jm (k:Wk) (s:SS) (st:Bool):Nat→Nat→Gr
 | 0,_=>Gr.empty
 | f+1,i =>
  if k.fills i=[] then lY s st i 41
  else jY ((k.fills i).foldl (fun sm x=>pR sm (jm k s st f x)) (Gr.empty.add 0 (0,0))) (s.aK i) st (s.aP i).1 (s.aP i).2 41
def Qg (k:Wk) (s:SS) (st:Bool) (i:Nat):Gr:=jm k s st (k.n - i) i
def gy (g:Gr):Nat→Option (Int × Int)
 | 0=>none
 | n+1=>if g.has.testBit n then some (match gy g n with | none=>g.get n | some r=>sO r (g.get n)) else gy g n
def kX (k:Wk) (s:SS) (st:Bool) (i:Nat):Int × Int:=(gy (Qg k s st i) 41).getD (0,0)
def Wk.sources (k:Wk):List Nat:=(List.range k.n).filter fun i=>decide ((k.v i).from_ < 0)
def dW (k:Wk) (s:SS) (st:Bool):Int × Int:=k.sources.foldl (fun t i=>dX t (kX k s st i)) (0,0)
theorem GY (s:SS) (st:Bool) (i m:Nat) (hm:m≤41):(lY s st i m).WF:=by
 induction m with
 | zero=>exact Gr.uQ
 | succ m ih =>
  rw [lY]
  split
  ·exact (ih (by omega)).add (by omega) _
  ·exact ih (by omega)
theorem MF (a b:Gr) (x:Nat) {g:Gr} (hg:g.WF) (m:Nat) (hm:x+m≤41):(rM a b x g m).WF:=by
 induction m with
 | zero=>exact hg
 | succ m ih =>
  rw [rM]
  split
  ·exact (ih (by omega)).add (by omega) _
  ·exact ih (by omega)
theorem Gu (a b:Gr) (x:Nat) (hx:x≤41):(ku a b x).WF:=by
 induction x with
 | zero=>exact Gr.uQ
 | succ x ih =>
  rw [ku]
  exact MF a b x (ih (by omega)) _ (by omega)
theorem Vd (a b:Gr):(pR a b).WF:=Gu a b 41 (by omega)
theorem Ed (sums:Gr) (lim:Nat) (st:Bool) (lo:Int) (hlo:0≤lo) (x:Nat) {g:Gr} (hg:g.WF) (m:Nat) (hm:x+lo+m≤41):(iO sums lim st lo x g m).WF:=by
 induction m with
 | zero=>exact hg
 | succ m ih =>
  rw [iO]
  split
  ·exact (ih (by omega)).add (by omega) _
  ·exact ih (by omega)
theorem Ej (sums:Gr) (lim:Nat) (st:Bool) (lo hi:Int) (hlo:0≤lo) (x:Nat) (hx:x≤41):(jY sums lim st lo hi x).WF:=by
 induction x with
 | zero=>exact Gr.uQ
 | succ x ih =>
  rw [jY]
  have ihx:=ih (by omega)
  by_cases h0:qY lo hi x=0
  ·rw [h0];exact ihx
  ·refine Ed _ _ _ _ hlo _ ihx _ ?_
   unfold qY at h0 ⊢
   omega
theorem Du (k:Wk) (s:SS) (st:Bool) (hlo:∀ i,0≤(s.aP i).1) (f i:Nat):(jm k s st f i).WF:=by
 cases f with
 | zero=>exact Gr.uQ
 | succ f =>
  rw [jm]
  split
  ·exact GY s st i 41 (by omega)
  ·exact Ej _ _ _ _ _ (hlo i) 41 (by omega)
def Pb (c:Int) (p:Int × Int):Prop:=-c≤p.1∧p.1≤c∧-c≤p.2∧p.2≤c
def Gr.Bd (g:Gr) (c:Int):Prop:=∀ p∈g.at_,Pb c p
theorem Pb.mono {c d:Int} {p:Int × Int} (h:Pb c p) (hd:c≤d):Pb d p:=by unfold Pb at *;omega
theorem Gr.Bd.mono {g:Gr} {c d:Int} (h:g.Bd c) (hd:c≤d):g.Bd d:=fun p hp=>(h p hp).mono hd
theorem Gr.Bd.get {g:Gr} {c:Int} (h:g.Bd c) (hc:0≤c) (n:Nat):Pb c (g.get n):=by
 unfold Gr.get
 rw [List.getD_eq_getElem?_getD]
 cases hg:g.at_[n]? with
 | none=>unfold Pb;simp;omega
 | some p=>exact h p (List.mem_of_getElem? hg)
theorem Gr.sH:Gr.empty.Bd 0:=fun p hp=>by
 simp [Gr.empty] at hp
 subst hp;unfold Pb;simp
theorem Pb.wider {c:Int} {p q:Int × Int} (h:Pb c p) (k:Pb c q):Pb c (sO p q):=by unfold Pb sO at *;simp only;omega
theorem Pb.both {c d:Int} {p q:Int × Int} (h:Pb c p) (k:Pb d q):Pb (c+d) (dX p q):=by unfold Pb dX at *;simp only;omega
theorem Gr.Bd.add {g:Gr} {c:Int} (h:g.Bd c) (hc:0≤c) (n:Nat) {v:Int × Int} (hv:Pb c v):(g.add n v).Bd c:=fun p hp=>by
 rcases List.mem_or_eq_of_mem_set hp with hp | rfl
 ·exact h p hp
 ·split
  ·exact (h.get hc n).wider hv
  ·exact hv
theorem Rl (s:SS) (st:Bool) (i m:Nat) (hm:m≤41):(lY s st i m).Bd 40:=by
 induction m with
 | zero=>exact Gr.sH.mono (by decide)
 | succ m ih =>
  rw [lY]
  split
  ·refine (ih (by omega)).add (by decide) _ ?_
   split
   ·unfold Pb;simp only;omega
   ·unfold Pb;simp
  ·exact ih (by omega)
theorem WC {a b g:Gr} {ca cb:Int} (ha:a.Bd ca) (hb:b.Bd cb) (h1:0≤ca) (h2:0≤cb) (x:Nat) (hg:g.Bd (ca+cb)) (m:Nat):(rM a b x g m).Bd (ca+cb):=by
 induction m with
 | zero=>exact hg
 | succ m ih =>
  rw [rM]
  split
  ·exact ih.add (by omega) _ ((ha.get h1 x).both (hb.get h2 m))
  ·exact ih
theorem RF {a b:Gr} {ca cb:Int} (ha:a.Bd ca) (hb:b.Bd cb) (h1:0≤ca) (h2:0≤cb) (x:Nat):(ku a b x).Bd (ca+cb):=by
 induction x with
 | zero=>exact Gr.sH.mono (by omega)
 | succ x ih=>rw [ku];exact WC ha hb h1 h2 x ih _
theorem Jc {F:Nat→Gr} {c:Int} (hc:0≤c):∀ (l:List Nat) (g:Gr) (d:Int),0≤d→g.Bd d→(∀ x∈l,(F x).Bd c)→(l.foldl (fun sm x=>pR sm (F x)) g).Bd (d+l.length * c)
 | [],g,d,_,h,_=>by simpa using h
 | x :: l,g,d,hd,h,hl=>by
  have:=Jc hc l (pR g (F x)) (d+c) (by omega) (RF h (hl x (by simp)) hd hc 41) fun y hy=>hl y (by simp [hy])
  refine this.mono ?_
  rw [List.length_cons,Int.natCast_add,Int.add_mul]
  simp;omega
theorem NS {sums g:Gr} {c:Int} (hs:sums.Bd c) (hc:0≤c) (lim:Nat) (st:Bool) (lo:Int) (hlo:0≤lo) (x:Nat) (hg:g.Bd (c+40)) (m:Nat) (hm:lo+m≤41):(iO sums lim st lo x g m).Bd (c+40):=by
 induction m with
 | zero=>exact hg
 | succ m ih =>
  have ih:=ih (by omega)
  rw [iO]
  split
  ·refine ih.add (by omega) _ ?_
   split
   ·exact (hs.get hc x).mono (by omega)
   ·exact (hs.get hc x).both (by unfold Pb;simp only;omega)
  ·exact ih
theorem Pj {sums:Gr} {c:Int} (hs:sums.Bd c) (hc:0≤c) (lim:Nat) (st:Bool) (lo hi:Int) (hlo:0≤lo) (x:Nat):(jY sums lim st lo hi x).Bd (c+40):=by
 induction x with
 | zero=>exact Gr.sH.mono (by omega)
 | succ x ih =>
  rw [jY]
  by_cases h0:qY lo hi x=0
  ·rw [h0];exact ih
  ·refine NS hs hc _ _ _ hlo _ ih _ ?_
   unfold qY at h0 ⊢
   omega
theorem wL (k:Wk) (i:Nat):(k.fills i).length≤k.n:=by
 have:=List.length_filter_le (fun j=>(k.v j).from_ == (i:Int)) (List.range k.n)
 rwa [List.length_range] at this
theorem D9 (k:Wk) (hk:k.n≤6) (s:SS) (st:Bool) (hlo:∀ i,0≤(s.aP i).1) (f i:Nat):(jm k s st f i).Bd (100 * 7 ^ f):=by
 induction f generalizing i with
 | zero=>exact Gr.sH.mono (by decide)
 | succ f ih =>
  have hp:(0:Int) < 7 ^ f:=Int.pow_pos (by decide)
  have e:(100 * 7 ^ (f+1):Int)=700 * 7 ^ f:=by rw [Int.pow_succ];omega
  rw [jm,e]
  split
  ·exact (Rl s st i 41 (by omega)).mono (by omega)
  ·have h1:=Jc (F:=fun x=>jm k s st f x) (c:=100 * 7 ^ f) (by omega) (k.fills i) (Gr.empty.add 0 (0,0)) 0 (by decide) (Gr.sH.add (by decide) 0 (by unfold Pb;simp)) fun x _=>ih x
   have hl:=wL k i
   have h2:((k.fills i).length:Int) * (100 * 7 ^ f)≤6 * (100 * 7 ^ f):=Int.mul_le_mul_of_nonneg_right (by omega) (by omega)
   exact (Pj (h1.mono (d:=600 * 7 ^ f) (by omega)) (by omega) _ _ _ _ (hlo i) 41).mono (by omega)
end Go.Wg
