/- A part of the proof: M1, M2, M3, M4, M6, M7, M8, Q1, Q2, S2, S3, S4, S5, S6, S7, S8. -/
import Derived.Test.YtjjmefieegcddaaDoorB05
import Derived.Deep.MidRow
import Derived.OwnWalk
import Derived.OrdersHeld
import Derived.Below
import Derived.Maps.AppendAt
import Derived.BigRegion
import Derived.Test.YtjjmefieegcddaaDoorProg
set_option linter.unusedVariables false
set_option linter.unusedSimpArgs false
namespace Go.Mm
open Go
abbrev View:=Nat→Option Obj
def View.In (V:View) (w:World):Prop:=∀ k o,V k=some o→w.heap[k]? = some o
def View.Cell (V:View) (b i:Nat) (v:Value):Prop:=∃ cs t fr,V b=some (.cells cs t fr)∧cs[i]? = some v
def View.Range (V:View) (b i:Nat) (vs:List Value):Prop:=∀ j v,vs[j]? = some v→V.Cell b (i+j) v
theorem View.Cell.cell {V:View} {w:World} {b i:Nat} {v:Value} (h:V.Cell b i v) (hV:V.In w):w.cell? ⟨b,i,none⟩=some v:=by
 obtain ⟨cs,t,fr,h1,h2⟩:=h
 rw [cell_of_row w b i cs t fr (hV _ _ h1)];exact h2
theorem View.Range.range {V:View} {w:World} {b i:Nat} {vs:List Value} (h:V.Range b i vs) (hV:V.In w):w.rangeAt b i vs:=fun j v hj=>(h j v hj).cell hV
theorem View.Cell.mono {V V':View} {b i:Nat} {v:Value} (h:V.Cell b i v) (hV:∀ k o,V k=some o→V' k=some o):V'.Cell b i v:=by
 obtain ⟨cs,t,fr,h1,h2⟩:=h
 exact ⟨cs,t,fr,hV _ _ h1,h2⟩
theorem View.Range.mono {V V':View} {b i:Nat} {vs:List Value} (h:V.Range b i vs) (hV:∀ k o,V k=some o→V' k=some o):V'.Range b i vs:=fun j v hj=>(h j v hj).mono hV
inductive Ent where
 | blk (b:Nat) (t:TypeId) (cs:List Value)
 | row (v:Value) (t:TypeId) (size n:Nat) (xs:List Value)
def Ent.foot:Ent→Option Nat
 | .blk b _ _=>some b
 | .row v _ _ _ _=>v.ownBlock
def flat0:Value→Bool
 | .int _ _ | .bool _ | .pointer none | .slice none _ _=>true
 | _=>false
def PadAt (w:World) (v:Value) (k:Nat):Prop:=∀ g,v.ownBlock=some g→∀ cur t fr,w.heap[g]? = some (.cells cur t fr)→∀ i c,k≤i→cur[i]? = some c→flat0 c=true
def Ent.Holds (w:World):Ent→Prop
 | .blk b t cs=>w.heap[b]? = some (.cells cs.toArray t (0,0))
 | .row v t s n xs=>w.ownsRow 0 t s v n xs∧PadAt w v (n * s)
structure St (w0:World) (X:List Nat) (V:View) (L:List Ent) (w:World):Prop where
 os:w.os=w0.os
 output:w.output=w0.output
 size:w0.heap.size≤w.heap.size
 old:∀ k,k < w0.heap.size→k ∉ X→w.heap[k]? = w0.heap[k]?
 view:V.In w
 has:∀ e∈L,e.Holds w
 new:∀ e∈L,∀ b,e.foot=some b→w0.heap.size≤b∨b∈X
 off:∀ e∈L,∀ b,e.foot=some b→V b=none
 nd:(L.filterMap Ent.foot).Nodup
structure Kp (w w':World):Prop where
 os:w'.os=w.os
 output:w'.output=w.output
 size:w.heap.size≤w'.heap.size
 old:∀ k,k < w.heap.size→w'.heap[k]? = w.heap[k]?
theorem Kp.refl (w:World):Kp w w:=⟨rfl,rfl,Nat.le_refl _,fun _ _=>rfl⟩
theorem Kp.drew (w:World) (n:Nat):Kp w (w.drewN n):=⟨rfl,rfl,Nat.le_refl _,fun _ _=>rfl⟩
theorem Kp.trans {a b c:World} (h:Kp a b) (k:Kp b c):Kp a c :=
 ⟨k.os.trans h.os,k.output.trans h.output,Nat.le_trans h.size k.size,fun i hi=>(k.old i (Nat.lt_of_lt_of_le hi h.size)).trans (h.old i hi)⟩
theorem lt_of_heap {w:World} {k:Nat} {o:Obj} (h:w.heap[k]? = some o):k < w.heap.size:=by
 rcases Nat.lt_or_ge k w.heap.size with h1 | h1
 ·exact h1
 ·rw [Array.getElem?_eq_none h1] at h;cases h
theorem View.In.kp {V:View} {w w':World} (h:V.In w) (k:Kp w w'):V.In w':=fun i o hi=>by
 have:=h i o hi
 rw [k.old i (lt_of_heap this)];exact this
theorem ownsRow_of_heap {w w':World} {e:TypeId} {s n:Nat} {v:Value} {xs:List Value} (h:w.ownsRow 0 e s v n xs) (hb:∀ g,v.ownBlock=some g→w'.heap[g]? = w.heap[g]?):w'.ownsRow 0 e s v n xs:=by
 obtain ⟨h1,h2⟩:=h
 refine ⟨h1,?_⟩
 rcases h2 with h2 | ⟨g,cap,cur,rfl,h3,h4,h5⟩
 ·exact .inl h2
 ·exact .inr ⟨g,cap,cur,rfl,h3,by rw [hb g rfl];exact h4,h5⟩
theorem Ent.Holds.of_heap {w w':World} {e:Ent} (h:e.Holds w) (hb:∀ g,e.foot=some g→w'.heap[g]? = w.heap[g]?):e.Holds w':=by
 cases e with
 | blk b t cs=>exact (hb b rfl).trans h
 | row v t s n xs=>exact ⟨ownsRow_of_heap h.1 hb,fun g hg cur t fr hc=>h.2 g hg cur t fr (by rw [← hb g hg];exact hc)⟩
theorem Ent.Holds.lt {w:World} {e:Ent} (h:e.Holds w) {g:Nat} (hg:e.foot=some g):g < w.heap.size:=by
 cases e with
 | blk b t cs=>cases hg;exact lt_of_heap h
 | row v t s n xs=>exact (World.ownsRow.lt h.1 g hg).2
variable {w0:World} {X:List Nat} {V:View} {L:List Ent} {w w':World}
theorem St.start (w:World) (V:View) (hV:V.In w):St w [] V [] w :=
 ⟨rfl,rfl,Nat.le_refl _,fun _ _ _=>rfl,hV,by simp,by simp,by simp,by simp⟩
theorem St.kp (h:St w0 X V L w) (k:Kp w w'):St w0 X V L w' :=
 ⟨k.os.trans h.os,k.output.trans h.output,Nat.le_trans h.size k.size,fun i hi hx=>(k.old i (Nat.lt_of_lt_of_le hi h.size)).trans (h.old i hi hx),
  h.view.kp k,fun e he=>(h.has e he).of_heap (fun g hg=>k.old g ((h.has e he).lt hg)),h.new,h.off,h.nd⟩
theorem St.drew (h:St w0 X V L w) (n:Nat):St w0 X V L (w.drewN n):=h.kp (Kp.drew w n)
theorem St.toKp (h:St w0 [] V L w):Kp w0 w:=⟨h.os,h.output,h.size,fun k hk=>h.old k hk (by simp)⟩
theorem foot_mem {e:Ent} {b:Nat} (he:e∈L) (hf:e.foot=some b):b∈L.filterMap Ent.foot:=List.mem_filterMap.2 ⟨e,he,hf⟩
theorem St.alloc (h:St w0 X V L w) (t:TypeId) (cs:List Value):St w0 X V (.blk w.heap.size t cs :: L) (w.alloc (.cells cs.toArray t)):=by
 have hold:∀ k,k < w.heap.size→(w.alloc (.cells cs.toArray t)).heap[k]? = w.heap[k]?:=fun k hk=>heap_alloc_old w _ hk
 have hlt:∀ e∈L,∀ b,e.foot=some b→b < w.heap.size:=fun e he b hb=>(h.has e he).lt hb
 refine ⟨h.os,h.output,?_,fun k hk hx=>(hold k (Nat.lt_of_lt_of_le hk h.size)).trans (h.old k hk hx),fun k o hk=>?_,?_,?_,?_,?_⟩
 ·have:=h.size
  show _≤(w.heap.push _).size
  simp;omega
 ·have:=h.view k o hk
  rw [hold k (lt_of_heap this)];exact this
 ·intro e he
  rcases List.mem_cons.1 he with rfl | he
  ·exact heap_alloc_new w _
  ·exact (h.has e he).of_heap (fun g hg=>hold g (hlt e he g hg))
 ·intro e he b hb
  rcases List.mem_cons.1 he with rfl | he
  ·cases hb;exact .inl h.size
  ·exact h.new e he b hb
 ·intro e he b hb
  rcases List.mem_cons.1 he with rfl | he
  ·cases hb
   cases hv:V w.heap.size with
   | none=>rfl
   | some o=>exact absurd (lt_of_heap (h.view _ _ hv)) (Nat.lt_irrefl _)
  ·exact h.off e he b hb
 ·show (List.filterMap Ent.foot (Ent.blk w.heap.size t cs :: L)).Nodup
  rw [List.filterMap_cons_some (f:=Ent.foot) (b:=w.heap.size) rfl,List.nodup_cons]
  refine ⟨fun hm=>?_,h.nd⟩
  obtain ⟨e,he,hf⟩:=List.mem_filterMap.1 hm
  exact absurd (hlt e he _ hf) (Nat.lt_irrefl _)
theorem foot_ne (hnd:(L.filterMap Ent.foot).Nodup) {j i:Nat} {e f:Ent} (hj:L[j]? = some e) (hi:L[i]? = some f) (hji:j≠i) {b:Nat} (he:e.foot=some b):f.foot≠some b:=by
 induction L generalizing j i with
 | nil=>simp at hj
 | cons a L ih =>
  intro hf
  cases ha:a.foot with
  | none =>
   rw [List.filterMap_cons_none ha] at hnd
   cases j with
   | zero=>simp at hj;subst hj;rw [he] at ha;cases ha
   | succ j =>
    cases i with
    | zero=>simp at hi;subst hi;rw [hf] at ha;cases ha
    | succ i=>exact ih hnd (by simpa using hj) (by simpa using hi) (by omega) hf
  | some c =>
   rw [List.filterMap_cons_some ha,List.nodup_cons] at hnd
   cases j with
   | zero =>
    simp at hj;subst hj
    rw [he] at ha;cases ha
    cases i with
    | zero=>exact hji rfl
    | succ i=>exact hnd.1 (foot_mem (List.mem_of_getElem? (by simpa using hi)) hf)
   | succ j =>
    cases i with
    | zero =>
     simp at hi;subst hi
     rw [hf] at ha;cases ha
     exact hnd.1 (foot_mem (List.mem_of_getElem? (by simpa using hj)) he)
    | succ i=>exact ih hnd.2 (by simpa using hj) (by simpa using hi) (by omega) hf
theorem filterMap_set {j:Nat} {e f:Ent} (hj:L[j]? = some e) (hf:f.foot=e.foot):(L.set j f).filterMap Ent.foot=L.filterMap Ent.foot:=by
 induction L generalizing j with
 | nil=>simp at hj
 | cons a L ih =>
  cases j with
  | zero=>simp at hj;subst hj;simp [List.filterMap_cons,hf]
  | succ j =>
   simp only [List.set_cons_succ,List.filterMap_cons]
   rw [ih (by simpa using hj)]
theorem St.set (h:St w0 X V L w) {j:Nat} {e f:Ent} {b:Nat} (hj:L[j]? = some e) (he:e.foot=some b) (hf:f.foot=some b)
  (hos:w'.os=w.os) (hout:w'.output=w.output) (hsz:w'.heap.size=w.heap.size) (hoth:∀ k,k≠b→w'.heap[k]? = w.heap[k]?) (hh:f.Holds w') {L':List Ent} (hL:L.set j f=L'):St w0 X V L' w':=by
 subst hL
 have hem:e∈L:=List.mem_of_getElem? hj
 have hb:=h.new e hem b he
 have hbV:=h.off e hem b he
 refine ⟨hos.trans h.os,hout.trans h.output,by rw [hsz];exact h.size,fun k hk hx=>?_,fun k o hk=>?_,?_,?_,?_,?_⟩
 ·have hkb:k≠b:=by
   rintro rfl
   rcases hb with hb | hb
   ·omega
   ·exact hx hb
  exact (hoth k hkb).trans (h.old k hk hx)
 ·have hkb:k≠b:=by rintro rfl;rw [hbV] at hk;cases hk
  rw [hoth k hkb];exact h.view k o hk
 ·intro g hg
  rcases List.getElem?_of_mem hg with ⟨i,hi⟩
  rw [List.getElem?_set] at hi
  by_cases hji:j=i
  ·subst hji
   have hl:j < L.length:=by
    rcases List.getElem?_eq_some_iff.1 hj with ⟨hl,_⟩;exact hl
   simp [hl] at hi
   subst hi;exact hh
  ·simp [hji] at hi
   have hgL:g∈L:=List.mem_of_getElem? hi
   exact (h.has g hgL).of_heap (fun k hk=>hoth k (by rintro rfl;exact foot_ne h.nd hj hi hji he hk))
 ·intro g hg c hc
  rcases List.mem_or_eq_of_mem_set hg with hg | rfl
  ·exact h.new g hg c hc
  ·rw [hf] at hc;cases hc;exact hb
 ·intro g hg c hc
  rcases List.mem_or_eq_of_mem_set hg with hg | rfl
  ·exact h.off g hg c hc
  ·rw [hf] at hc;cases hc;exact hbV
 ·rw [filterMap_set hj (by rw [hf,he])];exact h.nd
theorem St.at (h:St w0 X V L w) {j:Nat} {b:Nat} {t:TypeId} {cs:List Value} (hj:L[j]? = some (.blk b t cs)):w.heap[b]? = some (.cells cs.toArray t (0,0)) :=
 h.has _ (List.mem_of_getElem? hj)
theorem St.atRow (h:St w0 X V L w) {j:Nat} {v:Value} {t:TypeId} {s n:Nat} {xs:List Value} (hj:L[j]? = some (.row v t s n xs)):w.ownsRow 0 t s v n xs :=
 (h.has _ (List.mem_of_getElem? hj)).1
theorem St.atPad (h:St w0 X V L w) {j:Nat} {v:Value} {t:TypeId} {s n:Nat} {xs:List Value} (hj:L[j]? = some (.row v t s n xs)):PadAt w v (n * s) :=
 (h.has _ (List.mem_of_getElem? hj)).2
theorem St.freeze {b:Nat} {t:TypeId} {cs:List Value} (h:St w0 X V (.blk b t cs :: L) w):St w0 X (fun k=>if k=b then some (.cells cs.toArray t (0,0)) else V k) L w:=by
 refine ⟨h.os,h.output,h.size,h.old,fun k o hk=>?_,fun e he=>h.has e (List.mem_cons_of_mem _ he),fun e he=>h.new e (List.mem_cons_of_mem _ he),fun e he c hc=>?_,?_⟩
 ·by_cases hkb:k=b
  ·subst hkb
   simp at hk;subst hk
   exact h.has _ (List.mem_cons_self ..)
  ·simp [hkb] at hk;exact h.view k o hk
 ·have hcb:c≠b:=by
   rintro rfl
   have:=h.nd
   rw [List.filterMap_cons_some (f:=Ent.foot) (b:=c) rfl,List.nodup_cons] at this
   exact this.1 (foot_mem he hc)
  simp [hcb]
  exact h.off e (List.mem_cons_of_mem _ he) c hc
 ·have:=h.nd
  rw [List.filterMap_cons_some (f:=Ent.foot) (b:=b) rfl,List.nodup_cons] at this
  exact this.2
theorem St.drop {e:Ent} (h:St w0 X V (e :: L) w):St w0 X V L w :=
 ⟨h.os,h.output,h.size,h.old,h.view,fun g hg=>h.has g (List.mem_cons_of_mem _ hg),fun g hg=>h.new g (List.mem_cons_of_mem _ hg),fun g hg=>h.off g (List.mem_cons_of_mem _ hg),by
  have:=h.nd
  cases he:e.foot with
  | none=>rwa [List.filterMap_cons_none he] at this
  | some b=>rw [List.filterMap_cons_some he,List.nodup_cons] at this;exact this.2⟩
theorem St.perm (h:St w0 X V L w) {L':List Ent} (hp:L.Perm L'):St w0 X V L' w :=
 ⟨h.os,h.output,h.size,h.old,h.view,fun g hg=>h.has g (hp.mem_iff.2 hg),fun g hg=>h.new g (hp.mem_iff.2 hg),fun g hg=>h.off g (hp.mem_iff.2 hg),(hp.filterMap Ent.foot).nodup_iff.1 h.nd⟩
theorem St.weaken (h:St w0 X V L w) {V':View} (hV:∀ k o,V' k=some o→V k=some o):St w0 X V' L w :=
 ⟨h.os,h.output,h.size,h.old,fun k o hk=>h.view k o (hV k o hk),h.has,h.new,(fun e he b hb=>by
  cases hv:V' b with
  | none=>rfl
  | some o=>have:=h.off e he b hb;rw [hV b o hv] at this;cases this),h.nd⟩
theorem St.call (h:St w0 X V L w) (k:Kp w w') {V':View} (hV:V'.In w') (hnew:∀ i,i < w.heap.size→V' i=V i):St w0 X V' L w':=by
 have h':=h.kp k
 exact ⟨h'.os,h'.output,h'.size,h'.old,hV,h'.has,h'.new,fun e he b hb=>by rw [hnew b ((h.has e he).lt hb)];exact h.off e he b hb,h'.nd⟩
structure KpBut (b:Nat) (w w':World):Prop where
 os:w'.os=w.os
 output:w'.output=w.output
 size:w.heap.size≤w'.heap.size
 old:∀ k,k < w.heap.size→k≠b→w'.heap[k]? = w.heap[k]?
theorem St.but {e:Ent} {b:Nat} (h:St w0 X V (e :: L) w) (he:e.foot=some b) (k:KpBut b w w'):St w0 X V L w':=by
 have hd:=h.drop
 have hb:=h.new e (List.mem_cons_self ..) b he
 have hbV:=h.off e (List.mem_cons_self ..) b he
 have hbL:∀ f∈L,∀ g,f.foot=some g→g≠b:=fun f hf g hg hgb=>by
  subst hgb
  have:=h.nd
  rw [List.filterMap_cons_some (f:=Ent.foot) he,List.nodup_cons] at this
  exact this.1 (foot_mem hf hg)
 refine ⟨k.os.trans h.os,k.output.trans h.output,Nat.le_trans h.size k.size,fun j hj hx=>?_,fun j o hj=>?_,fun f hf=>?_,hd.new,hd.off,hd.nd⟩
 ·have hjb:j≠b:=by
   rintro rfl
   rcases hb with hb | hb
   ·omega
   ·exact hx hb
  exact (k.old j (Nat.lt_of_lt_of_le hj h.size) hjb).trans (h.old j hj hx)
 ·have hjb:j≠b:=by rintro rfl;rw [hbV] at hj;cases hj
  have:=h.view j o hj
  rw [k.old j (lt_of_heap this) hjb];exact this
 ·exact (hd.has f hf).of_heap fun g hg=>k.old g ((hd.has f hf).lt hg) (hbL f hf g hg)
theorem St.sub {L':List Ent} (h:St w0 X V L w) (hs:L'.Sublist L):St w0 X V L' w :=
 ⟨h.os,h.output,h.size,h.old,h.view,fun g hg=>h.has g (hs.subset hg),fun g hg=>h.new g (hs.subset hg),fun g hg=>h.off g (hs.subset hg),(hs.filterMap Ent.foot).nodup h.nd⟩
end Go.Mm
namespace Go.Mm
open Go
variable {P:Program}
def oneB (P:Program) (ty:TypeId):Bool:=match P.underlying ty with | some (.struct _) | some (.array _ _)=>false | some _=>(P.info? ty).any (·.size == 1) | none=>false
def rowB (P:Program) (ty:TypeId) (n:Nat):Bool:=(match P.underlying ty with | some (.struct _) | some (.array _ _)=>true | _=>false) && (P.info? ty).any (·.size == n)
def zeroC (P:Program) (ty:TypeId):List Value:=match (P.info? ty).bind (·.zero) with | some v=>v.cells.toList | none=>[]
def zeroB (P:Program) (ty:TypeId):Bool:=((P.info? ty).bind (·.zero)).isSome
theorem run_isAgg_one {ty:TypeId} (h:oneB P ty=true) (w:World):(isAgg ty).run P w=.ok false w:=by
 unfold oneB at h
 cases hu:P.underlying ty with
 | none=>rw [hu] at h;cases h
 | some d =>
  unfold isAgg
  rw [Sem.run_bind,run_underlying hu w]
  rw [hu] at h
  cases d <;> simp_all
theorem rowB_parts {ty:TypeId} {n:Nat} (h:rowB P ty n=true):∃ d,P.underlying ty=some d∧d.isRow=true∧(P.info? ty).map (·.size)=some n:=by
 unfold rowB at h
 simp only [Bool.and_eq_true] at h
 obtain ⟨h1,h2⟩:=h
 cases hu:P.underlying ty with
 | none=>rw [hu] at h1;cases h1
 | some d =>
  rw [hu] at h1
  refine ⟨d,rfl,?_,?_⟩
  ·cases d <;> simp_all
  ·cases hq:P.info? ty with
   | none=>rw [hq] at h2;cases h2
   | some i=>rw [hq] at h2;simpa using h2
theorem cell_at {w:World} {b o:Nat} {cs:List Value} {t:TypeId} {fr:Nat × Nat} {v:Value} (hb:w.heap[b]? = some (.cells cs.toArray t fr)) (hv:cs[o]? = some v):w.cell? ⟨b,o,none⟩=some v:=by
 rw [cell_of_row w b o _ t fr hb];simpa using hv
theorem range_at {w:World} {b o n:Nat} {cs vs:List Value} {t:TypeId} {fr:Nat × Nat} (hb:w.heap[b]? = some (.cells cs.toArray t fr)) (hv:(cs.drop o).take n=vs):w.rangeAt b o vs:=fun j v hj=>by
 refine cell_at hb ?_
 subst hv
 rw [List.getElem?_take] at hj
 split at hj
 ·rwa [List.getElem?_drop] at hj
 ·cases hj
theorem take_all {cs:List Value} {n:Nat} (h:cs.length=n):(cs.drop 0).take n=cs:=by subst h;simp
theorem run_load1 {o:Oper} {ρ:Operand→Value} {w:World} {ty:TypeId} {x:Operand} (ho:o.op=.load ty x) {b i:Nat} (hx:ρ x=.pointer (some ⟨b,i,none⟩)) (hty:oneB P ty=true)
  {v:Value} (hc:w.cell? ⟨b,i,none⟩=some v):(execOp ρ o).run P w=.ok (.value v) w:=by
 unfold execOp
 simp only [ho,hx,Instr.loadAt,Instr.sureAddr,Sem.run_bind,Sem.run_pure,Result.andThen_ok,loadVar,run_isAgg_one hty]
 simp [hc]
theorem run_loadn {o:Oper} {ρ:Operand→Value} {w:World} {ty:TypeId} {x:Operand} (ho:o.op=.load ty x) {b i n:Nat} (hx:ρ x=.pointer (some ⟨b,i,none⟩)) (hty:rowB P ty n=true)
  {vs:List Value} (hn:vs.length=n) (hc:w.rangeAt b i vs):(execOp ρ o).run P w=.ok (.value (.agg vs.toArray)) w:=by
 obtain ⟨d,hu,hd,hi⟩:=rowB_parts hty
 unfold execOp
 simp only [ho,hx,Instr.loadAt,Instr.sureAddr,Sem.run_bind,Sem.run_pure,Result.andThen_ok,run_loadVar_mid w b i ty vs d hc hu hd (by rw [hi,hn])]
theorem setCell_other (w:World) (a:Addr) (v:Value) (k:Nat) (hk:k≠a.block):(w.setCell a v).heap[k]? = w.heap[k]?:=heap_setCell_other w a k v hk
theorem heap_setCells (b:Nat) (t:TypeId):∀ (vs:List Value) (o:Nat) (w:World) (cs:List Value),w.heap[b]? = some (.cells cs.toArray t (0,0))→o+vs.length≤cs.length →
  (w.setCells b o vs).heap[b]? = some (.cells (cs.take o ++ vs ++ cs.drop (o+vs.length)).toArray t (0,0))
 | [],o,w,cs,hb,_=>by simpa [World.setCells] using hb
 | v :: r,o,w,cs,hb,hl=>by
  have h1:(w.setCell ⟨b,o,none⟩ v).heap[b]? = some (.cells (cs.set o v).toArray t (0,0)):=by
   rw [heap_setCell_same w b o _ t v hb];simp
  have:=heap_setCells b t r (o+1) _ _ h1 (by simp at hl ⊢;omega)
  show ((w.setCell ⟨b,o,none⟩ v).setCells b (o+1) r).heap[b]? = _
  rw [this]
  congr 3
  simp only [List.length_cons] at hl ⊢
  rw [List.take_set,List.drop_set_of_lt (by omega)]
  apply List.ext_getElem?
  intro i
  simp only [List.append_assoc,List.cons_append,List.getElem?_append,List.length_set,List.length_take,List.getElem?_set,List.getElem?_take,List.getElem?_cons,List.getElem?_drop]
  have e1:min (o+1) cs.length=o+1:=by omega
  have e2:min o cs.length=o:=by omega
  rw [e1,e2]
  by_cases h1:i < o
  ·simp [h1,show i < o+1 by omega,show ¬ o=i by omega]
  ·by_cases h2:i=o
   ·subst h2;simp
   ·have h3:¬ i < o+1:=by omega
    simp only [h1,h3,if_false]
    have h4:i - o≠0:=by omega
    simp only [h4,if_false]
    rw [show i - o - 1=i - (o+1) by omega]
    simp only [show o+(r.length+1)=o+1+r.length by omega]
theorem setCells_same:∀ (vs:List Value) (b o:Nat) (w:World),(w.setCells b o vs).os=w.os∧(w.setCells b o vs).output=w.output∧(w.setCells b o vs).heap.size=w.heap.size∧∀ k,k≠b→(w.setCells b o vs).heap[k]? = w.heap[k]?
 | [],_,_,_=>⟨rfl,rfl,rfl,fun _ _=>rfl⟩
 | v :: r,b,o,w=>by
  have h:=setCells_same r b (o+1) (w.setCell ⟨b,o,none⟩ v)
  refine ⟨h.1,h.2.1,h.2.2.1.trans (by simp [World.setCell]),fun k hk=>(h.2.2.2 k hk).trans (setCell_other w _ v k hk)⟩
def splice (cs:List Value) (o:Nat) (vs:List Value):List Value:=cs.take o ++ vs ++ cs.drop (o+vs.length)
variable {w0:World} {X:List Nat} {V:View} {L:List Ent} {w:World}
theorem there_of {b o n:Nat} {cs:List Value} {t:TypeId} (hb:w.heap[b]? = some (.cells cs.toArray t (0,0))) (hl:o+n≤cs.length):w.there b o n:=fun j hj=>by
 constructor
 ·rw [cell_of_row w b (o+j) _ t (0,0) hb]
  simp only [List.getElem?_toArray]
  rw [List.getElem?_eq_getElem (by omega)];rfl
 ·exact frozen_of_row w b (o+j) _ t hb
theorem run_store1 (hS:St w0 X V L w) {o:Oper} {ρ:Operand→Value} {ty:TypeId} {x y:Operand} (ho:o.op=.store ty x y) {j b i:Nat} {t:TypeId} {cs:List Value} (hj:L[j]? = some (.blk b t cs))
  (hx:ρ x=.pointer (some ⟨b,i,none⟩)) {v:Value} (hy:ρ y=v) (hv:v.oneCell'=true) (hty:oneB P ty=true) (hl:i < cs.length) {L':List Ent} (hL:L.set j (.blk b t (cs.set i v))=L') :
  ∃ w',(execOp ρ o).run P w=.ok .skip w'∧St w0 X V L' w':=by
 have hb:=hS.at hj
 refine ⟨w.setCell ⟨b,i,none⟩ v,?_,?_⟩
 ·have hc:w.cell? ⟨b,i,none⟩=some (cs[i]'hl):=cell_at hb (List.getElem?_eq_getElem hl)
  have hf:=frozen_of_row w b i _ t hb
  have hsz:v.cells=#[v]:=by cases v <;> first | rfl | (cases hv)
  have hi:(sizeOf ty).run P w=.ok 1 w:=by
   unfold oneB at hty
   cases hq:P.info? ty with
   | none=>rw [hq] at hty;split at hty <;> simp_all
   | some q =>
    rw [hq] at hty
    have:q.size=1:=by split at hty <;> simp_all
    simp [sizeOf,typeInfo,hq,this]
  unfold execOp
  have hadd:(⟨b,i,none⟩:Addr).add 0=⟨b,i,none⟩:=by rw [Addr.add_mid];rfl
  simp only [ho,hx,hy,Instr.storeAt,Instr.sureAddr,Sem.run_bind,Sem.run_pure,Result.andThen_ok,storeVar,hi,hsz]
  simp [storeCells,hadd,run_store P w _ v _ hv,hc,hf]
 ·refine hS.set (w':=w.setCell ⟨b,i,none⟩ v) hj rfl (f:=.blk b t (cs.set i v)) rfl rfl rfl (by simp [World.setCell]) (fun k hk=>setCell_other w _ v k hk) ?_ hL
  show (w.setCell ⟨b,i,none⟩ v).heap[b]? = _
  rw [heap_setCell_same w b i _ t v hb];simp
theorem run_storen (hS:St w0 X V L w) {o:Oper} {ρ:Operand→Value} {ty:TypeId} {x y:Operand} (ho:o.op=.store ty x y) {j b i n:Nat} {t:TypeId} {cs vs:List Value} (hj:L[j]? = some (.blk b t cs))
  (hx:ρ x=.pointer (some ⟨b,i,none⟩)) (hy:ρ y=.agg vs.toArray) (hv:∀ v∈vs,v.oneCell'=true) (hty:rowB P ty n=true) (hn:vs.length=n) (hl:i+n≤cs.length)
  {L':List Ent} (hL:L.set j (.blk b t (splice cs i vs))=L') :
  ∃ w',(execOp ρ o).run P w=.ok .skip w'∧St w0 X V L' w':=by
 have hb:=hS.at hj
 obtain ⟨d,hu,hd,hi⟩:=rowB_parts hty
 subst hn
 obtain ⟨h1,h2,h3,h4⟩:=setCells_same vs b i w
 refine ⟨w.setCells b i vs,?_,?_⟩
 ·unfold execOp
  simp only [ho,hx,hy,Instr.storeAt,Instr.sureAddr,Sem.run_bind,Sem.run_pure,Result.andThen_ok,run_storeVar_mid w b i ty vs.toArray (there_of hb hl) (by simpa using hi) (all_oneCell_toArray hv)]
 ·exact hS.set hj rfl (f:=.blk b t (splice cs i vs)) rfl h1 h2 h3 h4 (heap_setCells b t vs i w cs hb hl) hL
theorem run_box (hS:St w0 X V L w) {o:Oper} {ρ:Operand→Value} {ty:TypeId} {x:Operand} (ho:o.op=.box ty x) {v:Value} (hx:ρ x=v) {cs:List Value} (hc:v.cells=cs.toArray) :
  (execOp ρ o).run P w=.ok (.value (.pointer (some ⟨w.heap.size,0,none⟩))) (w.alloc (.cells cs.toArray ty))∧St w0 X V (.blk w.heap.size ty cs :: L) (w.alloc (.cells cs.toArray ty)):=by
 refine ⟨?_,hS.alloc ty cs⟩
 unfold execOp
 simp only [ho,hx,Instr.box,newVar,newRow,hc]
 rfl
theorem run_alloc (hS:St w0 X V L w) {o:Oper} {ρ:Operand→Value} {ty:TypeId} (ho:o.op=.alloc ty) (hz:zeroB P ty=true) {cs:List Value} (hc:zeroC P ty=cs) :
  (execOp ρ o).run P w=.ok (.value (.pointer (some ⟨w.heap.size,0,none⟩))) (w.alloc (.cells cs.toArray ty))∧St w0 X V (.blk w.heap.size ty cs :: L) (w.alloc (.cells cs.toArray ty)):=by
 refine ⟨?_,hS.alloc ty cs⟩
 unfold execOp
 unfold zeroB at hz
 unfold zeroC at hc
 cases hq:P.info? ty with
 | none=>rw [hq] at hz;cases hz
 | some q =>
  rw [hq] at hz hc
  cases hzz:q.zero with
  | none=>simp [hzz] at hz
  | some z =>
   simp [hzz] at hc
   subst hc
   simp [ho,Instr.alloc,zeroValue,typeInfo,hq,hzz,newVar,newRow]
section
variable {ops:Array Oper} {rest:List Oper} {o:Oper} {a:Act} {Q:Exit→Act→World→Prop}
theorem wpList_wanted (hw:Region.wanted o (yielded ops a.tmps)=true) (h:∀ K:Act→World→Prop,(∀ a w,wpList P ops Q rest a w→K a w)→o.wp P a w K Q):wpList P ops Q (o :: rest) a w:=by
 unfold wpList
 rw [hw]
 exact .inl (h _ fun _ _ h=>h)
theorem wpl_value {v:Value} {w':World} (hgd:Region.wanted o (yielded ops a.tmps)=true) (hr:(execOp a.eval o).run P w=.ok (.value v) w') (h:wpList P ops Q rest (a.put o.dst v) w'):wpList P ops Q (o :: rest) a w :=
 wpList_wanted hgd fun _ hK=>by unfold Oper.wp;rw [hr];exact hK _ _ h
theorem wpl_skip {w':World} (hgd:Region.wanted o (yielded ops a.tmps)=true) (hr:(execOp a.eval o).run P w=.ok .skip w') (h:wpList P ops Q rest (a.put o.dst undef) w'):wpList P ops Q (o :: rest) a w :=
 wpList_wanted hgd fun _ hK=>by unfold Oper.wp;rw [hr];exact hK _ _ h
theorem wpl_store1 (hS:St w0 X V L w) (hgd:Region.wanted o (yielded ops a.tmps)=true) {ty:TypeId} {x y:Operand} (ho:o.op=.store ty x y) (j:Nat) {b i:Nat} {t:TypeId} {cs:List Value}
  {v:Value} (hx:a.eval x=.pointer (some ⟨b,i,none⟩)) (hj:L[j]? = some (.blk b t cs)) (hy:a.eval y=v) (hv:v.oneCell'=true) (hty:oneB P ty=true) (hl:i < cs.length) {L':List Ent} (hL:L.set j (.blk b t (cs.set i v))=L')
  (h:∀ w',St w0 X V L' w'→wpList P ops Q rest (a.put o.dst undef) w'):wpList P ops Q (o :: rest) a w:=by
 obtain ⟨w',hr,hS'⟩:=run_store1 hS ho hj hx hy hv hty hl hL
 exact wpl_skip hgd hr (h w' hS')
theorem wpl_storen (hS:St w0 X V L w) (hgd:Region.wanted o (yielded ops a.tmps)=true) {ty:TypeId} {x y:Operand} (ho:o.op=.store ty x y) (j:Nat) {b i n:Nat} {t:TypeId} {cs vs:List Value}
  (hx:a.eval x=.pointer (some ⟨b,i,none⟩)) (hj:L[j]? = some (.blk b t cs)) (hy:a.eval y=.agg vs.toArray) (hv:∀ v∈vs,v.oneCell'=true) (hty:rowB P ty n=true) (hn:vs.length=n) (hl:i+n≤cs.length)
  {L':List Ent} (hL:L.set j (.blk b t (splice cs i vs))=L') (h:∀ w',St w0 X V L' w'→wpList P ops Q rest (a.put o.dst undef) w'):wpList P ops Q (o :: rest) a w:=by
 obtain ⟨w',hr,hS'⟩:=run_storen hS ho hj hx hy hv hty hn hl hL
 exact wpl_skip hgd hr (h w' hS')
theorem splice_full {cs vs:List Value} (h:cs.length=vs.length):splice cs 0 vs=vs:=by
 unfold splice
 simp [← h]
theorem splice_len {cs vs:List Value} {i:Nat} (h:i+vs.length≤cs.length):(splice cs i vs).length=cs.length:=by
 unfold splice
 simp;omega
theorem wpl_storeall (hS:St w0 X V L w) (hgd:Region.wanted o (yielded ops a.tmps)=true) {ty:TypeId} {x y:Operand} (ho:o.op=.store ty x y) (j:Nat) {b n:Nat} {t:TypeId} {cs vs:List Value}
  (hx:a.eval x=.pointer (some ⟨b,0,none⟩)) (hj:L[j]? = some (.blk b t cs)) (hy:a.eval y=.agg vs.toArray) (hv:∀ v∈vs,v.oneCell'=true) (hty:rowB P ty n=true) (hn:vs.length=n) (hl:cs.length=n)
  {L':List Ent} (hL:L.set j (.blk b t vs)=L') (h:∀ w',St w0 X V L' w'→wpList P ops Q rest (a.put o.dst undef) w'):wpList P ops Q (o :: rest) a w :=
 wpl_storen hS hgd ho j hx hj hy hv hty hn (by omega) (by rw [splice_full (by omega)];exact hL) h
theorem wpl_box (hS:St w0 X V L w) (hgd:Region.wanted o (yielded ops a.tmps)=true) {ty:TypeId} {x:Operand} (ho:o.op=.box ty x) {v:Value} (hx:a.eval x=v) {cs:List Value} (hc:v.cells=cs.toArray)
  (h:∀ b w',St w0 X V (.blk b ty cs :: L) w'→wpList P ops Q rest (a.put o.dst (.pointer (some ⟨b,0,none⟩))) w'):wpList P ops Q (o :: rest) a w:=by
 obtain ⟨hr,hS'⟩:=run_box (P:=P) hS ho hx hc
 exact wpl_value hgd hr (h _ _ hS')
theorem wpl_alloc (hS:St w0 X V L w) (hgd:Region.wanted o (yielded ops a.tmps)=true) {ty:TypeId} (ho:o.op=.alloc ty) (hz:zeroB P ty=true) {cs:List Value} (hc:zeroC P ty=cs)
  (h:∀ b w',St w0 X V (.blk b ty cs :: L) w'→wpList P ops Q rest (a.put o.dst (.pointer (some ⟨b,0,none⟩))) w'):wpList P ops Q (o :: rest) a w:=by
 obtain ⟨hr,hS'⟩:=run_alloc (P:=P) (ρ:=a.eval) hS ho hz hc
 exact wpl_value hgd hr (h _ _ hS')
theorem wpl_load1 (hS:St w0 X V L w) (hgd:Region.wanted o (yielded ops a.tmps)=true) {ty:TypeId} {x:Operand} (ho:o.op=.load ty x) (j:Nat) {b i:Nat} {t:TypeId} {cs:List Value}
  {v:Value} (hx:a.eval x=.pointer (some ⟨b,i,none⟩)) (hj:L[j]? = some (.blk b t cs)) (hty:oneB P ty=true) (hv:cs[i]? = some v)
  (h:wpList P ops Q rest (a.put o.dst v) w):wpList P ops Q (o :: rest) a w :=
 wpl_value hgd (run_load1 ho hx hty (cell_at (hS.at hj) hv)) h
theorem wpl_loadn (hS:St w0 X V L w) (hgd:Region.wanted o (yielded ops a.tmps)=true) {ty:TypeId} {x:Operand} (ho:o.op=.load ty x) (j:Nat) {b i n:Nat} {t:TypeId} {cs vs:List Value}
  (hx:a.eval x=.pointer (some ⟨b,i,none⟩)) (hj:L[j]? = some (.blk b t cs)) (hty:rowB P ty n=true) (hv:(cs.drop i).take n=vs) (hn:vs.length=n)
  (h:wpList P ops Q rest (a.put o.dst (.agg vs.toArray)) w):wpList P ops Q (o :: rest) a w :=
 wpl_value hgd (run_loadn ho hx hty hn (range_at (hS.at hj) hv)) h
theorem wpl_vload1 (hS:St w0 X V L w) (hgd:Region.wanted o (yielded ops a.tmps)=true) {ty:TypeId} {x:Operand} (ho:o.op=.load ty x) {b i:Nat}
  {v:Value} (hx:a.eval x=.pointer (some ⟨b,i,none⟩)) (hty:oneB P ty=true) (hv:V.Cell b i v)
  (h:wpList P ops Q rest (a.put o.dst v) w):wpList P ops Q (o :: rest) a w :=
 wpl_value hgd (run_load1 ho hx hty (hv.cell hS.view)) h
theorem wpl_vloadn (hS:St w0 X V L w) (hgd:Region.wanted o (yielded ops a.tmps)=true) {ty:TypeId} {x:Operand} (ho:o.op=.load ty x) {b i n:Nat} {vs:List Value}
  (hx:a.eval x=.pointer (some ⟨b,i,none⟩)) (hty:rowB P ty n=true) (hv:V.Range b i vs) (hn:vs.length=n)
  (h:wpList P ops Q rest (a.put o.dst (.agg vs.toArray)) w):wpList P ops Q (o :: rest) a w :=
 wpl_value hgd (run_loadn ho hx hty hn (hv.range hS.view)) h
end
section
variable {ops:Array Oper} {o:Oper} {a:Act} {K:Act→World→Prop} {Q:Exit→Act→World→Prop} {i₀:Nat}
theorem wpo_value {v:Value} {w':World} (hi:ops[i₀]? = some o) (hgd:Region.wanted o (yielded ops a.tmps)=true) (hr:(execOp a.eval o).run P w=.ok (.value v) w') (h:K (a.put o.dst v) w'):wpOp P ops Q i₀ K a w:=by
 unfold wpOp
 simp only [hi]
 rw [hgd]
 exact .inl (by unfold Oper.wp;rw [hr];exact h)
theorem wpo_skip {w':World} (hi:ops[i₀]? = some o) (hgd:Region.wanted o (yielded ops a.tmps)=true) (hr:(execOp a.eval o).run P w=.ok .skip w') (h:K (a.put o.dst undef) w'):wpOp P ops Q i₀ K a w:=by
 unfold wpOp
 simp only [hi]
 rw [hgd]
 exact .inl (by unfold Oper.wp;rw [hr];exact h)
theorem wpo_enter {v:Value} {f:FuncId} {args:Array Value} {R:World→Prop} (hi:ops[i₀]? = some o) (hgd:Region.wanted o (yielded ops a.tmps)=true) (hr:(execOp a.eval o).run P w=.ok (.enter f args) w)
  (hc:Calls P f args w fun e w'=>e=.returned v∧R w') (h:∀ w',R w'→K (a.put o.dst v) w'):wpOp P ops Q i₀ K a w:=by
 unfold wpOp
 simp only [hi]
 rw [hgd]
 refine .inl ?_
 unfold Oper.wp
 rw [hr]
 exact hc.mono fun e w' ⟨he,hR⟩=>by subst he;exact h w' hR
theorem wpo_store1 (hS:St w0 X V L w) (hi:ops[i₀]? = some o) (hgd:Region.wanted o (yielded ops a.tmps)=true) {ty:TypeId} {x y:Operand} (ho:o.op=.store ty x y) (j:Nat) {b i:Nat} {t:TypeId} {cs:List Value}
  {v:Value} (hx:a.eval x=.pointer (some ⟨b,i,none⟩)) (hj:L[j]? = some (.blk b t cs)) (hy:a.eval y=v) (hv:v.oneCell'=true) (hty:oneB P ty=true) (hl:i < cs.length) {L':List Ent} (hL:L.set j (.blk b t (cs.set i v))=L')
  (h:∀ w',St w0 X V L' w'→K (a.put o.dst undef) w'):wpOp P ops Q i₀ K a w:=by
 obtain ⟨w',hr,hS'⟩:=run_store1 hS ho hj hx hy hv hty hl hL
 exact wpo_skip hi hgd hr (h w' hS')
theorem wpo_storen (hS:St w0 X V L w) (hi:ops[i₀]? = some o) (hgd:Region.wanted o (yielded ops a.tmps)=true) {ty:TypeId} {x y:Operand} (ho:o.op=.store ty x y) (j:Nat) {b i n:Nat} {t:TypeId} {cs vs:List Value}
  (hx:a.eval x=.pointer (some ⟨b,i,none⟩)) (hj:L[j]? = some (.blk b t cs)) (hy:a.eval y=.agg vs.toArray) (hv:∀ v∈vs,v.oneCell'=true) (hty:rowB P ty n=true) (hn:vs.length=n) (hl:i+n≤cs.length)
  {L':List Ent} (hL:L.set j (.blk b t (splice cs i vs))=L') (h:∀ w',St w0 X V L' w'→K (a.put o.dst undef) w'):wpOp P ops Q i₀ K a w:=by
 obtain ⟨w',hr,hS'⟩:=run_storen hS ho hj hx hy hv hty hn hl hL
 exact wpo_skip hi hgd hr (h w' hS')
theorem wpo_storeall (hS:St w0 X V L w) (hi:ops[i₀]? = some o) (hgd:Region.wanted o (yielded ops a.tmps)=true) {ty:TypeId} {x y:Operand} (ho:o.op=.store ty x y) (j:Nat) {b n:Nat} {t:TypeId} {cs vs:List Value}
  (hx:a.eval x=.pointer (some ⟨b,0,none⟩)) (hj:L[j]? = some (.blk b t cs)) (hy:a.eval y=.agg vs.toArray) (hv:∀ v∈vs,v.oneCell'=true) (hty:rowB P ty n=true) (hn:vs.length=n) (hl:cs.length=n)
  {L':List Ent} (hL:L.set j (.blk b t vs)=L') (h:∀ w',St w0 X V L' w'→K (a.put o.dst undef) w'):wpOp P ops Q i₀ K a w :=
 wpo_storen hS hi hgd ho j hx hj hy hv hty hn (by omega) (by rw [splice_full (by omega)];exact hL) h
theorem yif_load1 {ty:TypeId} {x:Operand} (ho:o.op=.load ty x) (j:Nat) {b i:Nat} {t:TypeId} {cs:List Value} {v:Value} (hgd:Region.wanted o (yielded ops a.tmps)=true) (hx:a.eval x=.pointer (some ⟨b,i,none⟩)) (hj:L[j]? = some (.blk b t cs))
  (hty:oneB P ty=true) (hv:cs[i]? = some v):YieldsIf P ops (St w0 X V L) o v a :=
 .inl ⟨hgd,fun _ hS=>run_load1 ho hx hty (cell_at (hS.at hj) hv)⟩
theorem yif_loadn {ty:TypeId} {x:Operand} (ho:o.op=.load ty x) (j:Nat) {b i n:Nat} {t:TypeId} {cs vs:List Value} (hgd:Region.wanted o (yielded ops a.tmps)=true) (hx:a.eval x=.pointer (some ⟨b,i,none⟩)) (hj:L[j]? = some (.blk b t cs))
  (hty:rowB P ty n=true) (hv:(cs.drop i).take n=vs) (hn:vs.length=n):YieldsIf P ops (St w0 X V L) o (.agg vs.toArray) a :=
 .inl ⟨hgd,fun _ hS=>run_loadn ho hx hty hn (range_at (hS.at hj) hv)⟩
theorem yif_vload1 {ty:TypeId} {x:Operand} (ho:o.op=.load ty x) {b i:Nat} {v:Value} (hgd:Region.wanted o (yielded ops a.tmps)=true) (hx:a.eval x=.pointer (some ⟨b,i,none⟩))
  (hty:oneB P ty=true) (hv:V.Cell b i v):YieldsIf P ops (St w0 X V L) o v a :=
 .inl ⟨hgd,fun _ hS=>run_load1 ho hx hty (hv.cell hS.view)⟩
theorem yif_vloadn {ty:TypeId} {x:Operand} (ho:o.op=.load ty x) {b i n:Nat} {vs:List Value} (hgd:Region.wanted o (yielded ops a.tmps)=true) (hx:a.eval x=.pointer (some ⟨b,i,none⟩))
  (hty:rowB P ty n=true) (hv:V.Range b i vs) (hn:vs.length=n):YieldsIf P ops (St w0 X V L) o (.agg vs.toArray) a :=
 .inl ⟨hgd,fun _ hS=>run_loadn ho hx hty hn (hv.range hS.view)⟩
end
section
variable {o:Oper} {a:Act} {K:Act→Prop}
theorem quiet_value {C:World→Prop} {v:Value} (hr:∀ w,C w→(execOp a.eval o).run P w=.ok (.value v) w) (h:K (a.put o.dst v)):o.quiet P a C K :=
 ⟨v,fun w hw=>by unfold Oper.quietAt;rw [hr w hw];exact ⟨rfl,rfl⟩,h⟩
theorem quiet_enter {C:World→Prop} {v:Value} {f:FuncId} {args:Array Value} (hr:∀ w,C w→(execOp a.eval o).run P w=.ok (.enter f args) w)
  (hc:∀ w,C w→Calls P f args w fun e w'=>e=.returned v∧C w') (h:K (a.put o.dst v)):o.quiet P a C K :=
 ⟨v,fun w hw=>by unfold Oper.quietAt;rw [hr w hw];exact ⟨rfl,hc w hw⟩,h⟩
theorem quiet_load1 {ty:TypeId} {x:Operand} (ho:o.op=.load ty x) (j:Nat) {b i:Nat} {t:TypeId} {cs:List Value} {v:Value} (hx:a.eval x=.pointer (some ⟨b,i,none⟩)) (hj:L[j]? = some (.blk b t cs))
  (hty:oneB P ty=true) (hv:cs[i]? = some v) (h:K (a.put o.dst v)):o.quiet P a (St w0 X V L) K :=
 quiet_value (fun _ hS=>run_load1 ho hx hty (cell_at (hS.at hj) hv)) h
theorem quiet_loadn {ty:TypeId} {x:Operand} (ho:o.op=.load ty x) (j:Nat) {b i n:Nat} {t:TypeId} {cs vs:List Value} (hx:a.eval x=.pointer (some ⟨b,i,none⟩)) (hj:L[j]? = some (.blk b t cs))
  (hty:rowB P ty n=true) (hv:(cs.drop i).take n=vs) (hn:vs.length=n) (h:K (a.put o.dst (.agg vs.toArray))):o.quiet P a (St w0 X V L) K :=
 quiet_value (fun _ hS=>run_loadn ho hx hty hn (range_at (hS.at hj) hv)) h
theorem St.drew1 (h:St w0 X V L w):St w0 X V L { w with drawn:=w.drawn+1 }:=h.drew 1
end
end Go.Mm
namespace Go.Mm
open Go
theorem mkHid {p:Prop} (h:p):Go.RowKit.Hid p:=h
theorem calls_kp {P:Program} {w0:World} {X:List Nat} {V:View} {L:List Ent} {f:FuncId} {args:Array Value} {w:World} {v:Value} (hS:St w0 X V L w)
  (h:Calls P f args w fun e w'=>e=.returned v∧Kp w w'):Calls P f args w fun e w'=>e=.returned v∧St w0 X V L w' :=
 h.mono fun _ _ ⟨he,hk⟩=>⟨he,hS.kp hk⟩
theorem calls_go {P:Program} {w0:World} {X:List Nat} {V:View} {L:List Ent} {f:FuncId} {args:Array Value} {w:World} {v:Value} {R:Ending→World→Prop} (hS:St w0 X V L w)
  (hc:Calls P f args w fun e w'=>e=.returned v∧Kp w w') (h:∀ w',St w0 X V L w'→R (.returned v) w'):Calls P f args w R :=
 hc.mono fun _ _ ⟨he,hk⟩=>by subst he;exact h _ (hS.kp hk)
end Go.Mm
namespace Go.Mm
open Go
variable {P:Program} {w0:World} {X:List Nat} {V:View} {L:List Ent} {w:World}
def resSem (tmps:Array Value):ResultVar→Sem Value
 | .tmp t=>pure (tmps.getD t undef)
 | .cell a t=>do loadVar t (← asAddr (tmps.getD a undef))
theorem results_eq (fn:Func) (tmps:Array Value):results fn tmps=(do
  let vs ← fn.results.mapM (resSem tmps)
  pure (if h:vs.size=1 then vs[0] else .tuple vs)):=by
 unfold results
 have:(fun x:ResultVar=>(match x with | .tmp t=>pure (tmps.getD t undef) | .cell a t=>do loadVar t (← asAddr (tmps.getD a undef)):Sem Value))=resSem tmps:=by
  funext x;cases x <;> rfl
 rw [← this]
 rfl
theorem results1 {fn:Func} {tmps:Array Value} {r1:ResultVar} (h:fn.results=#[r1]) {v1:Value} (h1:(resSem tmps r1).run P w=.ok v1 w):(results fn tmps).run P w=.ok v1 w:=by
 rw [results_eq,h]
 simp [h1]
theorem results2 {fn:Func} {tmps:Array Value} {r1 r2:ResultVar} (h:fn.results=#[r1,r2]) {v1 v2:Value} (h1:(resSem tmps r1).run P w=.ok v1 w) (h2:(resSem tmps r2).run P w=.ok v2 w) :
  (results fn tmps).run P w=.ok (.tuple #[v1,v2]) w:=by
 rw [results_eq,h]
 simp [h1,h2]
theorem results3 {fn:Func} {tmps:Array Value} {r1 r2 r3:ResultVar} (h:fn.results=#[r1,r2,r3]) {v1 v2 v3:Value} (h1:(resSem tmps r1).run P w=.ok v1 w) (h2:(resSem tmps r2).run P w=.ok v2 w) (h3:(resSem tmps r3).run P w=.ok v3 w) :
  (results fn tmps).run P w=.ok (.tuple #[v1,v2,v3]) w:=by
 rw [results_eq,h]
 simp [h1,h2,h3]
theorem results0 {fn:Func} {tmps:Array Value} (h:fn.results=#[]):(results fn tmps).run P w=.ok (.tuple #[]) w:=by
 rw [results_eq,h]
 simp
theorem res_tmp {tmps:Array Value} {t:Tmp} {v:Value} (h:tmps.getD t undef=v):(resSem tmps (.tmp t)).run P w=.ok v w:=by subst h;rfl
theorem res_cell1 (hS:St w0 X V L w) {tmps:Array Value} {t:Tmp} {ty:TypeId} (j:Nat) {b i:Nat} {t':TypeId} {cs:List Value} {v:Value} (hx:tmps.getD t undef=.pointer (some ⟨b,i,none⟩)) (hj:L[j]? = some (.blk b t' cs))
  (hty:oneB P ty=true) (hv:cs[i]? = some v):(resSem tmps (.cell t ty)).run P w=.ok v w:=by
 have hc:=cell_at (hS.at hj) hv
 have hx':tmps[t]?.getD undef=.pointer (some ⟨b,i,none⟩):=by simpa using hx
 simp [resSem,hx',asAddr,loadVar,Sem.run_bind,run_isAgg_one hty,hc]
theorem res_celln (hS:St w0 X V L w) {tmps:Array Value} {t:Tmp} {ty:TypeId} (j:Nat) {b i n:Nat} {t':TypeId} {cs vs:List Value} (hx:tmps.getD t undef=.pointer (some ⟨b,i,none⟩)) (hj:L[j]? = some (.blk b t' cs))
  (hty:rowB P ty n=true) (hv:(cs.drop i).take n=vs) (hn:vs.length=n):(resSem tmps (.cell t ty)).run P w=.ok (.agg vs.toArray) w:=by
 obtain ⟨d,hu,hd,hi⟩:=rowB_parts hty
 have hx':tmps[t]?.getD undef=.pointer (some ⟨b,i,none⟩):=by simpa using hx
 simp [resSem,hx',asAddr,Sem.run_bind,run_loadVar_mid w b i ty vs d (range_at (hS.at hj) hv) hu hd (by rw [hi,hn])]
theorem bodyPost_norm {fn:Func} {R:Ending→World→Prop} {a:Act} (h:bodyPost P fn R .ret a w):bodyPost P fn R .normal a w:=h
end Go.Mm
namespace Go.Mm
open Go
variable {P:Program} {w0:World} {X:List Nat} {V:View} {L:List Ent} {w:World}
def sl1B (P:Program) (t e:TypeId):Bool:=(match P.underlying t with | some (.slice e')=>e' == e | _=>false) && oneB P e && ((P.info? e).bind (·.zero)).isSome
def tagged (n:Nat):List Value→List (Nat × Value)
 | []=>[]
 | v :: vs=>(n,v) :: tagged (n+1) vs
theorem fill_tagged:∀ (vs pre:List Value) (cells:List Value),cells.length=pre.length+vs.length→cells.take pre.length=pre→(∀ v∈vs,v.oneCell'=true) →
  Instr.fill (fun i=>some (i * 1,1)) cells.toArray (tagged pre.length vs)=some (pre ++ vs).toArray
 | [],pre,cells,h1,h2,_=>by
  simp only [tagged,Instr.fill,List.append_nil]
  rw [← h2,List.take_of_length_le (by simp at h1;omega)]
 | v :: vs,pre,cells,h1,h2,h3=>by
  have hv:v.cells=#[v]:=by
   have:=h3 v (by simp)
   cases v <;> first | rfl | (cases this)
  simp only [List.length_cons] at h1
  simp only [tagged,Instr.fill,hv]
  have hc:(pre.length * 1 + #[v].size > cells.toArray.size)=False:=by simp;omega
  simp only [List.size_toArray,List.length_cons,List.length_nil,Nat.zero_add,ne_eq,not_true_eq_false,decide_false,Bool.false_or,decide_eq_true_eq,Nat.mul_one]
  rw [if_neg (by simp;omega)]
  have:=fill_tagged vs (pre ++ [v]) (cells.set pre.length v) (by simp;omega) (by
   rw [List.length_append,List.length_cons,List.length_nil,List.take_set,List.take_succ_eq_append_getElem (by omega),h2]
   simp) (fun x hx=>h3 x (by simp [hx]))
  simp only [List.length_append,List.length_cons,List.length_nil,Nat.zero_add,List.append_assoc,List.cons_append,List.nil_append,Nat.mul_one] at this
  rw [← this]
  congr 1
  simp
theorem run_bslice {o:Oper} {ρ:Operand→Value} {t e:TypeId} {len:Nat} {parts:Array (Nat × Operand)} (ho:o.op=.buildSlice t len parts) {vs:List Value}
  (hp:(parts.toList.map fun p=>(p.1,ρ p.2))=tagged 0 vs) (hn:vs.length=len) (hl:len≤100) (h1:∀ v∈vs,v.oneCell'=true) (ht:sl1B P t e=true) (w:World) :
  (execOp ρ o).run P w=.ok (.value (.slice (some ⟨w.heap.size,0,none⟩) len len)) (w.alloc (.cells vs.toArray e)):=by
 unfold sl1B at ht
 simp only [Bool.and_eq_true] at ht
 obtain ⟨⟨ht1,ht2⟩,ht3⟩:=ht
 have hu:P.underlying t=some (.slice e):=by
  cases hd:P.underlying t with
  | none=>rw [hd] at ht1;cases ht1
  | some d=>rw [hd] at ht1;cases d <;> simp_all
 unfold oneB at ht2
 cases hq:P.info? e with
 | none=>rw [hq] at ht3;cases ht3
 | some q =>
  rw [hq] at ht3 ht2
  have hs:q.size=1:=by
   cases hu2:P.underlying e with
   | none=>rw [hu2] at ht2;cases ht2
   | some d=>rw [hu2] at ht2;cases d <;> simp_all
  cases hz:q.zero with
  | none=>simp [hz] at ht3
  | some z =>
   have hf:Instr.fill (fun i=>some (i * 1,1)) (((List.range len).map fun j=>(z.cells[j % z.cells.size]!)).toArray) (tagged 0 vs)=some vs.toArray:=by
    have:=fill_tagged vs [] ((List.range len).map fun j=>(z.cells[j % z.cells.size]!)) (by simp [hn]) (by simp) h1
    simpa using this
   have hf':Instr.fill (fun i=>some (i,1)) (Array.map (fun x=>z.cells[x % z.cells.size]!) (Array.range len)) (tagged 0 vs)=some vs.toArray:=by
    have e1:(Array.map (fun x=>z.cells[x % z.cells.size]!) (Array.range len))=((List.range len).map fun j=>(z.cells[j % z.cells.size]!)).toArray:=by
     apply Array.ext'
     simp [Array.toList_range]
    rw [e1,← hf]
    simp
   have hp':List.map (fun x=>(x.fst,ρ x.snd)) parts.toList=tagged 0 vs:=hp
   unfold execOp
   have hlim:¬ (16777216:Nat) < len:=by omega
   by_cases hl0:len=0
   ·subst hl0
    have:vs=[]:=List.length_eq_zero_iff.1 hn
    subst this
    simp [ho,Instr.buildSlice,underlying,hu,sizeOf,typeInfo,hq,hs,hp',tagged,Instr.fill,newRow]
    have e0:(Array.map (fun _:Nat=>(default:Value)) (Array.range 0))=#[]:=by apply Array.ext';simp
    rw [e0]
   ·simp [ho,Instr.buildSlice,underlying,hu,sizeOf,typeInfo,hq,hs,zeroValue,hz,hlim,hl0,hp',hf',newRow]
section
variable {ops:Array Oper} {rest:List Oper} {o:Oper} {a:Act} {Q:Exit→Act→World→Prop}
theorem wpl_bslice (hS:St w0 X V L w) (hgd:Region.wanted o (yielded ops a.tmps)=true) {t e:TypeId} {len:Nat} {parts:Array (Nat × Operand)} (ho:o.op=.buildSlice t len parts) {vs:List Value}
  (hp:(parts.toList.map fun p=>(p.1,a.eval p.2))=tagged 0 vs) (hn:vs.length=len) (hl:len≤100) (h1:∀ v∈vs,v.oneCell'=true) (ht:sl1B P t e=true)
  (h:∀ b w',St w0 X V (.blk b e vs :: L) w'→wpList P ops Q rest (a.put o.dst (.slice (some ⟨b,0,none⟩) len len)) w'):wpList P ops Q (o :: rest) a w :=
 wpl_value hgd (run_bslice ho hp hn hl h1 ht w) (h _ _ (hS.alloc e vs))
theorem wpo_bslice {K:Act→World→Prop} {i₀:Nat} (hS:St w0 X V L w) (hi:ops[i₀]? = some o) (hgd:Region.wanted o (yielded ops a.tmps)=true) {t e:TypeId} {len:Nat} {parts:Array (Nat × Operand)} (ho:o.op=.buildSlice t len parts) {vs:List Value}
  (hp:(parts.toList.map fun p=>(p.1,a.eval p.2))=tagged 0 vs) (hn:vs.length=len) (hl:len≤100) (h1:∀ v∈vs,v.oneCell'=true) (ht:sl1B P t e=true)
  (h:∀ b w',St w0 X V (.blk b e vs :: L) w'→K (a.put o.dst (.slice (some ⟨b,0,none⟩) len len)) w'):wpOp P ops Q i₀ K a w :=
 wpo_value hi hgd (run_bslice ho hp hn hl h1 ht w) (h _ _ (hS.alloc e vs))
end
end Go.Mm
namespace Go.Mm
open Go
variable {P:Program} {w0:World} {X:List Nat} {V:View} {L:List Ent} {w:World}
theorem set_foot_nodup {L:List Ent} {j:Nat} {e f:Ent} (hj:L[j]? = some e) (hnd:(L.filterMap Ent.foot).Nodup) {b:Nat} (hf:f.foot=some b) (hb:∀ g∈L,g.foot≠some b):((L.set j f).filterMap Ent.foot).Nodup:=by
 induction L generalizing j with
 | nil=>simp at hj
 | cons a L ih =>
  have hbL:b ∉ L.filterMap Ent.foot:=fun hm=>by
   obtain ⟨g,hg,hgb⟩:=List.mem_filterMap.1 hm
   exact hb g (List.mem_cons_of_mem _ hg) hgb
  cases j with
  | zero =>
   simp only [List.set_cons_zero]
   rw [List.filterMap_cons_some hf,List.nodup_cons]
   refine ⟨hbL,?_⟩
   cases ha:a.foot with
   | none=>rwa [List.filterMap_cons_none ha] at hnd
   | some c=>rw [List.filterMap_cons_some ha,List.nodup_cons] at hnd;exact hnd.2
  | succ j =>
   simp only [List.set_cons_succ]
   cases ha:a.foot with
   | none =>
    rw [List.filterMap_cons_none ha] at hnd ⊢
    exact ih (by simpa using hj) hnd fun g hg=>hb g (List.mem_cons_of_mem _ hg)
   | some c =>
    rw [List.filterMap_cons_some ha,List.nodup_cons] at hnd ⊢
    refine ⟨fun hm=>?_,ih (by simpa using hj) hnd.2 fun g hg=>hb g (List.mem_cons_of_mem _ hg)⟩
    obtain ⟨g,hg,hgc⟩:=List.mem_filterMap.1 hm
    rcases List.mem_or_eq_of_mem_set hg with hg | rfl
    ·exact hnd.1 (foot_mem hg hgc)
    ·rw [hf] at hgc
     cases hgc
     exact hb a (List.mem_cons_self ..) ha
theorem St.grow (h:St w0 X V L w) {j:Nat} {v v':Value} {t:TypeId} {s n n':Nat} {xs xs':List Value} (hj:L[j]? = some (.row v t s n xs)) {w':World}
  (hg:w.grownBy w' v.ownBlock) (ho:w'.ownsRow 0 t s v' n' xs') (hpd:PadAt w' v' (n' * s)) (hf:v'.ownBlock=v.ownBlock∨v'.ownBlock=some w.heap.size):St w0 X V (L.set j (.row v' t s n' xs')) w':=by
 have hem:=List.mem_of_getElem? hj
 have hlt:∀ e∈L,∀ b,e.foot=some b→b < w.heap.size:=fun e he b hb=>(h.has e he).lt hb
 have hoth:∀ i f,L[i]? = some f→j≠i→∀ k,f.foot=some k→w'.heap[k]? = w.heap[k]?:=fun i f hi hji k hk=>by
  refine hg.block k (hlt f (List.mem_of_getElem? hi) k hk) ?_
  intro hkv
  exact foot_ne h.nd hj hi hji (b:=k) hkv.symm hk
 have hkeep:∀ k,k < w.heap.size→(∀ b,v.ownBlock=some b→k≠b)→w'.heap[k]? = w.heap[k]?:=fun k hk hne=>hg.block k hk fun hkv=>hne k hkv.symm rfl
 refine ⟨hg.os.trans h.os,hg.output.trans h.output,Nat.le_trans h.size hg.size,fun k hk hx=>?_,fun k o hk=>?_,fun e he=>?_,fun e he b hb=>?_,fun e he b hb=>?_,?_⟩
 ·refine (hkeep k (Nat.lt_of_lt_of_le hk h.size) fun b hb hkb=>?_).trans (h.old k hk hx)
  subst hkb
  rcases h.new _ hem k hb with h1 | h1
  ·omega
  ·exact hx h1
 ·have:=h.view k o hk
  rw [hkeep k (lt_of_heap this) fun b hb hkb=>by subst hkb;rw [h.off _ hem k hb] at hk;cases hk];exact this
 ·rcases List.getElem?_of_mem he with ⟨i,hi⟩
  rw [List.getElem?_set] at hi
  by_cases hji:j=i
  ·subst hji
   have hl:j < L.length:=(List.getElem?_eq_some_iff.1 hj).1
   simp [hl] at hi
   subst hi;exact ⟨ho,hpd⟩
  ·simp [hji] at hi
   exact (h.has e (List.mem_of_getElem? hi)).of_heap (hoth i e hi hji)
 ·rcases List.mem_or_eq_of_mem_set he with he | rfl
  ·exact h.new e he b hb
  ·rcases hf with hf | hf
   ·exact h.new _ hem b (hf.symm.trans hb)
   ·rw [show v'.ownBlock=some b from hb] at hf;cases hf;exact .inl h.size
 ·rcases List.mem_or_eq_of_mem_set he with he | rfl
  ·exact h.off e he b hb
  ·rcases hf with hf | hf
   ·exact h.off _ hem b (hf.symm.trans hb)
   ·rw [show v'.ownBlock=some b from hb] at hf;cases hf
    cases hv:V w.heap.size with
    | none=>rfl
    | some o=>exact absurd (lt_of_heap (h.view _ _ hv)) (Nat.lt_irrefl _)
 ·rcases hf with hf | hf
  ·rw [filterMap_set hj (by exact hf)];exact h.nd
  ·exact set_foot_nodup hj h.nd (b:=w.heap.size) hf fun g hg hgb=>absurd (hlt g hg _ hgb) (Nat.lt_irrefl _)
def slB (P:Program) (t e:TypeId) (size:Nat):Bool :=
 (match P.underlying t with | some (.slice e')=>e' == e | _=>false) && (P.info? e).any (fun i=>i.size == size && i.zero.any (fun z=>z.cells.size == size && z.cells.all flat0) && decide (i.bytes≤1000)) && decide (0 < size)
theorem zeroCells_flat {z:Array Value} (hz:z.all flat0=true) (n:Nat):∀ (i:Nat) (c:Value),(Builtin.zeroCells z n)[i]? = some c→flat0 c=true:=by
 intro i c hc
 have hm:=Array.mem_of_getElem? hc
 unfold Builtin.zeroCells at hm
 obtain ⟨j,hj,rfl⟩:=Array.mem_map.1 hm
 have hj':j < n * z.size:=by simpa using hj
 have hpos:0 < z.size:=by
  rcases Nat.eq_zero_or_pos z.size with h | h
  ·rw [h] at hj';omega
  ·exact h
 have hlt:j % z.size < z.size:=Nat.mod_lt _ hpos
 rw [Array.all_eq_true] at hz
 rw [getElem!_pos z _ hlt]
 exact hz _ hlt
theorem append_pad {w w':World} {t ty e:TypeId} {i:TypeInfo} {z:Value} (ht:P.underlying t=some (.slice e)) (hi:P.info? e=some i) (hz:i.zero=some z) (hzf:z.cells.all flat0=true)
  {v v':Value} {n:Nat} {xs:List Value} (hown:w.ownsRow 0 e i.size v n xs) (hpd:PadAt w v (n * i.size)) {a:Addr} {m c:Nat} {news:List Value} (hl:news.length=m * i.size)
  (hnews:∀ j u,news[j]? = some u→w.cell? (a.add j)=some u) (h1:∀ u∈news,u.oneCell'=true) (h63:n+m≤maxLen) (hbytes:(n+m) * i.bytes≤140737488355328)
  (hr:(Builtin.append_ #[t,t] ty #[v,.slice (some a) m c]).run P w=.ok v' w'):PadAt w' v' ((n+m) * i.size):=by
 have hsmall:n+m≤9223372036854775807:=by simp only [maxLen] at h63;omega
 have made:∀ (W:World) (k:Nat) (g cap:Nat),PadAt ({ W with heap:=W.heap.push (.cells (xs.toArray ++ news.toArray ++ Builtin.zeroCells z.cells k) e) }) (.slice (some ⟨W.heap.size,0,none⟩) g cap) ((n+m) * i.size):=by
  intro W k g cap b hb cur t' fr hcur j c' hj hc
  have hb':b=W.heap.size:=by simpa [Value.ownBlock] using hb.symm
  subst hb'
  have hcur':some (Obj.cells (xs.toArray ++ news.toArray ++ Builtin.zeroCells z.cells k) e (0,0))=some (Obj.cells cur t' fr):=by rw [← hcur];simp
  cases hcur'
  have hlen:(xs.toArray ++ news.toArray).size=(n+m) * i.size:=by simp [hown.1,hl,Nat.add_mul]
  rw [Array.getElem?_append_right (by omega)] at hc
  exact zeroCells_flat hzf k _ _ hc
 rcases hown.2 with ⟨rfl,rfl⟩ | ⟨g,cap,cur,rfl,_,hg,hnc,hcm,hcs,htake⟩
 ·have hx:xs=[]:=List.eq_nil_of_length_eq_zero (by simpa using hown.1)
  subst hx
  by_cases hm:m=0
  ·subst hm
   have hn:news=[]:=List.eq_nil_of_length_eq_zero (by simpa using hl)
   subst hn
   have hr0:(Builtin.append_ #[t,t] ty #[.slice none 0 0,.slice (some a) 0 c]).run P w=.ok (.slice none 0 0) w:=by
    simp [Builtin.append_,run_underlying ht,sizeOf,typeInfo,hi,Builtin.lenOf,Builtin.firstCells,loadCells,loadCellsFrom]
   rw [hr0] at hr
   cases hr
   intro b hb;cases hb
  ·rw [run_append_nil (P:=P) w t ty e i z ht hi hz a m c news hl hnews (by omega) (by omega) (by have hb:=hbytes;simp only [Nat.zero_add] at hb;omega)] at hr
   cases hr
   have:=made w.drew (grownCap w m 0 e - m) m (grownCap w m 0 e)
   simp only [List.nil_append,Array.empty_append] at this ⊢
   exact this
 ·by_cases hroom:n+m≤cap
  ·have hfit:n * i.size+news.length≤cur.size:=by rw [hl,hcs,← Nat.add_mul];exact Nat.mul_le_mul_right _ hroom
   rw [run_append_room (P:=P) w t ty e i ht hi g n cap cur hg a m c news hl hnews h1 hroom hfit] at hr
   cases hr
   intro b hb cur' t' fr hcur j c' hj hc
   have hb':b=g:=by simpa [Value.ownBlock] using hb.symm
   subst hb'
   rw [setRow_heap w b cur _ e _ hg] at hcur
   cases hcur
   have hx:n * i.size≤cur.size:=by omega
   have hjj:n * i.size+m * i.size≤j:=by rw [← Nat.add_mul];exact hj
   have hll:(cur.toList.take (n * i.size) ++ news).length=n * i.size+news.length:=by simp only [List.length_append,List.length_take,Array.length_toList];omega
   rw [List.getElem?_toArray,List.getElem?_append_right (by rw [hll];omega),List.getElem?_drop] at hc
   refine hpd b rfl cur e (0,0) hg (n * i.size+news.length+(j - (cur.toList.take (n * i.size) ++ news).length)) c' (by omega) (by simpa using hc)
  ·rw [run_append_grow (P:=P) w t ty e i z ht hi hz ⟨g,0,none⟩ n cap xs hown.1 (hown.cells (g:=g) rfl) a m c news hl hnews (by omega) (by omega) (growslice_fits (by omega) hbytes)] at hr
   cases hr
   exact made w.drew _ _ _
theorem run_append (hS:St w0 X V L w) {o:Oper} {ρ:Operand→Value} {sl x:Operand} {t e:TypeId} {size:Nat} (ho:o.op=.call { callee:=.builtin .append,args:=#[sl,x],argTypes:=#[t,t] })
  (ht:slB P t e size=true) {j n:Nat} {v:Value} {xs:List Value} (hj:L[j]? = some (.row v e size n xs)) (hv:ρ sl=v)
  {jb b m c:Nat} {te:TypeId} {news:List Value} (hjb:L[jb]? = some (.blk b te news)) (hx:ρ x=.slice (some ⟨b,0,none⟩) m c) (hm:news.length=m * size) (h1:∀ u∈news,u.oneCell'=true) (hn:n+m≤1000) :
  ∃ v' w',(execOp ρ o).run P w=.ok (.value v') w'∧St w0 X V (L.set j (.row v' e size (n+m) (xs ++ news))) w':=by
 unfold slB at ht
 simp only [Bool.and_eq_true] at ht
 obtain ⟨⟨ht1,ht2⟩,ht3⟩:=ht
 have hu:P.underlying t=some (.slice e):=by
  cases hd:P.underlying t with
  | none=>rw [hd] at ht1;cases ht1
  | some d=>rw [hd] at ht1;cases d <;> simp_all
 cases hq:P.info? e with
 | none=>rw [hq] at ht2;cases ht2
 | some q =>
  rw [hq] at ht2
  simp only [Option.any_some,Bool.and_eq_true,beq_iff_eq,decide_eq_true_eq] at ht2
  obtain ⟨⟨hqs,hqz⟩,hqb⟩:=ht2
  cases hz:q.zero with
  | none=>rw [hz] at hqz;cases hqz
  | some z =>
   rw [hz] at hqz
   simp only [Option.any_some,Bool.and_eq_true,beq_iff_eq] at hqz
   obtain ⟨hqz,hqf⟩:=hqz
   have hsz:0 < size:=by simpa using ht3
   have hb:=hS.at hjb
   obtain ⟨v',w',hr,h2,h3,_,h5⟩:=run_append_own_at (P:=P) w 0 t o.type e q z size q.bytes hu hq hz hqs rfl hqz hsz v n xs (hS.atRow hj) ⟨b,0,none⟩ m c news hm
    (fun i u hi=>by rw [Addr.add_mid];exact cell_at hb (by simpa using hi)) h1 (by unfold maxLen;omega) (by
     have:(n+m) * q.bytes≤1000 * 1000:=Nat.mul_le_mul hn hqb
     omega) (Nat.zero_le _)
   refine ⟨v',w',?_,hS.grow hj h3 h2 (hqs ▸ append_pad (P:=P) hu hq hz hqf (hqs ▸ hS.atRow hj) (hqs ▸ hS.atPad hj) (a:=⟨b,0,none⟩) (hqs ▸ hm) (fun i u hi=>by rw [Addr.add_mid];exact cell_at hb (by simpa using hi)) h1 (by unfold maxLen;omega) (by
     have:(n+m) * q.bytes≤1000 * 1000:=Nat.mul_le_mul hn hqb
     omega) hr) h5⟩
   unfold execOp
   simp only [ho,resolve,invoke,builtin,Sem.run_bind,Sem.run_pure,Result.andThen_ok,List.map_toArray,List.map_cons,List.map_nil,hv,hx,hr]
end Go.Mm
namespace Go.Mm
open Go
variable {P:Program} {w0:World} {X:List Nat} {V:View} {L:List Ent} {w w':World}
theorem St.start1 (w:World) (V:View) (hV:V.In w) {g:Nat} {t:TypeId} {cs:List Value} (hg:w.heap[g]? = some (.cells cs.toArray t (0,0))) (hVg:V g=none):St w [g] V [.blk g t cs] w :=
 ⟨rfl,rfl,Nat.le_refl _,fun _ _ _=>rfl,hV,fun e he=>by simp at he;subst he;exact hg,fun e he b hb=>by simp at he;subst he;cases hb;exact .inr (by simp),
  fun e he b hb=>by simp at he;subst he;cases hb;exact hVg,by simp [Ent.foot]⟩
theorem St.toKpBut {g:Nat} (h:St w0 [g] V L w):KpBut g w0 w:=⟨h.os,h.output,h.size,fun k hk hkg=>h.old k hk (by simp [hkg])⟩
theorem St.mut (h:St w0 X V L w) {j:Nat} {g:Nat} {t:TypeId} {cs cs':List Value} (hj:L[j]? = some (.blk g t cs)) (k:KpBut g w w') (hg:w'.heap[g]? = some (.cells cs'.toArray t (0,0)))
  {L':List Ent} (hL:L.set j (.blk g t cs')=L'):St w0 X V L' w':=by
 subst hL
 have hem:=List.mem_of_getElem? hj
 have hb:=h.new _ hem g rfl
 have hbV:=h.off _ hem g rfl
 refine ⟨k.os.trans h.os,k.output.trans h.output,Nat.le_trans h.size k.size,fun i hi hx=>?_,fun i o hi=>?_,fun e he=>?_,fun e he c hc=>?_,fun e he c hc=>?_,?_⟩
 ·refine (k.old i (Nat.lt_of_lt_of_le hi h.size) ?_).trans (h.old i hi hx)
  rintro rfl
  rcases hb with hb | hb
  ·omega
  ·exact hx hb
 ·have:=h.view i o hi
  rw [k.old i (lt_of_heap this) (by rintro rfl;rw [hbV] at hi;cases hi)];exact this
 ·rcases List.getElem?_of_mem he with ⟨i,hi⟩
  rw [List.getElem?_set] at hi
  by_cases hji:j=i
  ·subst hji
   have hl:j < L.length:=(List.getElem?_eq_some_iff.1 hj).1
   simp [hl] at hi
   subst hi;exact hg
  ·simp [hji] at hi
   have heL:=List.mem_of_getElem? hi
   exact (h.has e heL).of_heap fun c hc=>k.old c ((h.has e heL).lt hc) (by rintro rfl;exact foot_ne h.nd hj hi hji rfl hc)
 ·rcases List.mem_or_eq_of_mem_set he with he | rfl
  ·exact h.new e he c hc
  ·cases hc;exact hb
 ·rcases List.mem_or_eq_of_mem_set he with he | rfl
  ·exact h.off e he c hc
  ·cases hc;exact hbV
 ·rw [filterMap_set (f:=Ent.blk g t cs') hj rfl];exact h.nd
theorem St.fresh (h0:St w0 X V L w) (k:Kp w w') {e:Ent} (he:e.Holds w') (hf:∀ b,e.foot=some b→w.heap.size≤b):St w0 X V (e :: L) w':=by
 have h:=h0.kp k
 have hlt:∀ f∈L,∀ b,f.foot=some b→b < w.heap.size:=fun f hm b hb=>(h0.has f hm).lt hb
 refine ⟨h.os,h.output,h.size,h.old,h.view,fun f hm=>?_,fun f hm b hb=>?_,fun f hm b hb=>?_,?_⟩
 ·rcases List.mem_cons.1 hm with rfl | hm
  ·exact he
  ·exact h.has f hm
 ·rcases List.mem_cons.1 hm with rfl | hm
  ·exact .inl (Nat.le_trans h0.size (hf b hb))
  ·exact h.new f hm b hb
 ·rcases List.mem_cons.1 hm with rfl | hm
  ·cases hv:V b with
   | none=>rfl
   | some o=>exact absurd (lt_of_heap (h0.view _ _ hv)) (by have:=hf b hb;omega)
  ·exact h.off f hm b hb
 ·cases hfo:e.foot with
  | none=>rw [List.filterMap_cons_none (f:=Ent.foot) hfo];exact h.nd
  | some b =>
   rw [List.filterMap_cons_some (f:=Ent.foot) hfo,List.nodup_cons]
   refine ⟨fun hm=>?_,h.nd⟩
   obtain ⟨f,hm,hb⟩:=List.mem_filterMap.1 hm
   have:=hlt f hm b hb
   have:=hf b hfo
   omega
theorem St.nilRow (h:St w0 X V L w) (t:TypeId) (s:Nat):St w0 X V (.row (.slice none 0 0) t s 0 [] :: L) w :=
 h.fresh (Kp.refl w) ⟨⟨by simp,.inl ⟨rfl,rfl⟩⟩,fun b hb=>by cases hb⟩ (fun b hb=>by cases hb)
end Go.Mm
namespace Go.Mm
open Go
variable {P:Program}
class RowT (P:Program) (ty:TypeId) (n:outParam Nat):Prop where
 ok:rowB P ty n=true
class OneT (P:Program) (ty:TypeId):Prop where
 ok:oneB P ty=true
class ZeroT (P:Program) (ty:TypeId) (cs:outParam (List Value)):Prop where
 has:zeroB P ty=true
 ok:zeroC P ty=cs
class SlT (P:Program) (t:TypeId) (e:outParam TypeId):Prop where
 ok:sl1B P t e=true
class ApT (P:Program) (t:TypeId) (e:outParam TypeId) (size:outParam Nat):Prop where
 ok:slB P t e size=true
class Hr (L:List Ent) (v:Value) (j:outParam Nat) (t:outParam TypeId) (s n:outParam Nat) (xs:outParam (List Value)):Prop where
 ok:L[j]? = some (.row v t s n xs)
instance Hr.here {L:List Ent} {v:Value} {t:TypeId} {s n:Nat} {xs:List Value}:Hr (.row v t s n xs :: L) v 0 t s n xs:=⟨rfl⟩
instance Hr.there {L:List Ent} {v:Value} {j:Nat} {t:TypeId} {s n:Nat} {xs:List Value} {e:Ent} [h:Hr L v j t s n xs]:Hr (e :: L) v (j+1) t s n xs:=⟨by simpa using h.ok⟩
class Hs (L:List Ent) (b:Nat) (j:outParam Nat) (t:outParam TypeId) (cs:outParam (List Value)):Prop where
 ok:L[j]? = some (.blk b t cs)
instance Hs.here {L:List Ent} {b:Nat} {t:TypeId} {cs:List Value}:Hs (.blk b t cs :: L) b 0 t cs:=⟨rfl⟩
instance Hs.there {L:List Ent} {b j:Nat} {t:TypeId} {cs:List Value} {e:Ent} [h:Hs L b j t cs]:Hs (e :: L) b (j+1) t cs:=⟨by simpa using h.ok⟩
def evalL (a:Act):Operand→Option Value
 | .tmp t=>a.tmps.toList[t]?
 | .const v=>some v
 | .global g=>some (.pointer (some ⟨g,0,none⟩))
 | .func f=>some (.func (.func f) #[] #[])
theorem evalL_ok {a:Act} {x:Operand} {v:Value} (h:evalL a x=some v):a.eval x=v:=by
 cases x with
 | tmp t =>
  have h':a.tmps[t]? = some v:=by simpa [evalL] using h
  simp [Act.eval,Array.getD_eq_getD_getElem?,h']
 | const c=>exact Option.some.inj h
 | global g=>exact Option.some.inj h
 | func f=>exact Option.some.inj h
structure PartOf (cs:List Value) (i n:Nat) (vs:List Value):Prop where
 part:(cs.drop i).take n=vs
 len:vs.length=n
theorem part_all {cs:List Value} {n:Nat} (h:cs.length=n):PartOf cs 0 n cs:=⟨take_all h,h⟩
inductive Lit:List Value→Nat→Nat→List Value→Prop where
 | nil {l:List Value}:Lit l 0 0 []
 | take {x:Value} {l r:List Value} {n:Nat}:Lit l 0 n r→Lit (x :: l) 0 (n+1) (x :: r)
 | drop {x:Value} {l r:List Value} {i n:Nat}:Lit l i n r→Lit (x :: l) (i+1) n r
theorem part_lit {cs:List Value} {i n:Nat} {vs:List Value} (h:Lit cs i n vs):PartOf cs i n vs:=by
 induction h with
 | nil=>exact ⟨by simp,rfl⟩
 | take _ ih=>exact ⟨by simpa using ih.part,by simpa using ih.len⟩
 | drop _ ih=>exact ⟨by simpa using ih.part,ih.len⟩
inductive Parts (a:Act):Nat→List (Nat × Operand)→List Value→Prop where
 | nil {i:Nat}:Parts a i [] []
 | cons {i:Nat} {x:Operand} {v:Value} {r:List (Nat × Operand)} {vs:List Value}:evalL a x=some v→Parts a (i+1) r vs→Parts a i ((i,x) :: r) (v :: vs)
theorem parts_ok {a:Act} {i:Nat} {l:List (Nat × Operand)} {vs:List Value} (h:Parts a i l vs):(l.map fun p=>(p.1,a.eval p.2))=tagged i vs:=by
 induction h with
 | nil=>rfl
 | cons hx _ ih=>simp [tagged,ih,evalL_ok hx]
section
variable {w0:World} {X:List Nat} {V:View} {L:List Ent} {w:World}
variable {ops:Array Oper} {rest:List Oper} {o:Oper} {a:Act} {Q:Exit→Act→World→Prop}
theorem ql1 (hS:St w0 X V L w) (hgd:Region.wanted o (yielded ops a.tmps)=true) {ty:TypeId} {x:Operand} (ho:o.op=.load ty x) {b i:Nat} (hx:a.eval x=.pointer (some ⟨b,i,none⟩))
  {j:Nat} {t:TypeId} {cs:List Value} [hj:Hs L b j t cs] [hty:OneT P ty] (h:∃ v,cs[i]? = some v∧∀ a',a.put o.dst v=a'→∀ w',St w0 X V L w'→wpList P ops Q rest a' w'):wpList P ops Q (o :: rest) a w:=by
 obtain ⟨v,hv,h⟩:=h
 exact wpl_load1 hS hgd ho j hx hj.ok hty.ok hv (h _ rfl w hS)
theorem qln (hS:St w0 X V L w) (hgd:Region.wanted o (yielded ops a.tmps)=true) {ty:TypeId} {x:Operand} (ho:o.op=.load ty x) {b i:Nat} (hx:a.eval x=.pointer (some ⟨b,i,none⟩))
  {j n:Nat} {t:TypeId} {cs:List Value} [hj:Hs L b j t cs] [hty:RowT P ty n] (h:∃ vs,PartOf cs i n vs∧∀ a',a.put o.dst (.agg vs.toArray)=a'→∀ w',St w0 X V L w'→wpList P ops Q rest a' w'):wpList P ops Q (o :: rest) a w:=by
 obtain ⟨vs,hv,h⟩:=h
 exact wpl_loadn hS hgd ho j hx hj.ok hty.ok hv.part hv.len (h _ rfl w hS)
theorem qv1 (hS:St w0 X V L w) (hgd:Region.wanted o (yielded ops a.tmps)=true) {ty:TypeId} {x:Operand} (ho:o.op=.load ty x) {b i:Nat} (hx:a.eval x=.pointer (some ⟨b,i,none⟩))
  [hty:OneT P ty] (h:∃ v,V.Cell b i v∧∀ a',a.put o.dst v=a'→∀ w',St w0 X V L w'→wpList P ops Q rest a' w'):wpList P ops Q (o :: rest) a w:=by
 obtain ⟨v,hv,h⟩:=h
 exact wpl_vload1 hS hgd ho hx hty.ok hv (h _ rfl w hS)
theorem qvn (hS:St w0 X V L w) (hgd:Region.wanted o (yielded ops a.tmps)=true) {ty:TypeId} {x:Operand} (ho:o.op=.load ty x) {b i:Nat} (hx:a.eval x=.pointer (some ⟨b,i,none⟩))
  {n:Nat} [hty:RowT P ty n] (h:∃ vs,(V.Range b i vs∧vs.length=n)∧∀ a',a.put o.dst (.agg vs.toArray)=a'→∀ w',St w0 X V L w'→wpList P ops Q rest a' w'):wpList P ops Q (o :: rest) a w:=by
 obtain ⟨vs,hv,h⟩:=h
 exact wpl_vloadn hS hgd ho hx hty.ok hv.1 hv.2 (h _ rfl w hS)
theorem qs1 (hS:St w0 X V L w) (hgd:Region.wanted o (yielded ops a.tmps)=true) {ty:TypeId} {x y:Operand} (ho:o.op=.store ty x y) {b i:Nat} (hx:a.eval x=.pointer (some ⟨b,i,none⟩))
  {j:Nat} {t:TypeId} {cs:List Value} [hj:Hs L b j t cs] [hty:OneT P ty] (h:∃ v,(evalL a y=some v∧v.oneCell'=true∧i < cs.length)∧∀ a',a.put o.dst undef=a'→∀ w',St w0 X V (L.set j (.blk b t (cs.set i v))) w'→wpList P ops Q rest a' w'):wpList P ops Q (o :: rest) a w:=by
 obtain ⟨v,⟨hy,h1,h2⟩,h⟩:=h
 exact wpl_store1 hS hgd ho j hx hj.ok (evalL_ok hy) h1 hty.ok h2 rfl fun w' hw=>h _ rfl w' hw
theorem qsn (hS:St w0 X V L w) (hgd:Region.wanted o (yielded ops a.tmps)=true) {ty:TypeId} {x y:Operand} (ho:o.op=.store ty x y) {b i:Nat} (hx:a.eval x=.pointer (some ⟨b,i,none⟩))
  {j n:Nat} {t:TypeId} {cs:List Value} [hj:Hs L b j t cs] [hty:RowT P ty n] (h:∃ vs:List Value,(evalL a y=some (.agg vs.toArray)∧(∀ v∈vs,v.oneCell'=true)∧vs.length=n∧i+n≤cs.length)∧∀ a',a.put o.dst undef=a' →
   ∀ w',St w0 X V (L.set j (.blk b t (splice cs i vs))) w'→wpList P ops Q rest a' w'):wpList P ops Q (o :: rest) a w:=by
 obtain ⟨vs,⟨hy,h1,h2,h3⟩,h⟩:=h
 exact wpl_storen hS hgd ho j hx hj.ok (evalL_ok hy) h1 hty.ok h2 h3 rfl fun w' hw=>h _ rfl w' hw
theorem qsall (hS:St w0 X V L w) (hgd:Region.wanted o (yielded ops a.tmps)=true) {ty:TypeId} {x y:Operand} (ho:o.op=.store ty x y) {b:Nat} (hx:a.eval x=.pointer (some ⟨b,0,none⟩))
  {j n:Nat} {t:TypeId} {cs:List Value} [hj:Hs L b j t cs] [hty:RowT P ty n] (h:∃ vs:List Value,(evalL a y=some (.agg vs.toArray)∧(∀ v∈vs,v.oneCell'=true)∧vs.length=n∧cs.length=n)∧∀ a',a.put o.dst undef=a' →
   ∀ w',St w0 X V (L.set j (.blk b t vs)) w'→wpList P ops Q rest a' w'):wpList P ops Q (o :: rest) a w:=by
 obtain ⟨vs,⟨hy,h1,h2,h3⟩,h⟩:=h
 exact wpl_storeall hS hgd ho j hx hj.ok (evalL_ok hy) h1 hty.ok h2 h3 rfl fun w' hw=>h _ rfl w' hw
theorem qbox (hS:St w0 X V L w) (hgd:Region.wanted o (yielded ops a.tmps)=true) {ty:TypeId} {x:Operand} (ho:o.op=.box ty x) {v:Value} (hx:evalL a x=some v)
  (h:∃ cs:List Value,v.cells=cs.toArray∧∀ b a',a.put o.dst (.pointer (some ⟨b,0,none⟩))=a'→∀ w',St w0 X V (.blk b ty cs :: L) w'→wpList P ops Q rest a' w'):wpList P ops Q (o :: rest) a w:=by
 obtain ⟨cs,hc,h⟩:=h
 exact wpl_box hS hgd ho (evalL_ok hx) hc fun b w' hw=>h b _ rfl w' hw
theorem qalloc (hS:St w0 X V L w) (hgd:Region.wanted o (yielded ops a.tmps)=true) {ty:TypeId} (ho:o.op=.alloc ty) {cs:List Value} [hz:ZeroT P ty cs]
  (h:∀ b a',a.put o.dst (.pointer (some ⟨b,0,none⟩))=a'→∀ w',St w0 X V (.blk b ty cs :: L) w'→wpList P ops Q rest a' w'):wpList P ops Q (o :: rest) a w :=
 wpl_alloc hS hgd ho hz.has hz.ok fun b w' hw=>h b _ rfl w' hw
theorem qbsl (hS:St w0 X V L w) (hgd:Region.wanted o (yielded ops a.tmps)=true) {t e:TypeId} {len:Nat} {parts:List (Nat × Operand)} (ho:o.op=.buildSlice t len parts.toArray) [ht:SlT P t e]
  (h:∃ vs,Parts a 0 parts vs∧(vs.length=len∧len≤100∧∀ v∈vs,v.oneCell'=true)∧∀ b a',a.put o.dst (.slice (some ⟨b,0,none⟩) len len)=a'→∀ w',St w0 X V (.blk b e vs :: L) w'→wpList P ops Q rest a' w'):wpList P ops Q (o :: rest) a w:=by
 obtain ⟨vs,hp,hc,h⟩:=h
 exact wpl_bslice hS hgd ho (by simpa using parts_ok hp) hc.1 hc.2.1 hc.2.2 ht.ok fun b w' hw=>h b _ rfl w' hw
theorem qboxd (d:Nat) (_hd:o.dst=some d) (hS:St w0 X V L w) (hgd:Region.wanted o (yielded ops a.tmps)=true) {ty:TypeId} {x:Operand} (ho:o.op=.box ty x) {v:Value} (hx:evalL a x=some v)
  (h:∃ cs:List Value,v.cells=cs.toArray∧∀ b a',a.put o.dst (.pointer (some ⟨b,0,none⟩))=a'→∀ w',St w0 X V (.blk b ty cs :: L) w'→wpList P ops Q rest a' w'):wpList P ops Q (o :: rest) a w :=
 qbox hS hgd ho hx h
theorem qallocd (d:Nat) (_hd:o.dst=some d) (hS:St w0 X V L w) (hgd:Region.wanted o (yielded ops a.tmps)=true) {ty:TypeId} (ho:o.op=.alloc ty) {cs:List Value} [hz:ZeroT P ty cs]
  (h:∀ b a',a.put o.dst (.pointer (some ⟨b,0,none⟩))=a'→∀ w',St w0 X V (.blk b ty cs :: L) w'→wpList P ops Q rest a' w'):wpList P ops Q (o :: rest) a w :=
 qalloc hS hgd ho h
theorem qbsld (d:Nat) (_hd:o.dst=some d) (hS:St w0 X V L w) (hgd:Region.wanted o (yielded ops a.tmps)=true) {t e:TypeId} {len:Nat} {parts:List (Nat × Operand)} (ho:o.op=.buildSlice t len parts.toArray) [ht:SlT P t e]
  (h:∃ vs,Parts a 0 parts vs∧(vs.length=len∧len≤100∧∀ v∈vs,v.oneCell'=true)∧∀ b a',a.put o.dst (.slice (some ⟨b,0,none⟩) len len)=a'→∀ w',St w0 X V (.blk b e vs :: L) w'→wpList P ops Q rest a' w'):wpList P ops Q (o :: rest) a w :=
 qbsl hS hgd ho h
end
section
variable {w0:World} {X:List Nat} {V:View} {L:List Ent} {w:World}
variable {ops:Array Oper} {rest:List Oper} {o:Oper} {a:Act} {Q:Exit→Act→World→Prop}
end
section
variable {w0:World} {X:List Nat} {V:View} {L:List Ent}
variable {o:Oper} {a:Act} {K:Act→Prop}
theorem quiet_l1 {ty:TypeId} {x:Operand} (ho:o.op=.load ty x) {b i:Nat} (hx:a.eval x=.pointer (some ⟨b,i,none⟩)) {j:Nat} {t:TypeId} {cs:List Value} [hj:Hs L b j t cs] [hty:OneT P ty]
  (h:∃ v,cs[i]? = some v∧∀ a',a.put o.dst v=a'→K a'):o.quiet P a (St w0 X V L) K:=by
 obtain ⟨v,hv,h⟩:=h
 exact quiet_load1 ho j hx hj.ok hty.ok hv (h _ rfl)
theorem quiet_ln {ty:TypeId} {x:Operand} (ho:o.op=.load ty x) {b i:Nat} (hx:a.eval x=.pointer (some ⟨b,i,none⟩)) {j n:Nat} {t:TypeId} {cs:List Value} [hj:Hs L b j t cs] [hty:RowT P ty n]
  (h:∃ vs,PartOf cs i n vs∧∀ a',a.put o.dst (.agg vs.toArray)=a'→K a'):o.quiet P a (St w0 X V L) K:=by
 obtain ⟨vs,hv,h⟩:=h
 exact quiet_loadn ho j hx hj.ok hty.ok hv.part hv.len (h _ rfl)
theorem quiet_mv {C:World→Prop} {x:Operand} {v:Value} (ho:o.op=.move x) (hx:evalL a x=some v) (h:∀ a',a.put o.dst v=a'→K a'):o.quiet P a C K :=
 quiet_value (fun w _=>by have:=evalL_ok hx;exact this ▸ BigFrame.run_move x ho w) (h _ rfl)
theorem quiet_pure {C:World→Prop} (h:∃ v,(∀ w,(execOp a.eval o).run P w=.ok (.value v) w)∧∀ a',a.put o.dst v=a'→K a'):o.quiet P a C K:=by
 obtain ⟨v,hr,h⟩:=h
 exact quiet_value (fun w _=>hr w) (h _ rfl)
theorem quiet_con (h:∃ f args,(∀ w,(execOp a.eval o).run P w=.ok (.enter f args) w)∧∃ v,(∀ w,St w0 X V L w→Calls P f args w fun e w'=>e=.returned v∧Kp w w')∧∀ a',a.put o.dst v=a'→K a'):o.quiet P a (St w0 X V L) K:=by
 obtain ⟨f,args,hr,v,hc,h⟩:=h
 exact quiet_enter (fun w _=>hr w) (fun w hS=>calls_kp hS (hc w hS)) (h _ rfl)
end
section
variable {w0:World} {X:List Nat} {V:View} {L:List Ent} {w:World}
theorem rs_tmp {tmps:Array Value} {t:Tmp} {v:Value} (h:tmps.toList[t]? = some v):(resSem tmps (.tmp t)).run P w=.ok v w:=by
 have h':tmps[t]? = some v:=by simpa using h
 exact res_tmp (by simp [h'])
theorem rs_1 (hS:St w0 X V L w) {tmps:Array Value} {t:Tmp} {ty:TypeId} {b i:Nat} (hx:tmps.getD t undef=.pointer (some ⟨b,i,none⟩)) {j:Nat} {t':TypeId} {cs:List Value} [hj:Hs L b j t' cs]
  [hty:OneT P ty] {v:Value} (hv:cs[i]? = some v):(resSem tmps (.cell t ty)).run P w=.ok v w:=res_cell1 hS j hx hj.ok hty.ok hv
theorem rs_n (hS:St w0 X V L w) {tmps:Array Value} {t:Tmp} {ty:TypeId} {b i:Nat} (hx:tmps.getD t undef=.pointer (some ⟨b,i,none⟩)) {j n:Nat} {t':TypeId} {cs:List Value} [hj:Hs L b j t' cs]
  [hty:RowT P ty n] {vs:List Value} (hv:PartOf cs i n vs):(resSem tmps (.cell t ty)).run P w=.ok (.agg vs.toArray) w:=res_celln hS j hx hj.ok hty.ok hv.part hv.len
theorem ret_by {fn:Func} {R:Ending→World→Prop} {a:Act} (h:∃ v,(results fn a.tmps).run P w=.ok v w∧R (.returned v) w) (hd:a.defers=[]):bodyPost P fn R .ret a w:=by
 obtain ⟨v,hr,hR⟩:=h
 exact bodyPost_ret hr hd hR
theorem calls_by {f:FuncId} {args:Array Value} {R:Ending→World→Prop} (hS:St w0 X V L w) (h:∃ v,(Calls P f args w fun e w'=>e=.returned v∧Kp w w')∧∀ w',St w0 X V L w'→R (.returned v) w'):Calls P f args w R:=by
 obtain ⟨v,hc,h⟩:=h
 exact calls_go hS hc h
end
theorem fr:(∀ (t:Array Value) (d:List Deferred) (i:Nat) (v:Value),(⟨t,d⟩:Act).put (some i) v=⟨t.setIfInBounds i v,d⟩)∧(∀ (a:Act) (v:Value),a.put none v=a) ∧
  (∀ (l:List Value) (i:Nat) (v:Value),l.toArray.setIfInBounds i v=(l.set i v).toArray)∧(∀ (x:Value) (l:List Value) (i:Nat) (v:Value),(x :: l).set (i+1) v=x :: l.set i v) ∧
  (∀ (x:Value) (l:List Value) (v:Value),(x :: l).set 0 v=v :: l) :=
 ⟨fun _ _ _ _=>rfl,fun _ _=>rfl,fun l i v=>by simp,fun _ _ _ _=>rfl,fun _ _ _=>rfl⟩
theorem sE:(∀ (x:Ent) (l:List Ent) (i:Nat) (v:Ent),(x :: l).set (i+1) v=x :: l.set i v)∧(∀ (x:Ent) (l:List Ent) (v:Ent),(x :: l).set 0 v=v :: l) ∧
  (∀ (x:Value) (l:List Value) (i:Nat) (v:Value),(x :: l).set (i+1) v=x :: l.set i v)∧(∀ (x:Value) (l:List Value) (v:Value),(x :: l).set 0 v=v :: l) :=
 ⟨fun _ _ _ _=>rfl,fun _ _ _=>rfl,fun _ _ _ _=>rfl,fun _ _ _=>rfl⟩
theorem lV:(∀ (l:List Value) (i:Nat) (v:Value),(l.set i v).length=l.length)∧(∀ (l r:List Value),(l ++ r).length=l.length+r.length)∧(∀ (n:Nat) (v:Value),(List.replicate n v).length=n) ∧
  (∀ (x:Value) (l:List Value),(x :: l).length=l.length+1)∧(([]:List Value).length=0) :=
 ⟨fun _ _ _=>by simp,fun _ _=>by simp,fun _ _=>by simp,fun _ _=>rfl,rfl⟩
theorem oN:∀ v∈([]:List Value),v.oneCell'=true:=by simp
theorem oC {x:Value} {l:List Value} (hx:x.oneCell'=true) (h:∀ v∈l,v.oneCell'=true):∀ v∈x :: l,v.oneCell'=true:=by
 intro v hv
 rcases List.mem_cons.1 hv with rfl | hv
 ·exact hx
 ·exact h v hv
section
variable {w0:World} {X:List Nat} {V:View} {L:List Ent} {w:World}
variable {ops:Array Oper} {rest:List Oper} {a:Act} {Q:Exit→Act→World→Prop} {d:Option Tmp} {t:TypeId} {p:String} {af:Array Edge} {g:Option (Nat × Bool)}
theorem gL {ty:TypeId} {x:Operand} (h:wpList P ops Q (⟨d,.load ty x,t,p,af,g⟩ :: rest) a w):wpList P ops Q (⟨d,.load ty x,t,p,af,g⟩ :: rest) a w:=h
theorem gS {ty:TypeId} {x y:Operand} (h:wpList P ops Q (⟨d,.store ty x y,t,p,af,g⟩ :: rest) a w):wpList P ops Q (⟨d,.store ty x y,t,p,af,g⟩ :: rest) a w:=h
theorem gA {ty:TypeId} (h:wpList P ops Q (⟨d,.alloc ty,t,p,af,g⟩ :: rest) a w):wpList P ops Q (⟨d,.alloc ty,t,p,af,g⟩ :: rest) a w:=h
theorem gB {ty:TypeId} {x:Operand} (h:wpList P ops Q (⟨d,.box ty x,t,p,af,g⟩ :: rest) a w):wpList P ops Q (⟨d,.box ty x,t,p,af,g⟩ :: rest) a w:=h
theorem gSl {ty:TypeId} {n:Nat} {ps:Array (Nat × Operand)} (h:wpList P ops Q (⟨d,.buildSlice ty n ps,t,p,af,g⟩ :: rest) a w):wpList P ops Q (⟨d,.buildSlice ty n ps,t,p,af,g⟩ :: rest) a w:=h
theorem gAp {xs:Array Operand} {ts:Array TypeId} (h:wpList P ops Q (⟨d,.call ⟨.builtin .append,xs,ts⟩,t,p,af,g⟩ :: rest) a w):wpList P ops Q (⟨d,.call ⟨.builtin .append,xs,ts⟩,t,p,af,g⟩ :: rest) a w:=h
theorem gC {f:FuncId} {xs:Array Value} {R:Ending→World→Prop} (h:Calls P f xs w R):Calls P f xs w R:=h
variable {C:World→Prop} {K:Act→Prop}
theorem gqL {ty:TypeId} {x:Operand} (h:(⟨d,.load ty x,t,p,af,g⟩:Oper).quiet P a C K):(⟨d,.load ty x,t,p,af,g⟩:Oper).quiet P a C K:=h
theorem gqM {x:Operand} (h:(⟨d,.move x,t,p,af,g⟩:Oper).quiet P a C K):(⟨d,.move x,t,p,af,g⟩:Oper).quiet P a C K:=h
theorem gqV {x:Operand} {xs:Array Operand} {ts:Array TypeId} (h:(⟨d,.call ⟨.value x,xs,ts⟩,t,p,af,g⟩:Oper).quiet P a C K):(⟨d,.call ⟨.value x,xs,ts⟩,t,p,af,g⟩:Oper).quiet P a C K:=h
end
theorem gE {a:Act} {x:Operand} {v:Value} (h:evalL a x=some v):evalL a x=some v:=h
theorem gO {v:Value} (h:v.oneCell'=true):v.oneCell'=true:=h
theorem gI {cs:List Value} {i:Nat} {v:Value} (h:cs[i]? = some v):cs[i]? = some v:=h
theorem gP {cs vs:List Value} {i n:Nat} (h:PartOf cs i n vs):PartOf cs i n vs:=h
theorem gN {cs:List Value} {n:Nat} (h:cs.length=n):cs.length=n:=h
theorem gV {vs:List Value} (h:∀ v∈vs,v.oneCell'=true):∀ v∈vs,v.oneCell'=true:=h
theorem zd {p:Prop} (h:p:=by ((repeat' (apply And.intro)) <;> (first | ((with_reducible apply gE);exact rfl) | ((with_reducible apply gO);first | exact rfl | assumption) | ((with_reducible apply gI);first | assumption | exact rfl | (simp only [lV,limC_len,losC_len,Nat.reduceAdd,Nat.reduceMul, *];done)) | ((with_reducible apply gP);first | exact PartOf.mk (by assumption) (by (first | assumption | (simp only [lV,limC_len,losC_len,Nat.reduceAdd,Nat.reduceMul, *];done) | rfl | omega)) | exact part_all (by (first | assumption | (simp only [lV,limC_len,losC_len,Nat.reduceAdd,Nat.reduceMul, *];done) | rfl | omega)) | exact part_lit (by repeat (first | exact Go.Mm.Lit.nil | apply Go.Mm.Lit.take | apply Go.Mm.Lit.drop))) | ((with_reducible apply gN);(first | assumption | (simp only [lV,limC_len,losC_len,Nat.reduceAdd,Nat.reduceMul, *];done) | rfl | omega)) | ((with_reducible apply gV);first | assumption | exact rdgC_one _ | exact vesC_one _ | exact Rdg.one _ | exact Ves.one _ | exact limC_one _ | exact stC_one _ | (repeat (first | exact oN | refine oC rfl ?_))) | assumption | omega | exact ints_hit (by assumption) | exact nowS_wf _ _ | exact SS.WF.setLos (by assumption) | exact SS.WF.weighed (by assumption) _ _ | (simp only [lV,limC_len,losC_len,Nat.reduceAdd,Nat.reduceMul, *];omega) | exact rfl | (simp only [lV,limC_len,losC_len,Nat.reduceAdd,Nat.reduceMul, *];done)))):p:=h
theorem zp {p:Prop} (h:p:=by (intro _;go_simp;(try simp (disch:=omega) only [IntWalk.i64_in,IntWalk.u64_in,IntWalk.u8_in]);first | done | rfl | exact ⟨rfl,rfl⟩)):p:=h
theorem zc {p:Prop} (h:p:=by (first | assumption | exact rfl | omega | exact nowS_wf _ _ | exact SS.WF.setLos (by assumption) | exact SS.WF.weighed (by assumption) _ _ | exact Rdg.one _ | exact Ves.one _ | exact limC_one _ | exact stC_one _ | (simp only [lV,limC_len,losC_len,Nat.reduceAdd,Nat.reduceMul, *];done) | (simp only [lV,limC_len,losC_len,Nat.reduceAdd,Nat.reduceMul, *];omega))):p:=h
theorem zo {p:Prop} (h:p:=by (go_simp;first | done | rfl | exact ⟨rfl,rfl⟩)):p:=h
theorem zq {p:Prop} (h:p:=by repeat (first | exact Parts.nil | (apply Parts.cons;exact rfl))):p:=h
theorem za {p:Prop} (h:p:=by first | exact rfl | assumption):p:=h
end Go.Mm
namespace Go.Mm
open Go Go.Proofs
instance:OneT Tryd.prog 1:=⟨by kernel_rfl⟩
instance:OneT Tryd.prog 2:=⟨by kernel_rfl⟩
instance:OneT Tryd.prog 3:=⟨by kernel_rfl⟩
instance:OneT Tryd.prog 4:=⟨by kernel_rfl⟩
instance:OneT Tryd.prog 22:=⟨by kernel_rfl⟩
instance:OneT Tryd.prog 23:=⟨by kernel_rfl⟩
instance:RowT Tryd.prog 25 2:=⟨by kernel_rfl⟩
instance:RowT Tryd.prog 27 2:=⟨by kernel_rfl⟩
instance:RowT Tryd.prog 29 4:=⟨by kernel_rfl⟩
instance:OneT Tryd.prog 30:=⟨by kernel_rfl⟩
instance:OneT Tryd.prog 38:=⟨by kernel_rfl⟩
instance:RowT Tryd.prog 59 4:=⟨by kernel_rfl⟩
instance:OneT Tryd.prog 82:=⟨by kernel_rfl⟩
instance:OneT Tryd.prog 87:=⟨by kernel_rfl⟩
instance:OneT Tryd.prog 88:=⟨by kernel_rfl⟩
instance:RowT Tryd.prog 90 3:=⟨by kernel_rfl⟩
instance:OneT Tryd.prog 95:=⟨by kernel_rfl⟩
instance:RowT Tryd.prog 96 6:=⟨by kernel_rfl⟩
instance:RowT Tryd.prog 98 12:=⟨by kernel_rfl⟩
instance:RowT Tryd.prog 100 18:=⟨by kernel_rfl⟩
instance:RowT Tryd.prog 104 2:=⟨by kernel_rfl⟩
instance:OneT Tryd.prog 110:=⟨by kernel_rfl⟩
instance:RowT Tryd.prog 112 3:=⟨by kernel_rfl⟩
instance:OneT Tryd.prog 124:=⟨by kernel_rfl⟩
instance:RowT Tryd.prog 129 6:=⟨by kernel_rfl⟩
instance:OneT Tryd.prog 142:=⟨by kernel_rfl⟩
instance:RowT Tryd.prog 152 1:=⟨by kernel_rfl⟩
instance:OneT Tryd.prog 155:=⟨by kernel_rfl⟩
instance:OneT Tryd.prog 159:=⟨by kernel_rfl⟩
instance:OneT Tryd.prog 163:=⟨by kernel_rfl⟩
instance:OneT Tryd.prog 165:=⟨by kernel_rfl⟩
instance:RowT Tryd.prog 170 84:=⟨by kernel_rfl⟩
instance:RowT Tryd.prog 176 3:=⟨by kernel_rfl⟩
instance:OneT Tryd.prog 179:=⟨by kernel_rfl⟩
instance:ZeroT Tryd.prog 25 ([.slice none 0 0,.slice none 0 0]):=⟨by kernel_rfl,by kernel_rfl⟩
instance:ZeroT Tryd.prog 27 (List.replicate 2 (.int .i64 0)):=⟨by kernel_rfl,by kernel_rfl⟩
instance:ZeroT Tryd.prog 29 ([.int .i64 0,.int .i64 0,.int .i64 0,.int .i64 0]):=⟨by kernel_rfl,by kernel_rfl⟩
instance:ZeroT Tryd.prog 38 ([.int .i64 0]):=⟨by kernel_rfl,by kernel_rfl⟩
instance:ZeroT Tryd.prog 59 ([.int .i64 0,.int .i64 0,.int .i64 0,.int .i64 0]):=⟨by kernel_rfl,by kernel_rfl⟩
instance:ZeroT Tryd.prog 82 ([.slice none 0 0]):=⟨by kernel_rfl,by kernel_rfl⟩
instance:ZeroT Tryd.prog 96 (List.replicate 6 (.int .u64 0)):=⟨by kernel_rfl,by kernel_rfl⟩
instance:ZeroT Tryd.prog 98 (List.replicate 12 (.int .i64 0)):=⟨by kernel_rfl,by kernel_rfl⟩
instance:ZeroT Tryd.prog 100 (List.replicate 6 (.int .u64 0) ++ List.replicate 12 (.int .i64 0)):=⟨by kernel_rfl,by kernel_rfl⟩
instance:ZeroT Tryd.prog 104 ([.slice none 0 0,.slice none 0 0]):=⟨by kernel_rfl,by kernel_rfl⟩
instance:ZeroT Tryd.prog 124 ([.pointer none]):=⟨by kernel_rfl,by kernel_rfl⟩
instance:ZeroT Tryd.prog 142 ([.int .u8 0]):=⟨by kernel_rfl,by kernel_rfl⟩
instance:ZeroT Tryd.prog 152 ([.int .i64 0]):=⟨by kernel_rfl,by kernel_rfl⟩
instance:ZeroT Tryd.prog 163 ([.nilFunc]):=⟨by kernel_rfl,by kernel_rfl⟩
instance:ZeroT Tryd.prog 165 ([.chan none]):=⟨by kernel_rfl,by kernel_rfl⟩
instance:ZeroT Tryd.prog 176 ([.pointer none,.pointer none,.int .u64 0]):=⟨by kernel_rfl,by kernel_rfl⟩
instance:SlT Tryd.prog 30 3:=⟨by kernel_rfl⟩
instance:SlT Tryd.prog 74 30:=⟨by kernel_rfl⟩
instance:SlT Tryd.prog 110 124:=⟨by kernel_rfl⟩
instance:SlT Tryd.prog 143 142:=⟨by kernel_rfl⟩
instance:SlT Tryd.prog 161 38:=⟨by kernel_rfl⟩
instance:ApT Tryd.prog 22 29 4:=⟨by kernel_rfl⟩
instance:ApT Tryd.prog 23 59 4:=⟨by kernel_rfl⟩
instance:ApT Tryd.prog 30 3 1:=⟨by kernel_rfl⟩
instance:ApT Tryd.prog 74 30 1:=⟨by kernel_rfl⟩
instance:ApT Tryd.prog 110 124 1:=⟨by kernel_rfl⟩
end Go.Mm
namespace Go.Wg
open Go
structure SS where
 lim:List Nat
 los:List (Int × Int)
structure SS.WF (s:SS):Prop where
 lim:s.lim.length=6
 los:s.los.length=6
 small:∀ m∈s.lim,m < 2199023255552
def limC (l:List Nat):List Value:=l.map fun m:Nat=>.int .u64 (m:Int)
def losC (l:List (Int × Int)):List Value:=l.flatMap fun p=>[.int .i64 p.1,.int .i64 p.2]
def stC (s:SS):List Value:=limC s.lim ++ losC s.los
def SS.limAt (s:SS) (i:Nat):Nat:=s.lim.getD i 0
def SS.losAt (s:SS) (i:Nat):Int × Int:=s.los.getD i (0,0)
def SS.setLim (s:SS) (i m:Nat):SS:={ s with lim:=s.lim.set i m }
def SS.setLos (s:SS) (i:Nat) (p:Int × Int):SS:={ s with los:=s.los.set i p }
theorem limC_len (l:List Nat):(limC l).length=l.length:=by simp [limC]
theorem losC_len (l:List (Int × Int)):(losC l).length=l.length * 2:=by
 induction l with
 | nil=>rfl
 | cons p l ih=>simp [losC] at ih ⊢;omega
theorem stC_len {s:SS} (h:s.WF):(stC s).length=18:=by simp [stC,limC_len,losC_len,h.lim,h.los]
theorem losC_get (l:List (Int × Int)) (i:Nat) (h:i < l.length):(losC l)[i * 2]? = some (.int .i64 (l.getD i (0,0)).1)∧(losC l)[i * 2+1]? = some (.int .i64 (l.getD i (0,0)).2):=by
 induction l generalizing i with
 | nil=>simp at h
 | cons p l ih =>
  cases i with
  | zero=>simp [losC]
  | succ i =>
   have:=ih i (by simpa using h)
   simp only [losC,List.flatMap_cons,List.cons_append,List.nil_append] at this ⊢
   rw [show (i+1) * 2=i * 2+1+1 by omega]
   simpa using this
theorem stC_lim {s:SS} (h:s.WF) {i:Nat} (hi:i < 6):(stC s)[i]? = some (.int .u64 (s.limAt i:Int)):=by
 have h1:=h.lim
 unfold stC SS.limAt
 rw [List.getElem?_append_left (by simp [limC_len,h1,hi])]
 simp [limC,List.getElem?_map,List.getElem?_eq_getElem (show i < s.lim.length by omega)]
theorem stC_lo {s:SS} (h:s.WF) {i:Nat} (hi:i < 6):(stC s)[6+i * 2]? = some (.int .i64 (s.losAt i).1):=by
 have h1:=h.lim
 unfold stC SS.losAt
 rw [List.getElem?_append_right (by simp [limC_len,h1])]
 simp only [limC_len,h1,Nat.add_sub_cancel_left]
 exact (losC_get s.los i (by have:=h.los;omega)).1
theorem stC_hi {s:SS} (h:s.WF) {i:Nat} (hi:i < 6):(stC s)[6+i * 2+1]? = some (.int .i64 (s.losAt i).2):=by
 have h1:=h.lim
 unfold stC SS.losAt
 rw [List.getElem?_append_right (by simp [limC_len,h1];omega)]
 simp only [limC_len,h1,show 6+i * 2+1 - 6=i * 2+1 by omega]
 exact (losC_get s.los i (by have:=h.los;omega)).2
theorem limC_set (l:List Nat) (i m:Nat):(limC l).set i (.int .u64 (m:Int))=limC (l.set i m):=by simp [limC]
theorem losC_setlo (l:List (Int × Int)) (i:Nat) (x:Int) (h:i < l.length):(losC l).set (i * 2) (.int .i64 x)=losC (l.set i (x,(l.getD i (0,0)).2)):=by
 induction l generalizing i with
 | nil=>simp at h
 | cons p l ih =>
  cases i with
  | zero=>simp [losC]
  | succ i =>
   have:=ih i (by simpa using h)
   simp only [losC,List.flatMap_cons,List.cons_append,List.nil_append] at this ⊢
   rw [show (i+1) * 2=i * 2+1+1 by omega]
   simpa using this
theorem losC_sethi (l:List (Int × Int)) (i:Nat) (x:Int) (h:i < l.length):(losC l).set (i * 2+1) (.int .i64 x)=losC (l.set i ((l.getD i (0,0)).1,x)):=by
 induction l generalizing i with
 | nil=>simp at h
 | cons p l ih =>
  cases i with
  | zero=>simp [losC]
  | succ i =>
   have:=ih i (by simpa using h)
   simp only [losC,List.flatMap_cons,List.cons_append,List.nil_append] at this ⊢
   rw [show (i+1) * 2=i * 2+1+1 by omega]
   simpa using this
theorem stC_setlim {s:SS} (h:s.WF) {i:Nat} (hi:i < 6) (m:Nat):(stC s).set i (.int .u64 (m:Int))=stC (s.setLim i m):=by
 have h1:=h.lim
 unfold stC SS.setLim
 rw [List.set_append_left _ _ (by simp [limC_len,h1,hi]),limC_set]
theorem stC_setlo {s:SS} (h:s.WF) {i:Nat} (hi:i < 6) (x:Int):(stC s).set (6+i * 2) (.int .i64 x)=stC (s.setLos i (x,(s.losAt i).2)):=by
 have h1:=h.lim
 unfold stC SS.setLos SS.losAt
 rw [List.set_append_right _ _ (by simp [limC_len,h1])]
 simp only [limC_len,h1,Nat.add_sub_cancel_left]
 rw [losC_setlo _ _ _ (by have:=h.los;omega)]
theorem stC_sethi {s:SS} (h:s.WF) {i:Nat} (hi:i < 6) (x:Int):(stC s).set (6+i * 2+1) (.int .i64 x)=stC (s.setLos i ((s.losAt i).1,x)):=by
 have h1:=h.lim
 unfold stC SS.setLos SS.losAt
 rw [List.set_append_right _ _ (by simp [limC_len,h1];omega)]
 simp only [limC_len,h1,show 6+i * 2+1 - 6=i * 2+1 by omega]
 rw [losC_sethi _ _ _ (by have:=h.los;omega)]
theorem SS.WF.setLim {s:SS} (h:s.WF) {i m:Nat} (hm:m < 2199023255552):(s.setLim i m).WF :=
 ⟨by simp [SS.setLim,h.lim],h.los,fun x hx=>by
  rcases List.mem_or_eq_of_mem_set hx with hx | rfl
  ·exact h.small x hx
  ·exact hm⟩
theorem SS.WF.setLos {s:SS} (h:s.WF) {i:Nat} {p:Int × Int}:(s.setLos i p).WF:=⟨h.lim,by simp [SS.setLos,h.los],h.small⟩
theorem SS.WF.limAt_lt {s:SS} (h:s.WF) (i:Nat):s.limAt i < 2199023255552:=by
 unfold SS.limAt
 rw [List.getD_eq_getElem?_getD]
 cases hi:s.lim[i]? with
 | none=>decide
 | some m=>exact h.small m (List.mem_of_getElem? hi)
theorem stC_one (s:SS):∀ v∈stC s,v.oneCell'=true:=by
 intro v hv
 unfold stC limC losC at hv
 rcases List.mem_append.1 hv with h | h
 ·obtain ⟨m,_,rfl⟩:=List.mem_map.1 h;rfl
 ·obtain ⟨p,_,h⟩:=List.mem_flatMap.1 h
  rcases List.mem_cons.1 h with rfl | h
  ·rfl
  ·rcases List.mem_cons.1 h with rfl | h
   ·rfl
   ·cases h
theorem limC_one (l:List Nat):∀ v∈limC l,v.oneCell'=true:=by
 intro v hv
 obtain ⟨m,_,rfl⟩:=List.mem_map.1 hv;rfl
def SS.weighed (s:SS) (i:Nat) (n:Int):SS:=s.setLim i (s.limAt i &&& spanB n n)
theorem SS.WF.weighed {s:SS} (h:s.WF) (i:Nat) (n:Int):(s.weighed i n).WF:=h.setLim (Nat.lt_of_le_of_lt Nat.and_le_left (h.limAt_lt i))
end Go.Wg
namespace Go.Wg
open Go Go.Mm
structure Ves where
 from_:Int
 room:Int
 lo:Int
 hi:Int
 deriving DecidableEq,Inhabited
structure Rdg where
 vessel:Int
 scale:Int
 shown:Int
 err:Int
 deriving DecidableEq,Inhabited
structure Wk where
 ves:List Ves
 rdg:List Rdg
 deriving DecidableEq
def Ves.cells (v:Ves):List Value:=[.int .i64 v.from_,.int .i64 v.room,.int .i64 v.lo,.int .i64 v.hi]
def Rdg.cells (r:Rdg):List Value:=[.int .i64 r.vessel,.int .i64 r.scale,.int .i64 r.shown,.int .i64 r.err]
def Wk.n (k:Wk):Nat:=k.ves.length
def Wk.v (k:Wk) (i:Nat):Ves:=k.ves.getD i default
def Wk.fills (k:Wk) (i:Nat):List Nat:=(List.range k.n).filter fun j=>(k.v j).from_ == (i:Int)
structure VSl (V:View) (v:Value) (n sz:Nat) (get:Nat→List Value):Prop where
 is:∃ a cap,v=.slice a n cap∧n≤cap∧cap≤maxLen∧(0 < n→∃ g off,a=some ⟨g,off,none⟩∧∀ i,i < n→V.Range g (off+i * sz) (get i))
def ptr (b:Nat):Value:=.pointer (some ⟨b,0,none⟩)
structure Cel (V:View) (p:Nat) (k:Wk) (ts:List Nat) (vv rv:Value):Prop where
 c0:V.Cell p 0 vv
 c1:V.Cell p 1 rv
 c2:∃ g cap,V.Cell p 2 (.slice (some ⟨g,0,none⟩) k.n cap)∧∀ i,i < k.n→V.Cell g i (ptr (ts.getD i 0))
 ves:VSl V vv k.n 4 fun i=>(k.v i).cells
 rdg:VSl V rv k.rdg.length 4 fun i=>(k.rdg.getD i default).cells
 tun:∀ i,i < k.n→V.Range (ts.getD i 0) 0 ((k.v i).cells ++ [.int .i64 (i:Int)])
 fil:∀ i,i < k.n→∃ v,V.Cell (ts.getD i 0) 5 v∧VSl V v (k.fills i).length 1 fun j=>[ptr (ts.getD ((k.fills i).getD j 0) 0)]
 pos:0 < k.n
 le:k.n≤6
def Cellar (V:View) (p:Nat) (k:Wk):Prop:=∃ ts vv rv,Cel V p k ts vv rv
theorem Cel.mono {V V':View} {p:Nat} {k:Wk} {ts:List Nat} {vv rv:Value} (h:Cel V p k ts vv rv) (hV:∀ i o,V i=some o→V' i=some o):Cel V' p k ts vv rv:=by
 have sl:∀ {v n sz get},VSl V v n sz get→VSl V' v n sz get:=fun ⟨a,cap,h1,h2,h3,h4⟩ =>
  ⟨a,cap,h1,h2,h3,fun hn=>by obtain ⟨g,off,h5,h6⟩:=h4 hn;exact ⟨g,off,h5,fun i hi=>(h6 i hi).mono hV⟩⟩
 refine ⟨h.c0.mono hV,h.c1.mono hV,?_,sl h.ves,sl h.rdg,fun i hi=>(h.tun i hi).mono hV,fun i hi=>?_,h.pos,h.le⟩
 ·obtain ⟨g,cap,h1,h2⟩:=h.c2
  exact ⟨g,cap,h1.mono hV,fun i hi=>(h2 i hi).mono hV⟩
 ·obtain ⟨v,h1,h2⟩:=h.fil i hi
  exact ⟨v,h1.mono hV,sl h2⟩
def sums (out:List Nat) (f:List Nat):Nat:=f.foldl (fun m x=>plusB m (out.getD x 0)) 1
def upOne (k:Wk) (s:SS) (out:List Nat) (i:Nat):Nat :=
 if k.fills i=[] then s.limAt i else s.limAt i &&& plusB (sums (out.set i (s.limAt i)) (k.fills i)) (spanB (s.losAt i).1 (s.losAt i).2)
def upAt (k:Wk) (s:SS):Nat→List Nat
 | 0=>List.replicate 6 0
 | m+1=>(upAt k s m).set (k.n - 1 - m) (upOne k s (upAt k s m) (k.n - 1 - m))
def up (k:Wk) (s:SS):List Nat:=upAt k s k.n
theorem upAt_len (k:Wk) (s:SS) (m:Nat):(upAt k s m).length=6:=by
 induction m with
 | zero=>rfl
 | succ m ih=>simp [upAt,ih]
theorem sums_lt (out f:List Nat):sums out f < 2199023255552:=by
 unfold sums
 rcases List.eq_nil_or_concat f with rfl | ⟨l,x,rfl⟩
 ·exact (by decide:(1:Nat) < 2199023255552)
 ·rw [List.concat_eq_append,List.foldl_append]
  exact plusB_lt _ _
theorem sums_take (out f:List Nat) (j:Nat) (h:j < f.length):sums out (f.take (j+1))=plusB (sums out (f.take j)) (out.getD (f.getD j 0) 0):=by
 unfold sums
 rw [List.take_succ_eq_append_getElem h,List.foldl_append]
 simp [List.getD_eq_getElem?_getD,List.getElem?_eq_getElem h]
theorem upOne_lt {k:Wk} {s:SS} (h:s.WF) (out:List Nat) (i:Nat):upOne k s out i < 2199023255552:=by
 unfold upOne
 split
 ·exact h.limAt_lt i
 ·exact Nat.lt_of_le_of_lt Nat.and_le_left (h.limAt_lt i)
theorem upAt_lt {k:Wk} {s:SS} (h:s.WF) (m x:Nat):(upAt k s m).getD x 0 < 2199023255552:=by
 induction m with
 | zero =>
  rw [List.getD_eq_getElem?_getD,upAt,List.getElem?_replicate]
  split <;> decide
 | succ m ih =>
  rw [upAt,List.getD_eq_getElem?_getD,List.getElem?_set]
  split
  ·split
   ·exact upOne_lt h _ _
   ·decide
  ·rw [← List.getD_eq_getElem?_getD];exact ih
theorem setAt_lt {l:List Nat} (h:∀ x,l.getD x 0 < 2199023255552) {m:Nat} (hm:m < 2199023255552) (i x:Nat):(l.set i m).getD x 0 < 2199023255552:=by
 rw [List.getD_eq_getElem?_getD,List.getElem?_set]
 split
 ·split
  ·exact hm
  ·decide
 ·rw [← List.getD_eq_getElem?_getD];exact h x
theorem limC_get {l:List Nat} {i:Nat} (h:i < l.length):(limC l)[i]? = some (.int .u64 (l.getD i 0:Nat)):=by
 simp [limC,List.getElem?_map,List.getElem?_eq_getElem h,List.getD_eq_getElem?_getD]
def settle (k:Wk) (s:SS):Option Nat:=(List.range k.n).reverse.find? fun i=>(up k s).getD i 0 == 0
def can (k:Wk) (s:SS):Bool:=(settle k s).isNone
def settleV (k:Wk) (s:SS):Value:=match settle k s with | none=>.nilIface | some i=>.iface 152 (.agg #[.int .i64 (i:Int)])
theorem settle_some {k:Wk} {s:SS} {i:Nat} (h:i < k.n) (h0:(up k s).getD i 0=0) (h1:∀ j,i < j→j < k.n→(up k s).getD j 0≠0):settle k s=some i:=by
 unfold settle
 have key:∀ n,i < n→(∀ j,i < j→j < n→(up k s).getD j 0≠0)→(List.range n).reverse.find? (fun i=>(up k s).getD i 0 == 0)=some i:=by
  intro n
  induction n with
  | zero=>omega
  | succ n ih =>
   intro hn hj
   rw [List.range_succ,List.reverse_append]
   simp only [List.reverse_cons,List.reverse_nil,List.nil_append,List.cons_append,List.find?_cons]
   by_cases hin:i=n
   ·subst hin
    simp only [h0,beq_self_eq_true]
   ·have hz:((up k s).getD n 0 == 0)=false:=by rw [beq_eq_false_iff_ne];exact hj n (by omega) (by omega)
    rw [hz]
    exact ih (by omega) fun j h2 h3=>hj j h2 (by omega)
 exact key k.n h h1
theorem settle_none {k:Wk} {s:SS} (h1:∀ j,j < k.n→(up k s).getD j 0≠0):settle k s=none:=by
 unfold settle
 rw [List.find?_eq_none]
 intro j hj
 have:j < k.n:=by simpa using hj
 simpa using h1 j this
end Go.Wg
namespace Go.Wg
open Go Go.Mm
def nowA (k:Wk):Nat→SS
 | 0=>⟨List.replicate 6 0,List.replicate 6 (0,0)⟩
 | i+1=>((nowA k i).setLim i (spanB 0 (k.v i).room)).setLos i ((k.v i).lo,(k.v i).hi)
def rdOne (b:Rdg→Bool) (s:SS) (r:Rdg):SS:=if b r then s else s.setLim r.vessel.toNat (s.limAt r.vessel.toNat &&& spanB (r.shown - r.err) (r.shown+r.err))
def nowS (k:Wk) (b:Rdg→Bool):SS:=k.rdg.foldl (rdOne b) (nowA k k.n)
def noneB (_:Rdg):Bool:=false
theorem nowA_wf (k:Wk) (i:Nat):(nowA k i).WF:=by
 induction i with
 | zero=>exact ⟨by simp [nowA],by simp [nowA],fun m hm=>by simp [nowA] at hm;omega⟩
 | succ i ih=>exact (ih.setLim (spanB_lt _ _)).setLos
theorem rdOne_wf {b:Rdg→Bool} {s:SS} (h:s.WF) (r:Rdg):(rdOne b s r).WF:=by
 unfold rdOne
 split
 ·exact h
 ·exact h.setLim (Nat.lt_of_le_of_lt Nat.and_le_left (h.limAt_lt _))
theorem rds_wf {b:Rdg→Bool} {s:SS} (h:s.WF) (l:List Rdg):(l.foldl (rdOne b) s).WF:=by
 induction l generalizing s with
 | nil=>exact h
 | cons r l ih=>exact ih (rdOne_wf h r)
theorem nowS_wf (k:Wk) (b:Rdg→Bool):(nowS k b).WF:=rds_wf (nowA_wf k _) _
def Rdg.Ok (n:Nat) (r:Rdg):Prop:=0≤r.vessel∧r.vessel < n∧0≤r.scale∧r.scale≤2∧0≤r.shown∧r.shown≤60∧0≤r.err∧r.err≤9
def Ves.Ok (i:Nat) (v:Ves):Prop:=-1≤v.from_∧v.from_ < i∧0≤v.room∧v.room≤40∧0≤v.lo∧v.lo≤20∧0≤v.hi∧v.hi≤20∧v.lo≤v.hi
structure Wk.Ok (k:Wk):Prop where
 pos:0 < k.n
 le:k.n≤6
 ves:∀ i,i < k.n→(k.v i).Ok i
 rdl:k.rdg.length≤6
 rdg:∀ i,i < k.rdg.length→(k.rdg.getD i default).Ok k.n
theorem splice_losC (s:SS) (h:s.WF) (i:Nat) (hi:i < 6) (x y:Int):splice (stC s) (6+i * 2) [.int .i64 x,.int .i64 y]=stC (s.setLos i (x,y)):=by
 have e1:=stC_setlo h hi x
 have h':(s.setLos i (x,(s.losAt i).2)).WF:=h.setLos
 have e2:=stC_sethi h' hi y
 rw [← e1] at e2
 have e3:(s.setLos i (x,(s.losAt i).2)).setLos i (((s.setLos i (x,(s.losAt i).2)).losAt i).1,y)=s.setLos i (x,y):=by
  have hl:i < s.los.length:=by rw [h.los];exact hi
  simp [SS.setLos,SS.losAt,hl]
 rw [e3] at e2
 rw [← e2]
 have hl:(stC s).length=18:=stC_len h
 unfold splice
 apply List.ext_getElem?
 intro j
 simp only [List.length_cons,List.length_nil,List.append_assoc,List.getElem?_append,List.length_take,hl,List.getElem?_take,List.getElem?_drop,List.getElem?_set,List.length_set]
 have e4:min (6+i * 2) 18=6+i * 2:=by omega
 rw [e4]
 by_cases h1:j < 6+i * 2
 ·simp [h1,show ¬ 6+i * 2=j by omega,show ¬ 6+i * 2+1=j by omega]
 ·simp only [h1,if_false]
  by_cases h2:j=6+i * 2
  ·subst h2;simp;omega
  ·by_cases h3:j=6+i * 2+1
   ·subst h3;simp [show 6+i * 2+1 - (6+i * 2)=1 by omega];omega
   ·have:¬ j - (6+i * 2) < 0+1+1:=by omega
    simp only [this,if_false,show ¬ 6+i * 2=j by omega,show ¬ 6+i * 2+1=j by omega]
    congr 1
    omega
theorem Ves.one (v:Ves):∀ x∈v.cells,x.oneCell'=true:=by
 intro x hx
 simp only [Ves.cells,List.mem_cons,List.not_mem_nil,or_false] at hx
 rcases hx with rfl | rfl | rfl | rfl <;> rfl
theorem Rdg.one (v:Rdg):∀ x∈v.cells,x.oneCell'=true:=by
 intro x hx
 simp only [Rdg.cells,List.mem_cons,List.not_mem_nil,or_false] at hx
 rcases hx with rfl | rfl | rfl | rfl <;> rfl
end Go.Wg
namespace Go.Wg
open Go Go.Mm
def weightTo (k:Wk) (s:SS) (v:Nat):Nat→Int × Int
 | 0=>(40,0)
 | m+1=>if can k (s.weighed v (m:Nat)) then (min (weightTo k s v m).1 m,m) else weightTo k s v m
def weightS (k:Wk) (s:SS) (v:Nat):Int × Int:=weightTo k s v 41
def moreS (s:SS) (v:Nat) (n:Nat):SS:=s.setLos v ((s.losAt v).1,(s.losAt v).2+n)
def beyondS (k:Wk) (v:Nat):Option Nat:=(List.range 41).find? fun n=>can k (moreS (nowS k noneB) v n)
def spanV (p:Int × Int):Value:=.agg #[.int .i64 p.1,.int .i64 p.2]
theorem weightTo_bd (k:Wk) (s:SS) (v m:Nat) (hm:m≤41):0≤(weightTo k s v m).1∧(weightTo k s v m).1≤40∧0≤(weightTo k s v m).2∧(weightTo k s v m).2≤40:=by
 induction m with
 | zero=>simp only [weightTo];omega
 | succ m ih =>
  have:=ih (by omega)
  rw [weightTo]
  split
  ·simp only;omega
  ·exact this
theorem SS.setLos_twice (s:SS) (i:Nat) (p q:Int × Int):(s.setLos i p).setLos i q=s.setLos i q:=by simp [SS.setLos]
theorem SS.losAt_setLos (s:SS) (hs:s.WF) (i:Nat) (hi:i < 6) (p:Int × Int):(s.setLos i p).losAt i=p:=by
 have:i < s.los.length:=by rw [hs.los];exact hi
 simp [SS.setLos,SS.losAt,this]
theorem take_two {l:List Value} {i:Nat} {a b:Value} (h1:l[i]? = some a) (h2:l[i+1]? = some b):(l.drop i).take 2=[a,b]:=by
 obtain ⟨hi,rfl⟩:=List.getElem?_eq_some_iff.1 h1
 obtain ⟨hj,rfl⟩:=List.getElem?_eq_some_iff.1 h2
 rw [List.drop_eq_getElem_cons hi,List.drop_eq_getElem_cons hj]
 rfl
theorem stC_span {s:SS} (h:s.WF) {i:Nat} (hi:i < 6):((stC s).drop (6+i * 2)).take 2=[.int .i64 (s.losAt i).1,.int .i64 (s.losAt i).2]:=take_two (stC_lo h hi) (stC_hi h hi)
theorem moreS_succ {s:SS} (hs:s.WF) {v:Nat} (hv:v < 6) (n:Nat):(moreS s v n).setLos v (((moreS s v n).losAt v).1,((moreS s v n).losAt v).2+1)=moreS s v (n+1):=by
 unfold moreS
 rw [SS.setLos_twice,SS.losAt_setLos s hs v hv]
 congr 2
 show (s.losAt v).2+(n:Int)+1=(s.losAt v).2+((n+1:Nat):Int)
 omega
theorem moreS_zero {s:SS} (hs:s.WF) {v:Nat} (hv:v < 6):moreS s v 0=s:=by
 unfold moreS SS.setLos SS.losAt
 have:v < s.los.length:=by rw [hs.los];exact hv
 cases s with
 | mk lim los =>
  simp only [SS.mk.injEq,true_and]
  simp only at this
  rw [List.getD_eq_getElem?_getD,List.getElem?_eq_getElem this]
  simp only [Option.getD_some,Int.natCast_zero,Int.add_zero]
  exact List.set_getElem_self this
theorem moreS_wf {s:SS} (hs:s.WF) (v n:Nat):(moreS s v n).WF:=hs.setLos
end Go.Wg
namespace Go.Wg
open Go Go.Mm
def firstE:List Int→Int
 | []=>0
 | e :: l=>if e=0 then firstE l else e
def unlessE (b:Bool) (e:Int):Int:=if b then 0 else e
def outB (n lo hi:Int):Bool:=decide (n < lo) || decide (hi < n)
def vesE (i:Nat) (v:Ves):Int :=
 firstE [unlessE (!outB v.from_ (-1) (i - 1)) 3,unlessE (!outB v.room 0 40) 1,unlessE (!outB v.lo 0 20 && !outB v.hi 0 20) 1,unlessE (decide (v.lo≤v.hi)) 5]
def rdgE (n:Nat) (r:Rdg):Int:=firstE [unlessE (!outB r.vessel 0 (n - 1) && !outB r.scale 0 2) 3,unlessE (!outB r.shown 0 60 && !outB r.err 0 9) 1]
def vesTo (k:Wk) (m:Nat):Int:=firstE ((List.range m).map fun i=>vesE i (k.v i))
def rdgTo (k:Wk) (m:Nat):Int:=firstE ((List.range m).map fun i=>rdgE k.n (k.rdg.getD i default))
def checkE (k:Wk):Int :=
 firstE [firstE [unlessE (decide (0 < k.n)) 7,unlessE (decide (k.n≤6)) 6],vesTo k k.n,if 6 < k.rdg.length then 6 else 0,rdgTo k k.rdg.length]
theorem firstE_append (a b:List Int):firstE (a ++ b)=if firstE a=0 then firstE b else firstE a:=by
 induction a with
 | nil=>simp [firstE]
 | cons e a ih =>
  simp only [List.cons_append,firstE]
  by_cases h:e=0
  ·simp only [h,if_true];exact ih
  ·simp only [h,if_false]
theorem vesTo_succ (k:Wk) (m:Nat):vesTo k (m+1)=if vesTo k m=0 then vesE m (k.v m) else vesTo k m:=by
 unfold vesTo
 rw [List.range_succ,List.map_append,firstE_append]
 simp only [List.map_cons,List.map_nil,firstE]
 congr 1
 split
 ·rename_i h;exact h.symm
 ·rfl
theorem rdgTo_succ (k:Wk) (m:Nat):rdgTo k (m+1)=if rdgTo k m=0 then rdgE k.n (k.rdg.getD m default) else rdgTo k m:=by
 unfold rdgTo
 rw [List.range_succ,List.map_append,firstE_append]
 simp only [List.map_cons,List.map_nil,firstE]
 congr 1
 split
 ·rename_i h;exact h.symm
 ·rfl
theorem vesTo_hit {k:Wk} {m n:Nat} (h:m < n) (h0:vesTo k m=0) (h1:vesE m (k.v m)≠0):vesTo k n=vesE m (k.v m):=by
 induction n with
 | zero=>omega
 | succ n ih =>
  rw [vesTo_succ]
  by_cases hn:m=n
  ·subst hn;rw [if_pos h0]
  ·have:=ih (by omega)
   rw [if_neg (by rw [this];exact h1),this]
theorem rdgTo_hit {k:Wk} {m n:Nat} (h:m < n) (h0:rdgTo k m=0) (h1:rdgE k.n (k.rdg.getD m default)≠0):rdgTo k n=rdgE k.n (k.rdg.getD m default):=by
 induction n with
 | zero=>omega
 | succ n ih =>
  rw [rdgTo_succ]
  by_cases hn:m=n
  ·subst hn;rw [if_pos h0]
  ·have:=ih (by omega)
   rw [if_neg (by rw [this];exact h1),this]
end Go.Wg
namespace Go.Wg
open Go Go.Mm
def widerS (a b:Int × Int):Int × Int:=(min a.1 b.1,max a.2 b.2)
def bothS (a b:Int × Int):Int × Int:=(a.1+b.1,a.2+b.2)
structure Gr where
 at_:List (Int × Int)
 has:Nat
structure Gr.WF (g:Gr):Prop where
 len:g.at_.length=41
 small:g.has < 2199023255552
def Gr.empty:Gr:=⟨List.replicate 41 (0,0),0⟩
def Gr.get (g:Gr) (n:Nat):Int × Int:=g.at_.getD n (0,0)
def Gr.add (g:Gr) (n:Nat) (v:Int × Int):Gr:=⟨g.at_.set n (if g.has.testBit n then widerS (g.get n) v else v),g.has ||| 2 ^ n⟩
def joinV:Value:=.func (.func 126) #[] #[]
def grC (g:Gr):List Value:=losC g.at_ ++ [.int .u64 (g.has:Nat),joinV]
theorem Gr.empty_wf:Gr.empty.WF:=⟨by simp [Gr.empty],by decide⟩
theorem Gr.WF.add {g:Gr} (h:g.WF) {n:Nat} (hn:n < 41) (v:Int × Int):(g.add n v).WF:=by
 refine ⟨by simp [Gr.add,h.len],?_⟩
 have h2:(2:Nat) ^ n < 2 ^ 41:=Nat.pow_lt_pow_right (by omega) hn
 have h1:=h.small
 have:g.has ||| 2 ^ n < 2 ^ 41:=Nat.or_lt_two_pow (by omega) h2
 show g.has ||| 2 ^ n < 2199023255552
 omega
theorem grC_len {g:Gr} (h:g.WF):(grC g).length=84:=by simp [grC,losC_len,h.len]
theorem grC_has {g:Gr} (h:g.WF):(grC g)[82]? = some (.int .u64 (g.has:Nat)):=by
 unfold grC
 rw [List.getElem?_append_right (by simp [losC_len,h.len])]
 simp [losC_len,h.len]
theorem grC_join {g:Gr} (h:g.WF):(grC g)[83]? = some joinV:=by
 unfold grC
 rw [List.getElem?_append_right (by simp [losC_len,h.len])]
 simp [losC_len,h.len]
theorem grC_at {g:Gr} (h:g.WF) {n:Nat} (hn:n < 41):((grC g).drop (n * 2)).take 2=[.int .i64 (g.get n).1,.int .i64 (g.get n).2]:=by
 have h1:=losC_get g.at_ n (by rw [h.len];exact hn)
 refine take_two ?_ ?_
 ·unfold grC
  rw [List.getElem?_append_left (by simp [losC_len,h.len];omega)];exact h1.1
 ·unfold grC
  rw [List.getElem?_append_left (by simp [losC_len,h.len];omega)];exact h1.2
theorem losC_splice (l:List (Int × Int)) (i:Nat) (h:i < l.length) (p:Int × Int) (r:List Value):splice (losC l ++ r) (i * 2) [.int .i64 p.1,.int .i64 p.2]=losC (l.set i p) ++ r:=by
 induction l generalizing i with
 | nil=>simp at h
 | cons q l ih =>
  cases i with
  | zero=>simp [losC,splice]
  | succ i =>
   have:=ih i (by simpa using h)
   simp only [losC,List.flatMap_cons,List.cons_append,List.nil_append,splice,List.set_cons_succ] at this ⊢
   rw [show (i+1) * 2=i * 2+1+1 by omega]
   simp only [List.take_succ_cons,List.drop_succ_cons,List.cons_append,List.length_cons,List.length_nil] at this ⊢
   rw [← this]
theorem grC_setat {g:Gr} (h:g.WF) {n:Nat} (hn:n < 41) (p:Int × Int):splice (grC g) (n * 2) [.int .i64 p.1,.int .i64 p.2]=grC ⟨g.at_.set n p,g.has⟩:=by
 unfold grC
 exact losC_splice _ _ (by rw [h.len];exact hn) _ _
theorem grC_sethas {g:Gr} (h:g.WF) (m:Nat):(grC g).set 82 (.int .u64 (m:Nat))=grC ⟨g.at_,m⟩:=by
 unfold grC
 rw [List.set_append_right _ _ (by simp [losC_len,h.len])]
 simp [losC_len,h.len]
end Go.Wg
namespace Go.Wg
open Go Go.Mm
def leafTo (s:SS) (st:Bool) (i:Nat):Nat→Gr
 | 0=>Gr.empty
 | m+1=>if (s.limAt i).testBit m then (leafTo s st i m).add m (if st then ((m:Int),(m:Int)) else (0,0)) else leafTo s st i m
def rowTo (a b:Gr) (x:Nat) (g:Gr):Nat→Gr
 | 0=>g
 | m+1=>if a.has.testBit x && b.has.testBit m then (rowTo a b x g m).add (x+m) (bothS (a.get x) (b.get m)) else rowTo a b x g m
def joinTo (a b:Gr):Nat→Gr
 | 0=>Gr.empty
 | x+1=>rowTo a b x (joinTo a b x) (41 - x)
def joinG (a b:Gr):Gr:=joinTo a b 41
def lossRow (sums:Gr) (lim:Nat) (st:Bool) (lo:Int) (x:Nat) (g:Gr):Nat→Gr
 | 0=>g
 | m+1=>if sums.has.testBit x && lim.testBit (x+(lo+m).toNat) then (lossRow sums lim st lo x g m).add (x+(lo+m).toNat) (if st then sums.get x else bothS (sums.get x) (lo+m,lo+m)) else lossRow sums lim st lo x g m
def lossN (lo hi:Int) (x:Nat):Nat:=(min hi (40 - x) - lo+1).toNat
def lossTo' (sums:Gr) (lim:Nat) (st:Bool) (lo hi:Int):Nat→Gr
 | 0=>Gr.empty
 | x+1=>lossRow sums lim st lo x (lossTo' sums lim st lo hi x) (lossN lo hi x)
def spreadF (k:Wk) (s:SS) (st:Bool):Nat→Nat→Gr
 | 0,_=>Gr.empty
 | f+1,i =>
  if k.fills i=[] then leafTo s st i 41
  else lossTo' ((k.fills i).foldl (fun sm x=>joinG sm (spreadF k s st f x)) (Gr.empty.add 0 (0,0))) (s.limAt i) st (s.losAt i).1 (s.losAt i).2 41
def spreadS (k:Wk) (s:SS) (st:Bool) (i:Nat):Gr:=spreadF k s st (k.n - i) i
def foundTo (g:Gr):Nat→Option (Int × Int)
 | 0=>none
 | n+1=>if g.has.testBit n then some (match foundTo g n with | none=>g.get n | some r=>widerS r (g.get n)) else foundTo g n
def foundS (k:Wk) (s:SS) (st:Bool) (i:Nat):Int × Int:=(foundTo (spreadS k s st i) 41).getD (0,0)
def Wk.sources (k:Wk):List Nat:=(List.range k.n).filter fun i=>decide ((k.v i).from_ < 0)
def totalS (k:Wk) (s:SS) (st:Bool):Int × Int:=k.sources.foldl (fun t i=>bothS t (foundS k s st i)) (0,0)
theorem leafTo_wf (s:SS) (st:Bool) (i m:Nat) (hm:m≤41):(leafTo s st i m).WF:=by
 induction m with
 | zero=>exact Gr.empty_wf
 | succ m ih =>
  rw [leafTo]
  split
  ·exact (ih (by omega)).add (by omega) _
  ·exact ih (by omega)
theorem rowTo_wf (a b:Gr) (x:Nat) {g:Gr} (hg:g.WF) (m:Nat) (hm:x+m≤41):(rowTo a b x g m).WF:=by
 induction m with
 | zero=>exact hg
 | succ m ih =>
  rw [rowTo]
  split
  ·exact (ih (by omega)).add (by omega) _
  ·exact ih (by omega)
theorem joinTo_wf (a b:Gr) (x:Nat) (hx:x≤41):(joinTo a b x).WF:=by
 induction x with
 | zero=>exact Gr.empty_wf
 | succ x ih =>
  rw [joinTo]
  exact rowTo_wf a b x (ih (by omega)) _ (by omega)
theorem joinG_wf (a b:Gr):(joinG a b).WF:=joinTo_wf a b 41 (by omega)
theorem lossRow_wf (sums:Gr) (lim:Nat) (st:Bool) (lo:Int) (hlo:0≤lo) (x:Nat) {g:Gr} (hg:g.WF) (m:Nat) (hm:x+lo+m≤41):(lossRow sums lim st lo x g m).WF:=by
 induction m with
 | zero=>exact hg
 | succ m ih =>
  rw [lossRow]
  split
  ·exact (ih (by omega)).add (by omega) _
  ·exact ih (by omega)
theorem lossTo'_wf (sums:Gr) (lim:Nat) (st:Bool) (lo hi:Int) (hlo:0≤lo) (x:Nat) (hx:x≤41):(lossTo' sums lim st lo hi x).WF:=by
 induction x with
 | zero=>exact Gr.empty_wf
 | succ x ih =>
  rw [lossTo']
  have ihx:=ih (by omega)
  by_cases h0:lossN lo hi x=0
  ·rw [h0];exact ihx
  ·refine lossRow_wf _ _ _ _ hlo _ ihx _ ?_
   unfold lossN at h0 ⊢
   omega
theorem spreadF_wf (k:Wk) (s:SS) (st:Bool) (hlo:∀ i,0≤(s.losAt i).1) (f i:Nat):(spreadF k s st f i).WF:=by
 cases f with
 | zero=>exact Gr.empty_wf
 | succ f =>
  rw [spreadF]
  split
  ·exact leafTo_wf s st i 41 (by omega)
  ·exact lossTo'_wf _ _ _ _ _ (hlo i) 41 (by omega)
end Go.Wg
