/- A part of the proof: T4, T5, T6, T7, T8. -/
import Derived.Test.YtjjmefieegcddaaDoorB01
import Derived.Conc.LoneCalls
import Derived.Conc.CrowdComm
import Derived.Lone
import Derived.Conc.Own3
import Derived.Conc.Own5
import Derived.Conc.Own4
set_option linter.unusedVariables false
set_option linter.unusedSimpArgs false
namespace Go.Tm
open Go
open Go.Conc (G)
def GBad:GStep→Prop
 | .go g _ _=>g.status=.running∧∃ d,g.dying=some d∧d.calling=false∧d.todo=[]
 | .ended .. | .spawn .. => True
 | .comm _ cases b _ w _=>(b=true∧∃ c,cases=#[c])∧HeapOk OC w
 | _=>False
def Moves (f0:FuncId) (F:Bool→List Frame→World→GStep) (mine:List Frame) (w:World) (j:Nat):Prop :=
 (∃ fr' mine' w' es,Stk f0 fr' mine'∧HeapOk OC w'∧(∀ e∈es,ND e)∧w.heap.size≤w'.heap.size∧w'.drawn=w.drawn+j∧w'.tape=w.tape ∧
  ∀ main cs τ d,Agree w j τ d→F main (mine ++ cs) (w.re τ d)=.go (G fr' (mine' ++ cs)) (w'.re τ (d+j)) es) ∨
 (∀ cs τ d,Agree w j τ d→GBad (F true (mine ++ cs) (w.re τ d)))
def Result.on {α:Type} (r:Result α) (w:World):Result α :=
 match r with
 | .ok a _=>.ok a w
 | .halt h _=>.halt h w
theorem re_on {α:Type} (r:Result α) (τ:Nat→Question→Nat) (d:Nat):r.re τ d=Result.on r (r.world.re τ d):=by cases r <;> rfl
theorem bad_ite {c:Prop} [Decidable c] {a b:GStep} (ha:GBad a) (hb:GBad b):GBad (if c then a else b):=by split <;> assumption
theorem bad_after {es:Array Event} {g:GStep} (h:GBad g):GBad (GStep.after es g):=by
 cases g <;> exact h
theorem bad_endFatal (P:Program) (fr:Frame) (cs:List Frame) (m:String) (w:World):GBad (endFatal P fr cs none m w):=by
 unfold endFatal
 dsimp only
 split
 ·exact ⟨rfl,_,rfl,rfl,rfl⟩
 ·trivial
 ·trivial
theorem nd_none {es:Array Event} (h:∀ x∈es,x∈(#[]:Array Event)∨ND x):∀ x∈es,ND x:=fun x hx=>(h x hx).elim (fun h=>by simp at h) id
theorem mem_seen {P:Program} {fn:FuncId} {es:Array Event} {e:Event} (h:e∈seen P fn es):e∈es:=by
 unfold seen at h
 obtain ⟨l⟩:=es
 have key:∀ (l:List Event) (q:Bool) (kept:Array Event),e∈(l.foldl (fun (x:Bool × Array Event) e=>match e.loc with | .mark (.extern f)=>((P.funcs[f]?).any (·.norace),x.2) | _=>(x.1,if x.1 && !e.sync then x.2 else x.2.push e)) (q,kept)).2→e∈kept∨e∈l:=by
  intro l
  induction l with
  | nil=>exact fun q kept h=>.inl h
  | cons x l ih =>
   intro q kept h
   rw [List.foldl_cons] at h
   have:∀ q' kept',(∀ y∈kept',y∈kept∨y=x)→e∈(l.foldl (fun (x:Bool × Array Event) e=>match e.loc with | .mark (.extern f)=>((P.funcs[f]?).any (·.norace),x.2) | _=>(x.1,if x.1 && !e.sync then x.2 else x.2.push e)) (q',kept')).2→e∈kept∨e∈x :: l:=by
    intro q' kept' hk h
    rcases ih q' kept' h with h1 | h1
    ·rcases hk e h1 with h2 | rfl
     ·exact .inl h2
     ·exact .inr (by simp)
    ·exact .inr (by simp [h1])
   revert h
   dsimp only
   split
   ·exact this _ _ fun y hy=>.inl hy
   ·refine this _ _ fun y hy=>?_
    split at hy
    ·exact .inl hy
    ·rcases Array.mem_push.1 hy with h1 | h1
     ·exact .inl h1
     ·exact .inr h1
 have h':=key l ((P.funcs[fn]?).any (·.norace)) #[] (by dsimp only at h;rw [← Array.foldl_toList] at h;exact h)
 rcases h' with h1 | h1
 ·simp at h1
 ·simpa using h1
theorem nd_seen {P:Program} {fn:FuncId} {es:Array Event} (h:∀ x∈es,ND x):∀ x∈seen P fn es,ND x:=fun x hx=>h x (mem_seen hx)
section
variable {P:Program} {S:FuncId→Prop} {f0:FuncId} {F:Bool→List Frame→World→GStep} {mine:List Frame} {w:World}
theorem moves_to {fr':Frame} {mine':List Frame} (h:∀ main cs w,F main (mine ++ cs) w=.go (G fr' (mine' ++ cs)) w #[]) (hst:Stk f0 fr' mine') (hw:HeapOk OC w):Moves f0 F mine w 0 :=
 .inl ⟨fr',mine',w,#[],hst,hw,by simp,Nat.le_refl _,rfl,rfl,fun main cs τ d _=>h main cs (w.re τ d)⟩
theorem moves_bad (h:∀ cs w,GBad (F true (mine ++ cs) w)):Moves f0 F mine w 0:=.inr fun _ _ _ _=>h _ _
theorem Moves.congr {F':Bool→List Frame→World→GStep} {j:Nat} (h:Moves f0 F mine w j) (he:∀ main cs w,F' main cs w=F main cs w):Moves f0 F' mine w j:=by
 have:F'=F:=by funext m c w;exact he m c w
 rw [this];exact h
theorem moves_after {α:Type} {φ:α→Prop} {s:Sem α} {fn:FuncId} {K:Bool→List Frame→Result α→GStep} (hs:Fine P φ s w #[])
  (hF:∀ main cs w,F main cs w=GStep.after (seen P fn (s.runT P w #[]).2) (K main cs (s.runT P w #[]).1))
  (hk:∀ r,(match r with | .ok a _=>φ a | .halt h _=>OkHalt h)→HeapOk OC r.world→s.run P w=r→∃ j,Moves f0 (fun main cs w=>K main cs (Result.on r w)) mine r.world j):∃ j,Moves f0 F mine w j:=by
 obtain ⟨hfa,j,hd,ht,hl⟩:=hs
 cases hr:s.runT P w #[] with
 | mk r es =>
  rw [hr] at hfa hd ht hl
  obtain ⟨j',hm⟩:=hk r hfa.leaf hfa.heap (runT_run hr)
  refine ⟨j+j',?_⟩
  have hag:∀ τ d,Agree w (j+j') τ d→Agree r.world j' τ (d+j):=by
   intro τ d ha i hi q
   have hd1:r.world.drawn=w.drawn+j:=hd
   have ht1:r.world.tape=w.tape:=ht
   rw [hd1,ht1,show d+j+i=d+(j+i) from by omega,ha (j+i) (by omega) q,show w.drawn+(j+i)=w.drawn+j+i from by omega]
  have hrun:∀ main cs τ d,Agree w (j+j') τ d→F main cs (w.re τ d)=GStep.after (seen P fn es) (K main cs (Result.on r (r.world.re τ (d+j)))):=by
   intro main cs τ d ha
   rw [hF,hl τ d (ha.mono (by omega)),re_on]
  rcases hm with ⟨fr',mine',w',es',h1,h2,h3,h4,h5,h6,h7⟩ | hb
  ·refine .inl ⟨fr',mine',w',seen P fn es ++ es',h1,h2,?_,Nat.le_trans hfa.size h4,?_,h6.trans ht,fun main cs τ d ha=>?_⟩
   ·intro e he
    rcases Array.mem_append.1 he with h | h
    ·exact nd_seen (nd_none hfa.nd) e h
    ·exact h3 e h
   ·have:r.world.drawn=w.drawn+j:=hd
    omega
   ·have h8:=h7 main cs τ (d+j) (hag τ d ha)
    rw [hrun main _ τ d ha]
    rw [show (K main (mine ++ cs) (Result.on r (r.world.re τ (d+j))))=_ from h8]
    rw [show d+(j+j')=d+j+j' from by omega]
    rfl
  ·refine .inr fun cs τ d ha=>?_
   rw [hrun true _ τ d ha]
   exact bad_after (hb cs τ (d+j) (hag τ d ha))
theorem moves_apply {fr:Frame} {s:Sem Next} (hS:Sok P S) (hst:Stk f0 fr mine) (hs:Fine P (NextOk OC S fr.roundOf.isNone) s w #[]) :
  ∃ j,Moves f0 (fun _ cs w=>stepG.apply P true fr cs none s w) mine w j:=by
 have hk:=hst.ok
 have hearly:(fr.kind == CallKind.early)=false:=by rcases hk.kind with h | h <;> rw [h] <;> rfl
 have hno_call:∀ d r s k,fr.todo=.call d true r s :: k→False:=fun d r s k h=>by
  have:=hk.todo
  rw [h] at this
  exact (this (.call d true r s) (by simp)).elim
 obtain ⟨hfa,j,hd,ht,hl⟩:=hs
 refine ⟨j,?_⟩
 cases hr:s.runT P w #[] with
 | mk r es =>
  rw [hr] at hfa hd ht hl
  have hnd:=nd_seen (P:=P) (fn:=fr.fn) (nd_none hfa.nd)
  cases r with
  | ok x w' =>
   have key:∀ (fr':Frame) (mine':List Frame),Stk f0 fr' mine'→(∀ cs τ d,Agree w j τ d→stepG.apply P true fr (mine ++ cs) none s (w.re τ d)=.go (G fr' (mine' ++ cs)) (w'.re τ (d+j)) (seen P fr.fn es)) →
     Moves f0 (fun _ cs w=>stepG.apply P true fr cs none s w) mine w j :=
    fun fr' mine' h1 h2=>.inl ⟨fr',mine',w',_,h1,hfa.heap,hnd,hfa.size,hd,ht,fun _ cs τ d ha=>h2 cs τ d ha⟩
   have hx:=hfa.leaf
   cases x <;> first | (exact hx.elim) | skip
   case comm cases b sh =>
    refine .inr fun cs τ d ha=>?_
    unfold stepG.apply
    simp only [if_true,hl τ d ha,Result.re,hearly,Bool.false_eq_true,if_false]
    exact bad_after ⟨hx.2,hfa.heap⟩
   case spawn dd =>
    refine .inr fun cs τ d ha=>?_
    unfold stepG.apply
    simp only [if_true,hl τ d ha,Result.re,hearly,Bool.false_eq_true,if_false]
    refine bad_after (bad_ite ?_ ?_)
    ·exact ⟨rfl,_,rfl,rfl,rfl⟩
    ·trivial
   case value v =>
    refine key (fr.finish v) mine (hst.set (frOk_finish hk v).1 (frOk_finish hk v).2.1 (frOk_finish hk v).2.2.1 (frOk_finish hk v).2.2.2) fun cs τ d ha=>?_
    unfold stepG.apply
    simp only [if_true,hl τ d ha,Result.re,hearly,Bool.false_eq_true,if_false,GStep.after,Array.append_empty,G]
   case skip =>
    refine key (fr.finish undef) mine (hst.set (frOk_finish hk _).1 (frOk_finish hk _).2.1 (frOk_finish hk _).2.2.1 (frOk_finish hk _).2.2.2) fun cs τ d ha=>?_
    unfold stepG.apply
    simp only [if_true,hl τ d ha,Result.re,hearly,Bool.false_eq_true,if_false,GStep.after,Array.append_empty,G]
   case enter f args =>
    refine key (Frame.enter P f args .normal) (fr :: mine) (hst.push (frOk_enter hS hx args (.inl rfl))) fun cs τ d ha=>?_
    unfold stepG.apply
    simp only [if_true,hl τ d ha,Result.re,hearly,Bool.false_eq_true,if_false,GStep.after,Array.append_empty,G,List.cons_append]
   case round l f tmps assign body =>
    refine key (Frame.round l f tmps assign body .normal) (fr :: mine) (hst.push (frOk_round hx.1 hx.2 (.inl rfl))) fun cs τ d ha=>?_
    unfold stepG.apply
    simp only [if_true,hl τ d ha,Result.re,hearly,Bool.false_eq_true,if_false,GStep.after,Array.append_empty,G,List.cons_append]
   next df =>
    have h1:FrOk { fr with defers:=df :: fr.defers }:=⟨hk.todo,fun x hxx=>(List.mem_cons.1 hxx).elim (fun h=>h ▸ hx) (hk.defers x),hk.kind⟩
    have h2:=frOk_finish h1 undef
    refine key ({ fr with defers:=df :: fr.defers }.finish undef) mine (hst.set h2.1 h2.2.1 h2.2.2.1 h2.2.2.2) fun cs τ d ha=>?_
    unfold stepG.apply
    simp only [if_true,hl τ d ha,Result.re,hearly,Bool.false_eq_true,if_false,GStep.after,Array.append_empty,G]
   case recover =>
    have hro:fr.roundOf=none:=by
     have:fr.roundOf.isNone=true:=hx
     simpa using this
    have base:∀ cs τ d,Agree w j τ d→stepG.apply P true fr cs none s (w.re τ d)=GStep.after (seen P fr.fn es) (match tryRecover fr cs with
      | some (v,callers)=>.go { frame:=fr.finish v,callers,status:=.running,dying:=none } (w'.re τ (d+j))
      | none=>.go { frame:=fr.finish .nilIface,callers:=cs,status:=.running,dying:=none } (w'.re τ (d+j))):=by
     intro cs τ d ha
     unfold stepG.apply
     simp only [if_true,hl τ d ha,Result.re,hearly,Bool.false_eq_true,if_false,hro]
     rfl
    have nil:∀ v,Stk f0 (fr.finish v) mine:=fun v=>hst.set (frOk_finish hk v).1 (frOk_finish hk v).2.1 (frOk_finish hk v).2.2.1 (frOk_finish hk v).2.2.2
    have hno:(∀ cs,tryRecover fr (mine ++ cs)=none)→Moves f0 (fun _ cs w=>stepG.apply P true fr cs none s w) mine w j:=by
     intro hno
     refine key (fr.finish .nilIface) mine (nil _) fun cs τ d ha=>?_
     rw [base _ τ d ha,hno]
     simp [GStep.after,G]
    rcases hk.kind with hkk | hkk
    ·exact hno fun cs=>by unfold tryRecover;rw [hkk]
    ·cases mine with
     | nil=>have:=hst.2.2.1;rw [hkk] at this;cases this
     | cons c cs0 =>
      cases hm:c.mode with
      | run=>exact hno fun cs=>by unfold tryRecover;simp [hkk,hm]
      | returning=>exact hno fun cs=>by unfold tryRecover;simp [hkk,hm]
      | panicking chain =>
       cases chain with
       | nil=>exact hno fun cs=>by unfold tryRecover;simp [hkk,hm]
       | cons p older =>
        obtain ⟨v,rec,ge⟩:=p
        cases rec with
        | true=>exact hno fun cs=>by unfold tryRecover;simp [hkk,hm]
        | false =>
         cases ge with
         | true=>exact hno fun cs=>by unfold tryRecover;simp [hkk,hm]
         | false =>
          have hc:FrOk c:=hst.2.ok
          have hst2:Stk f0 (fr.finish v) ({ c with mode:=.panicking ({ v,recovered:=true } :: older) } :: cs0) :=
           ⟨(frOk_finish hk v).1,hst.2.set ⟨hc.todo,hc.defers,hc.kind⟩ rfl rfl rfl⟩
          refine key (fr.finish v) _ hst2 fun cs τ d ha=>?_
          rw [base _ τ d ha]
          have:tryRecover fr (c :: cs0 ++ cs)=some (v,{ c with mode:=.panicking ({ v,recovered:=true } :: older) } :: (cs0 ++ cs)):=by
           unfold tryRecover;simp [hkk,hm]
          rw [this]
          simp [GStep.after,G]
  | halt h w' =>
   have hx:=hfa.leaf
   have key:∀ (l:List PanicEntry),(∀ cs τ d,Agree w j τ d→stepG.apply P true fr (mine ++ cs) none s (w.re τ d)=.go (G (fr.raise l) (mine ++ cs)) (w'.re τ (d+j)) (seen P fr.fn es)) →
     Moves f0 (fun _ cs w=>stepG.apply P true fr cs none s w) mine w j :=
    fun l h2=>.inl ⟨fr.raise l,mine,w',_,hst.set (frOk_raise hk l).1 (frOk_raise hk l).2.1 (frOk_raise hk l).2.2.1 (frOk_raise hk l).2.2.2,hfa.heap,hnd,hfa.size,hd,ht,fun _ cs τ d ha=>h2 cs τ d ha⟩
   cases h <;> first | (exact hx.elim) | skip
   case panic v =>
    refine key [{ v,recovered:=false }] fun cs τ d ha=>?_
    unfold stepG.apply
    simp only [if_true,hl τ d ha,Result.re,hearly,Bool.false_eq_true,if_false,GStep.after,Array.append_empty,G]
   case goexit =>
    refine key [goexitEntry] fun cs τ d ha=>?_
    unfold stepG.apply
    simp only [if_true,hl τ d ha,Result.re,hearly,Bool.false_eq_true,if_false,GStep.after,Array.append_empty,G]
   all_goals
    refine .inr fun cs τ d ha=>?_
    unfold stepG.apply
    simp only [if_true,hl τ d ha,Result.re,hearly,Bool.false_eq_true,if_false]
   case exit c=>exact bad_after trivial
   case fatal m=>exact bad_after (bad_endFatal _ _ _ _ _)
   case throw m=>exact bad_after ⟨rfl,_,rfl,rfl,rfl⟩
   case unsupported u=>cases u <;> first | exact hx.elim | exact bad_after trivial
   case stuck m=>exact bad_after trivial
theorem mem_todo {fr:Frame} {x:Item} {k:List Item} (h:FrOk fr) (hk:fr.todo=x :: k):ItemOk fr.roundOf.isNone x∧∀ y∈k,ItemOk fr.roundOf.isNone y:=by
 have:=h.todo
 rw [hk] at this
 exact ⟨this x (by simp),fun y hy=>this y (by simp [hy])⟩
theorem frOk_todo {fr:Frame} (h:FrOk fr) {todo:List Item} (ht:∀ x∈todo,ItemOk fr.roundOf.isNone x):FrOk { fr with todo }:=⟨ht,h.defers,h.kind⟩
theorem ok_exitTo {r:Bool} {id:Nat}:∀ {k k':List Item},exitTo id k=some k'→(∀ y∈k,ItemOk r y)→∀ y∈k',ItemOk r y:=by
 intro k
 induction k with
 | nil=>intro k' h;simp [exitTo] at h
 | cons x k ih =>
  intro k' h hk
  have hk':∀ y∈k,ItemOk r y:=fun y hy=>hk y (by simp [hy])
  cases x <;> simp only [exitTo] at h <;> first
   | exact ih h hk'
   | (split at h
      ·cases h;exact hk'
      ·exact ih h hk')
theorem doReturn_moves {fr:Frame} {c:Frame} {rest:List Frame} {v:Value} (hk:fr.kind=.normal∨fr.kind=.deferred) (hst:Stk f0 c rest) :
  ∃ c',Stk f0 c' rest∧∀ main cs w,doReturn P main fr (c :: rest ++ cs) none v w=.go (G c' (rest ++ cs)) w #[]:=by
 rcases hk with hk | hk
 ·exact ⟨c.finish v,hst.set (frOk_finish hst.ok v).1 (frOk_finish hst.ok v).2.1 (frOk_finish hst.ok v).2.2.1 (frOk_finish hst.ok v).2.2.2,fun main cs w=>by
   simp only [doReturn,List.cons_append,hk,G]⟩
 ·refine ⟨match c.mode with
    | .panicking ({ recovered:=true,.. } :: older) =>
     match older.dropWhile (!·.goexit) with
     | []=>{ c with mode:=.returning }
     | rest=>{ c with mode:=.panicking rest }
    | _=>c,?_,fun main cs w=>by simp only [doReturn,List.cons_append,hk,G];rfl⟩
  have hm:∀ m,Stk f0 { c with mode:=m } rest:=fun m=>hst.set ⟨hst.ok.todo,hst.ok.defers,hst.ok.kind⟩ rfl rfl rfl
  split
  ·split
   ·exact hm _
   ·exact hm _
  ·exact hst
def plainJump:Option Code→Bool
 | none | some .ret=>true
 | _=>false
theorem leave_moves {fr:Frame} {jump:Option Code} (hst:Stk f0 fr mine) (hw:HeapOk OC w) (hj:∀ c,jump=some c→OC c)
  (hF:∀ main cs w,F main cs w=(match fr.roundOf with
   | none=>if plainJump jump then .go (G { fr with mode:=.returning } cs) w else .ended (.stuck "exit, goto: no such block or label" (fr.pos P)) w
   | some l =>
    let (r,es):=(Instr.endRound l jump).runT P w #[]
    GStep.after (seen P fr.fn es) <| match r with
    | .ok v w=>doReturn P main fr cs none v w
    | .halt _ w=>.ended (.stuck "range over a function: no such loop" (fr.pos P)) w)):∃ j,Moves f0 F mine w j:=by
 cases hro:fr.roundOf with
 | none =>
  by_cases h:plainJump jump=true
  ·refine ⟨0,moves_to (fr':={ fr with mode:=.returning }) (mine':=mine) (fun main cs w=>?_) (hst.set ⟨hst.ok.todo,hst.ok.defers,hst.ok.kind⟩ rfl rfl rfl) hw⟩
   rw [hF,hro]
   simp only [h,if_true]
  ·refine ⟨0,moves_bad fun cs w=>?_⟩
   rw [hF,hro]
   simp only [h]
   trivial
 | some l =>
  cases mine with
  | nil=>have:=hst.2.1;rw [hro] at this;cases this
  | cons c rest =>
   refine moves_after (fn:=fr.fn) (K:=fun main cs r=>match r with
    | .ok v w=>doReturn P main fr cs none v w
    | .halt _ w=>.ended (.stuck "range over a function: no such loop" (fr.pos P)) w) (fine_tame (tame_endRound hj) hw #[]) (fun main cs w=>by rw [hF,hro]) fun r hr hhr _=>?_
   cases r with
   | ok v w' =>
    obtain ⟨c',h1,h2⟩:=doReturn_moves (P:=P) (v:=v) hst.ok.kind hst.2
    exact ⟨0,moves_to (fun main cs w=>h2 main cs w) h1 hhr⟩
   | halt h w'=>exact ⟨0,moves_bad fun cs w=>trivial⟩
theorem exec_moves {fr:Frame} (hS:Sok P S) (hst:Stk f0 fr mine) (hw:HeapOk OC w) (hm:fr.mode=.run) (hl:∀ f,fr.about P w=some f→S f) :
  ∃ j,Moves f0 (fun main cs w=>stepG.exec P main true fr cs none w) mine w j:=by
 have hk:=hst.ok
 have to:∀ {todo:List Item} (h:∀ main cs w,stepG.exec P main true fr cs none w=.go (G { fr with todo } cs) w #[]) (ht:∀ x∈todo,ItemOk fr.roundOf.isNone x),
   ∃ j,Moves f0 (fun main cs w=>stepG.exec P main true fr cs none w) mine w j :=
  fun h ht=>⟨0,moves_to (fun main cs w=>h main _ w) (hst.set (frOk_todo hk ht) rfl rfl rfl) hw⟩
 have bad:(∀ main cs w,GBad (stepG.exec P main true fr cs none w))→∃ j,Moves f0 (fun main cs w=>stepG.exec P main true fr cs none w) mine w j :=
  fun h=>⟨0,moves_bad fun cs w=>h _ _ w⟩
 cases htd:fr.todo with
 | nil=>exact leave_moves (jump:=none) hst hw (by simp) fun main cs w=>by simp only [stepG.exec,htd];cases fr.roundOf <;> rfl
 | cons x k =>
  obtain ⟨hx,hkk⟩:=mem_todo hk htd
  cases x with
  | call d wr res sv=>exact hx.elim
  | extern row args=>exact hx.elim
  | inScope c=>exact to (todo:=k) (fun main cs w=>by simp only [stepG.exec,htd,G]) hkk
  | inBlock id=>exact to (todo:=k) (fun main cs w=>by simp only [stepG.exec,htd,G]) hkk
  | inLoop body =>
   refine to (todo:=.code body :: .inLoop body :: k) (fun main cs w=>by simp only [stepG.exec,htd,G]) fun y hy=>?_
   rcases List.mem_cons.1 hy with rfl | hy
   ·exact hx
   ·rcases List.mem_cons.1 hy with rfl | hy
    ·exact hx
    ·exact hkk y hy
  | beginRound =>
   refine (moves_apply (S:=S) hS hst (s:=do fr.roundOf.elim (stuck "beginRound: no round") Instr.beginRound;pure .skip) ?_).imp fun j h=>h.congr fun main cs w=>by simp only [stepG.exec,htd]
   cases hro:fr.roundOf with
   | none=>exact fine_tame (Tame.bind (φ:=fun _=>True) (fun _ _=>tame_pure (show NextOk OC S _ .skip from trivial)) (by exact tame_stuck)) hw #[]
   | some l=>exact fine_tame (Tame.bind (fun _ _=>tame_pure (show NextOk OC S _ .skip from trivial)) (tame_beginRound (l:=l))) hw #[]
  | inRangeFunc l=>exact bad fun main cs w=>by simp only [stepG.exec,htd];trivial
  | endRangeFunc l =>
   refine moves_after (fn:=fr.fn) (K:=fun main cs r=>match r with
    | .ok jump w=>.go (G { fr with todo:=(jump.map Item.code).toList ++ k } cs) w
    | .halt (.panic v) w=>.go (G (fr.raise [{ v,recovered:=false }]) cs) w
    | .halt _ w=>.ended (.stuck "range over a function: no such loop" (fr.pos P)) w) (fine_tame tame_endLoop hw #[]) (fun main cs w=>by simp only [stepG.exec,htd,G];rfl) fun r hr hhr _=>?_
   cases r with
   | ok jump w' =>
    refine ⟨0,moves_to (fun main cs w=>rfl) (hst.set (frOk_todo hk fun y hy=>?_) rfl rfl rfl) hhr⟩
    rcases List.mem_append.1 hy with hy | hy
    ·cases jump with
     | none=>simp at hy
     | some c =>
      simp only [Option.map_some,Option.toList_some,List.mem_singleton] at hy
      subst hy
      exact okCode_mono (hr c rfl)
    ·exact hkk y hy
   | halt h w' =>
    cases h with
    | panic v=>exact ⟨0,moves_to (fun main cs w=>rfl) (hst.set (frOk_raise hk _).1 (frOk_raise hk _).2.1 (frOk_raise hk _).2.2.1 (frOk_raise hk _).2.2.2) hhr⟩
    | _=>exact ⟨0,moves_bad fun cs w=>trivial⟩
  | inRegion ops todo =>
   cases todo with
   | nil=>exact to (todo:=k) (fun main cs w=>by simp only [stepG.exec,htd,G]) hkk
   | cons i rest =>
    by_cases hwt:(((ops[i]?).map (Region.wanted · (yielded ops fr.tmps))).getD false)=true
    ·cases hop:ops[i]? with
     | none=>rw [hop] at hwt;cases hwt
     | some o =>
      have hoo:okOp fr.roundOf.isNone o.op=true:=by
       have hx':(ops.all fun o=>okOp fr.roundOf.isNone o.op)=true:=hx
       rw [Array.all_eq_true] at hx'
       obtain ⟨hi,rfl⟩:=Array.getElem?_eq_some_iff.1 hop
       exact hx' i hi
      have hfo:fr.oper? = some o:=by unfold Frame.oper?;rw [htd];exact hop
      have hab:∀ f,o.about P w fr.eval=some f→S f:=by
       intro f hf
       refine hl f ?_
       unfold Frame.about
       simp only [hm,htd,hop]
       exact hf
      by_cases hdf:∃ l c,fr.roundOf=some l∧o.op=.defer c
      ·obtain ⟨l,c,hro,hoc⟩:=hdf
       have hoc':okCall false c=true:=by rw [hoc] at hoo;exact hoo
       refine (moves_apply (S:=S) hS hst (s:=do Instr.deferInRound l (← resolve fr.eval c o.type);pure .skip) ?_).imp fun j h=>h.congr fun main cs w=>by
        simp only [stepG.exec,htd,hwt,if_true,stepG.oper,hfo,hro,hoc]
       refine fine_tame ?_ hw #[]
       refine Tame.bind (fun d hd=>?_) (tame_resolve hoc')
       refine Tame.bind (fun _ _=>tame_pure (show NextOk OC S _ .skip from trivial)) (tame_deferInRound (tgt_okDef hd))
      ·refine (moves_apply (S:=S) hS hst (s:=execOp fr.eval o) (fine_execOp hS (fun _=>rfl) hoo hw hab)).imp fun j h=>h.congr fun main cs w=>?_
       simp only [stepG.exec,htd,hwt,if_true,stepG.oper,hfo]
       split
       ·rename_i l c h1 h2
        exact (hdf ⟨l,c,h1,h2⟩).elim
       ·rfl
    ·refine ⟨0,moves_to (fun main cs w=>?_) (hst.set (frOk_finish hk undef).1 (frOk_finish hk undef).2.1 (frOk_finish hk undef).2.2.1 (frOk_finish hk undef).2.2.2) hw⟩
     simp only [stepG.exec,htd,hwt,G]
     rfl
  | code c =>
   have hc:okCode fr.roundOf.isNone c=true:=hx
   cases c with
   | ret=>exact leave_moves (jump:=some .ret) hst hw (by rintro c h;cases h;rfl) fun main cs w=>by simp only [stepG.exec,htd];cases fr.roundOf <;> rfl
   | skip=>exact to (todo:=k) (fun main cs w=>by simp only [stepG.exec,htd,G]) hkk
   | label l=>exact to (todo:=k) (fun main cs w=>by simp only [stepG.exec,htd,G]) hkk
   | seq a b =>
    simp only [okCode,Bool.and_eq_true] at hc
    refine to (todo:=.code a :: .code b :: k) (fun main cs w=>by simp only [stepG.exec,htd,G]) fun y hy=>?_
    rcases List.mem_cons.1 hy with rfl | hy
    ·exact hc.1
    ·rcases List.mem_cons.1 hy with rfl | hy
     ·exact hc.2
     ·exact hkk y hy
   | cond e a b =>
    simp only [okCode,Bool.and_eq_true] at hc
    by_cases hb:∃ b,fr.eval e=.bool b
    ·obtain ⟨t,ht⟩:=hb
     refine to (todo:=.code (if t then a else b) :: k) (fun main cs w=>by simp only [stepG.exec,htd,ht,G]) fun y hy=>?_
     rcases List.mem_cons.1 hy with rfl | hy
     ·show okCode _ _=true
      cases t
      ·exact hc.2
      ·exact hc.1
     ·exact hkk y hy
    ·refine bad fun main cs w=>?_
     simp only [stepG.exec,htd]
     split
     ·rename_i b' h';exact (hb ⟨b',h'⟩).elim
     ·trivial
   | block id body =>
    refine to (todo:=.code body :: .inBlock id :: k) (fun main cs w=>by simp only [stepG.exec,htd,G]) fun y hy=>?_
    rcases List.mem_cons.1 hy with rfl | hy
    ·exact hc
    ·rcases List.mem_cons.1 hy with rfl | hy
     ·trivial
     ·exact hkk y hy
   | loop body =>
    refine to (todo:=.code body :: .inLoop body :: k) (fun main cs w=>by simp only [stepG.exec,htd,G]) fun y hy=>?_
    rcases List.mem_cons.1 hy with rfl | hy
    ·exact hc
    ·rcases List.mem_cons.1 hy with rfl | hy
     ·exact hc
     ·exact hkk y hy
   | scope body =>
    refine to (todo:=.code body :: .inScope body :: k) (fun main cs w=>by simp only [stepG.exec,htd,G]) fun y hy=>?_
    rcases List.mem_cons.1 hy with rfl | hy
    ·exact hc
    ·rcases List.mem_cons.1 hy with rfl | hy
     ·trivial
     ·exact hkk y hy
   | goto l=>cases hc
   | exit id =>
    cases he:exitTo id k with
    | some k'=>exact to (todo:=k') (fun main cs w=>by simp only [stepG.exec,htd,he,Option.elim_some,G]) (ok_exitTo he hkk)
    | none=>exact leave_moves (jump:=some (.exit id)) hst hw (by rintro c h;cases h;rfl) fun main cs w=>by simp only [stepG.exec,htd,he,Option.elim_none];cases fr.roundOf <;> rfl
   | refuse why=>exact bad fun main cs w=>by simp only [stepG.exec,htd];trivial
   | region id ops draw =>
    have hops:(ops.all fun o=>okOp fr.roundOf.isNone o.op)=true:=hc
    cases draw with
    | false =>
     refine to (todo:=.inRegion ops (List.range ops.size) :: k) (fun main cs w=>by simp only [stepG.exec,htd,G];rfl) fun y hy=>?_
     rcases List.mem_cons.1 hy with rfl | hy
     ·exact hops
     ·exact hkk y hy
    | true =>
     refine ⟨1,.inl ⟨{ fr with todo:=.inRegion ops (Region.schedule (P.follows .mixedOrders) ops (w.tape w.drawn (.order fr.fn id))) :: k },mine,{ w with drawn:=w.drawn+1 },#[],hst.set (frOk_todo hk fun y hy=>?_) rfl rfl rfl,hw,by simp,Nat.le_refl _,rfl,rfl,fun main cs τ d ha=>?_⟩⟩
     ·rcases List.mem_cons.1 hy with rfl | hy
      ·exact hops
      ·exact hkk y hy
     ·have h0:=ha 0 (by omega) (.order fr.fn id)
      simp only [Nat.add_zero] at h0
      simp only [stepG.exec,htd,G,choose,Sem.run,Question.forced,Question.cut,re_tape,re_drawn,h0,Bool.not_true,Bool.false_eq_true,if_false]
      rfl
   | rangeFunc f params assign body =>
    simp only [okCode,Bool.and_eq_true] at hc
    refine moves_after (fn:=fr.fn) (K:=fun main cs r=>match r with
     | .ok (l,mark) w=>stepG.apply P true { fr with todo:=.inRangeFunc l :: k,defers:=mark ++ fr.defers } cs none (do
       let d ← resolve ({ fr with todo:=.inRangeFunc l :: k,defers:=mark ++ fr.defers }:Frame).eval { callee:=.value f,args:=#[.const (.func (.yield l) #[] #[])],argTypes:=#[] } 0
       invoke d.target d.args) w
     | .halt _ w=>.ended (.stuck "range over a function: no such loop" (fr.pos P)) w) (fine_tame (tame_enterLoop hc.1 hc.2) hw #[]) (fun main cs w=>by simp only [stepG.exec,htd];rfl) fun r hr hhr hrun=>?_
    cases r with
    | halt h w'=>exact ⟨0,moves_bad fun cs w=>trivial⟩
    | ok lm w' =>
     obtain ⟨l,mark⟩:=lm
     have hfr:FrOk { fr with todo:=.inRangeFunc l :: k,defers:=mark ++ fr.defers }:=by
      refine ⟨fun y hy=>?_,fun d hd=>?_,hk.kind⟩
      ·rcases List.mem_cons.1 hy with rfl | hy
       ·trivial
       ·exact hkk y hy
      ·exact (List.mem_append.1 hd).elim (hr d) (hk.defers d)
     refine moves_apply (S:=S) hS (hst.set hfr rfl rfl rfl) ?_
     have heval:({ fr with todo:=.inRangeFunc l :: k,defers:=mark ++ fr.defers }:Frame).eval=fr.eval:=by funext x;cases x <;> rfl
     rw [heval]
     refine fine_bind (fine_tame (tame_resolve (r:=fr.roundOf.isNone) rfl) hhr #[]) fun d w1 es1 hw1 hd h1=>?_
     have hrun1:(resolve fr.eval { callee:=.value f,args:=#[.const (.func (.yield l) #[] #[])],argTypes:=#[] } 0).run P w'=.ok d w1:=runT_run h1
     refine fine_invoke hS hd hw1 fun g hg=>hl g ?_
     unfold Frame.about
     simp only [hm,htd,hrun,hrun1]
     exact hg
theorem callDeferred_moves {fr:Frame} {df:Deferred} (hS:Sok P S) (hst:Stk f0 fr mine) (hw:HeapOk OC w) (hd:OkDef df) (hl:∀ f,df.target.leads P w df.args=some f→S f) :
  ∃ j,Moves f0 (fun _ cs w=>callDeferred P fr cs none df w) mine w j:=by
 have hk:=hst.ok
 by_cases hnil:df.target=.nil∧∃ chain,fr.mode=.panicking chain
 ·obtain ⟨h1,chain,h2⟩:=hnil
  exact ⟨0,moves_bad fun cs w=>by unfold callDeferred;simp only [h1,h2];trivial⟩
 have hs:Fine P (NextOk OC S false) (invoke df.target df.args) w #[]:=fine_invoke hS (okDef_tgt hd) hw hl
 obtain ⟨hfa,j,hdr,ht,hloc⟩:=hs
 refine ⟨j,?_⟩
 cases hr:(invoke df.target df.args).runT P w #[] with
 | mk r es =>
  rw [hr] at hfa hdr ht hloc
  have hnd:=nd_seen (P:=P) (fn:=fr.fn) (nd_none hfa.nd)
  cases r with
  | ok x w' =>
   have key:∀ (fr':Frame) (mine':List Frame),Stk f0 fr' mine'→(∀ cs τ d',Agree w j τ d'→callDeferred P fr (mine ++ cs) none df (w.re τ d')=.go (G fr' (mine' ++ cs)) (w'.re τ (d'+j)) (seen P fr.fn es)) →
     Moves f0 (fun _ cs w=>callDeferred P fr cs none df w) mine w j :=
    fun fr' mine' h1 h2=>.inl ⟨fr',mine',w',_,h1,hfa.heap,hnd,hfa.size,hdr,ht,fun _ cs τ d ha=>h2 cs τ d ha⟩
   have hx:=hfa.leaf
   cases x <;> first | (exact hx.elim) | skip
   case recover=>cases (show false=true from hx)
   case enter f args =>
    refine key (Frame.enter P f args .deferred) (fr :: mine) (hst.push (frOk_enter hS hx args (.inr rfl))) fun cs τ d ha=>?_
    unfold callDeferred
    rw [if_neg (by intro h;apply hnil;revert h;cases df.target <;> cases fr.mode <;> simp)]
    simp only [hloc τ d ha,Result.re,GStep.after,Array.append_empty,G,List.cons_append]
   case round l f tmps assign body =>
    refine key (Frame.round l f tmps assign body .deferred) (fr :: mine) (hst.push (frOk_round hx.1 hx.2 (.inr rfl))) fun cs τ d ha=>?_
    unfold callDeferred
    rw [if_neg (by intro h;apply hnil;revert h;cases df.target <;> cases fr.mode <;> simp)]
    simp only [hloc τ d ha,Result.re,GStep.after,Array.append_empty,G,List.cons_append]
   all_goals
    refine key fr mine hst fun cs τ d ha=>?_
    unfold callDeferred
    rw [if_neg (by intro h;apply hnil;revert h;cases df.target <;> cases fr.mode <;> simp)]
    simp only [hloc τ d ha,Result.re,GStep.after,Array.append_empty,G]
  | halt h w' =>
   have hx:=hfa.leaf
   have key:∀ (l:List PanicEntry),(∀ cs τ d',Agree w j τ d'→callDeferred P fr (mine ++ cs) none df (w.re τ d')=.go (G (fr.raise l) (mine ++ cs)) (w'.re τ (d'+j)) (seen P fr.fn es)) →
     Moves f0 (fun _ cs w=>callDeferred P fr cs none df w) mine w j :=
    fun l h2=>.inl ⟨fr.raise l,mine,w',_,hst.set (frOk_raise hk l).1 (frOk_raise hk l).2.1 (frOk_raise hk l).2.2.1 (frOk_raise hk l).2.2.2,hfa.heap,hnd,hfa.size,hdr,ht,fun _ cs τ d ha=>h2 cs τ d ha⟩
   cases h <;> first | (exact hx.elim) | skip
   case panic v =>
    refine key [{ v,recovered:=false }] fun cs τ d ha=>?_
    unfold callDeferred
    rw [if_neg (by intro h;apply hnil;revert h;cases df.target <;> cases fr.mode <;> simp)]
    simp only [hloc τ d ha,Result.re,GStep.after,Array.append_empty,G]
   case goexit =>
    refine key [goexitEntry] fun cs τ d ha=>?_
    unfold callDeferred
    rw [if_neg (by intro h;apply hnil;revert h;cases df.target <;> cases fr.mode <;> simp)]
    simp only [hloc τ d ha,Result.re,GStep.after,Array.append_empty,G]
   all_goals
    refine .inr fun cs τ d ha=>?_
    unfold callDeferred
    dsimp only
    rw [if_neg (by intro h;apply hnil;revert h;cases df.target <;> cases fr.mode <;> simp)]
    simp only [hloc τ d ha,Result.re]
   case exit c=>exact bad_after trivial
   case fatal m=>exact bad_after (bad_endFatal _ _ _ _ _)
   case throw m=>exact bad_after ⟨rfl,_,rfl,rfl,rfl⟩
   case unsupported u=>exact bad_after trivial
   case stuck m=>exact bad_after trivial
theorem calm_results (fn:Func) (tmps:Array Value):Calm (results fn tmps):=by
 unfold results
 refine calm_bind (calm_mapM _ (fun c=>?_) _) fun vs=>inferInstance
 split
 ·infer_instance
 ·infer_instance
theorem unwind_moves {fr:Frame} (hS:Sok P S) (hst:Stk f0 fr mine) (hw:HeapOk OC w) (hm:fr.mode≠.run) (hbase:mine=[]→fr.defers≠[]) (hl:∀ f,fr.about P w=some f→S f) :
  ∃ j,Moves f0 (fun main cs w=>unwind P main fr cs none w) mine w j:=by
 have hk:=hst.ok
 cases hds:fr.defers with
 | cons d ds =>
  have hdd:OkDef d:=hk.defers d (by simp [hds])
  have hds':FrOk { fr with defers:=ds }:=⟨hk.todo,fun x hx=>hk.defers x (by simp [hds,hx]),hk.kind⟩
  by_cases hcol:∃ b,d.target=.collected b
  ·obtain ⟨b,hb⟩:=hcol
   obtain ⟨tg,args⟩:=d
   dsimp only at hb
   subst hb
   refine moves_after (fn:=fr.fn) (K:=fun main cs r=>match r with
    | .ok calls w=>.go (G { fr with defers:=calls ++ ds } cs) w
    | .halt _ w=>.ended (.stuck "the deferred calls of a range-over-func loop have been taken" (fr.pos P)) w) (fine_tame tame_takeDeferred hw #[]) (fun main cs w=>by simp only [unwind,hds,G];rfl) fun r hr hhr _=>?_
   cases r with
   | ok calls w' =>
    refine ⟨0,moves_to (fun main cs w=>rfl) (hst.set ⟨hk.todo,fun x hx=>?_,hk.kind⟩ rfl rfl rfl) hhr⟩
    exact (List.mem_append.1 hx).elim (hr x) (hds'.defers x)
   | halt h w'=>exact ⟨0,moves_bad fun cs w=>trivial⟩
  ·refine (callDeferred_moves (df:=d) hS (hst.set hds' rfl rfl rfl) hw hdd fun f hf=>hl f ?_).imp fun j h=>h.congr fun main cs w=>?_
   ·unfold Frame.about
    cases hmm:fr.mode with
    | run=>exact (hm hmm).elim
    | _=>simp only [hds];exact hf
   ·unfold unwind
    obtain ⟨tg,args⟩:=d
    simp only [hds]
    cases tg <;> first | rfl | exact (hcol ⟨_,rfl⟩).elim
 | nil =>
  cases mine with
  | nil=>exact (hbase rfl hds).elim
  | cons c rest =>
   cases hmm:fr.mode with
   | run=>exact (hm hmm).elim
   | panicking chain =>
    have hcat:fr.catches P=false:=by
     unfold Frame.catches
     split
     ·rename_i d wr resume sv k h1 h2
      exact (mem_todo hk h2).1.elim
     ·rfl
    refine ⟨0,moves_to (fr':=c.raise chain) (mine':=rest) (fun main cs w=>?_) (hst.2.set (frOk_raise hst.2.ok chain).1 (frOk_raise hst.2.ok chain).2.1 (frOk_raise hst.2.ok chain).2.2.1 (frOk_raise hst.2.ok chain).2.2.2) hw⟩
    simp only [unwind,hds,hmm,hcat,List.cons_append,G]
    rfl
   | returning =>
    cases hfn:P.funcs[fr.fn]? with
    | none =>
     obtain ⟨c',h1,h2⟩:=doReturn_moves (P:=P) (v:=fr.tmps.getD 0 undef) hk.kind hst.2
     exact ⟨0,moves_to (fun main cs w=>by simp only [unwind,hds,hmm,hfn];exact h2 main cs w) h1 hw⟩
    | some fn =>
     refine moves_after (fn:=fr.fn) (K:=fun main cs r=>match r with
      | .ok v w=>doReturn P main fr cs none v w
      | .halt (.stuck s) w=>.ended (.stuck s (fr.pos P)) w
      | .halt _ w=>.ended (.stuck "return: the result variables cannot be read" (fr.pos P)) w) (fine_tame (φ:=fun _=>True) ((calm_results fn fr.tmps).t OC P) hw #[]) (fun main cs w=>by simp only [unwind,hds,hmm,hfn];rfl) fun r hr hhr _=>?_
     cases r with
     | ok v w' =>
      obtain ⟨c',h1,h2⟩:=doReturn_moves (P:=P) (v:=v) hk.kind hst.2
      exact ⟨0,moves_to (fun main cs w=>h2 main cs w) h1 hhr⟩
     | halt h w'=>cases h <;> exact ⟨0,moves_bad fun cs w=>trivial⟩
theorem moves {fr:Frame} (hS:Sok P S) (hst:Stk f0 fr mine) (hw:HeapOk OC w) (hbase:mine=[]→fr.mode=.run∨fr.defers≠[]) (hl:∀ f,fr.about P w=some f→S f) :
  ∃ j,Moves f0 (fun main cs w=>stepG P main (G fr cs) w) mine w j:=by
 by_cases hm:fr.mode=.run
 ·refine (exec_moves hS hst hw hm hl).imp fun j h=>h.congr fun main cs w=>?_
  simp only [stepG,G,hm]
 ·refine (unwind_moves hS hst hw hm (fun h=>(hbase h).resolve_left hm) hl).imp fun j h=>h.congr fun main cs w=>?_
  simp only [stepG,G]
end
end Go.Tm
namespace Go.Tm
open Go
open Go.Conc (G solo stepT_solo)
section
variable {P:Program} {S:FuncId→Prop} {f0:FuncId}
theorem run_local {α:Type} {φ:α→Prop} {s:Sem α} (hs:Tame OC P φ s) {w:World} (hw:HeapOk OC w):∃ j,(s.run P w).world.drawn=w.drawn+j∧(s.run P w).world.tape=w.tape∧HeapOk OC (s.run P w).world∧∀ τ d,Agree w j τ d→s.run P (w.re τ d)=(s.run P w).re τ (d+j):=by
 obtain ⟨j,h1,h2,h3⟩:=runT_local s hs w #[] hw
 have e:∀ w,(s.runT P w #[]).1=s.run P w:=fun w=>by rw [Sem.runT_eq]
 have hf:=runT_facts s hs w #[] #[] 0 hw (by simp) (by omega)
 refine ⟨j,by rw [← e];exact h1,by rw [← e];exact h2,by rw [← e];exact hf.heap,fun τ d ha=>?_⟩
 rw [← e,← e,h3 τ d ha]
theorem step_size {m m':Machine} (h:step P m=.next m'):m.gs.size≤m'.gs.size:=stepT_size P m m' _ h
theorem steps_size {I:Machine→Prop} {m m':Machine} (h:StepsIn I P m m'):m.gs.size≤m'.gs.size:=by
 induction h with
 | refl=>exact Nat.le_refl _
 | head _ hs _ ih=>exact Nat.le_trans (step_size hs) ih
theorem step_ended {fr:Frame} {cs:List Frame} {w w':World} {o:Outcome} {es:Array Event} (h:stepG P true (G fr cs) w=.ended o w' es):step P (lone fr cs w)=.ended o w':=by
 refine step_lone_ended (w':=w') (o:=o) ?_
 rw [show stepG P true { frame:=fr,callers:=cs,status:=.running,dying:=none } w=_ from h]
 rfl
theorem step_go {fr:Frame} {cs:List Frame} {w w':World} {g:Goroutine} {es:Array Event} (h:stepG P true (G fr cs) w=.go g w' es):step P (lone fr cs w)=.next (solo g w'):=by
 exact Go.Conc.step_solo_go (rfl) h
theorem blocked_ends {a:Goroutine} {w:World} (h:a.status=.blocked) (m':Machine):step P (solo a w)≠.next m':=by
 simp only [step,stepT,move,ask,askOn,solo,runnable_eq,due,ahead,Goroutine.canRun]
 simp [List.range_succ,pure,h]
 generalize endWith _ _ _ _=e
 cases e <;> simp
theorem send_blocks {fr:Frame} {cs:List Frame} {w w':World} {g:Goroutine} {c:CommCase} {sh:CommShape} {es:Array Event} (h:stepG P true (G fr cs) w=.comm g #[c] true sh w' es) (hw:HeapOk OC w') {m1:Machine}
  (hs:step P (lone fr cs w)=.next m1):∃ a,a.status=.blocked∧m1=solo a w':=by
 have hs':(stepT P (solo (G fr cs) w)).1=.next m1:=hs
 rw [stepT_solo rfl] at hs'
 have e0:solo (G fr cs) w=Go.Conc.crowd #[G fr cs] w none:=rfl
 rw [e0] at hs'
 have hi:(#[G fr cs]:Array Goroutine)[0]? = some (G fr cs):=rfl
 have h':stepG P (0 == 0) (G fr cs) w=.comm g #[c] true sh w' es:=h
 by_cases hill:Go.Conc.illMade w' c=true
 ·exfalso
  rw [Go.Conc.runT_crowd_comm hi h'] at hs'
  have hany:(#[(c:CommCase)]).any (Go.Conc.illMade w')=true:=by simp [hill]
  have hcomm:∀ rest gs,communicate P rest gs 0 g #[c] true sh w'=(.ended (.stuck "a communication at a channel whose block is no channel's" (g.frame.pos P)) w',#[]):=fun rest gs=>by
   unfold communicate
   exact if_pos hany
  rw [hcomm] at hs'
  cases hs'
 ·have hno:∀ cc∈#[(c:CommCase)],Go.Conc.NoWays w' ((#[G fr cs]:Array Goroutine).setIfInBounds 0 Go.Conc.ph) cc:=by
   intro cc hcc
   simp only [List.mem_toArray,List.mem_singleton] at hcc
   have hf:Go.Conc.illMade w' c=false:=by simpa using hill
   rw [hcc]
   refine ⟨hf,?_⟩
   unfold ways
   unfold Go.Conc.illMade at hf
   cases hch:c.chan with
   | chan r =>
    rw [hch] at hf
    cases r with
    | none=>rfl
    | some r =>
     dsimp only at hf ⊢
     cases ho:w'.heap[r]? with
     | none=>rfl
     | some o =>
      rw [ho] at hf
      cases o with
      | chan cap buf closed st rc tm =>
       obtain ⟨rfl,rfl,rfl⟩:=hw r _ ho
       have hp:∀ b,partners #[Go.Conc.ph] r b=[]:=by
        intro b
        refine Go.Conc.partners_nil fun j y hy=>?_
        have hj:j=0:=by have:j < 1:=(Array.getElem?_eq_some_iff.1 hy).1;omega
        subst hj
        cases hy
        exact Go.Conc.offersAt_ph _ _
       cases c.send <;> simp [hp]
      | _=>cases hf
   | _=>rfl
  rw [Go.Conc.crowd_waits hi h' hno] at hs'
  cases hs'
  exact ⟨_,rfl,rfl⟩
inductive Term (P:Program) (Stop:Frame→List Frame→World→Prop):Frame→List Frame→World→Prop
 | stop {fr mine w}:Stop fr mine w→Term P Stop fr mine w
 | step {fr mine w} (fr':Nat→Frame) (mine':Nat→List Frame) (w':Nat→World) (es:Nat→Array Event):(∀ d,∀ e∈es d,ND e)→(∀ d,w.heap.size≤(w' d).heap.size) →
   (∀ d main cs,stepG P main (G fr (mine ++ cs)) (w.at d)=.go (G (fr' d) (mine' d ++ cs)) (w' d) (es d))→(∀ d,Term P Stop (fr' d) (mine' d) (w' d))→Term P Stop fr mine w
theorem Term.step' {Stop:Frame→List Frame→World→Prop} {fr:Frame} {mine:List Frame} {w:World}
  (h:∀ d,∃ fr' mine' w' es,(∀ e∈es,ND e)∧w.heap.size≤w'.heap.size∧(∀ main cs,stepG P main (G fr (mine ++ cs)) (w.at d)=.go (G fr' (mine' ++ cs)) w' es)∧Term P Stop fr' mine' w'):Term P Stop fr mine w:=by
 have a:=fun d=>Classical.choose_spec (h d)
 have b:=fun d=>Classical.choose_spec (a d)
 have c:=fun d=>Classical.choose_spec (b d)
 have e:=fun d=>Classical.choose_spec (c d)
 exact .step _ _ _ _ (fun d=>(e d).1) (fun d=>(e d).2.1) (fun d=>(e d).2.2.1) (fun d=>(e d).2.2.2)
structure Cfg (P:Program) (f0:FuncId) (Stop:Frame→List Frame→World→Prop) (T:Nat→Question→Nat) where
 fr:Frame
 mine:List Frame
 w:World
 stk:Stk f0 fr mine
 heap:HeapOk OC w
 not:¬ Term P Stop fr mine w
 tape:w.tape=T
def SH (f0:FuncId) (Stop:Frame→List Frame→World→Prop):Frame→List Frame→World→Prop:=fun fr mine w=>Stop fr mine w∧HeapOk OC w∧Stk f0 fr mine
end
end Go.Tm
namespace Go.Tm
open Go
open Go.Conc
def noShun:Go.Loc→Prop:=fun _=>False
theorem low_ex (x:MemAct):∃ B,x.low B:=by
 cases x with
 | access e =>
  obtain ⟨l,wr,sy⟩:=e
  cases l with
  | cell a=>exact ⟨a.block+1,Nat.lt_succ_self _⟩
  | obj r=>exact ⟨r+1,Nat.lt_succ_self _⟩
  | _=>exact ⟨0,trivial⟩
 | mark m=>cases m with
  | acquire a | release a | releaseMerge a | read a | write a=>exact ⟨a.block+1,Nat.lt_succ_self _⟩
  | _=>exact ⟨0,trivial⟩
 | go _ | start=>exact ⟨0,trivial⟩
 | send c _ | sendDone c _ | recv c _ _ | recvDone c _ | close c | recvClosed c=>exact ⟨c+1,Nat.lt_succ_self _⟩
theorem low_all (es:Array Event):∃ B,∀ e∈es,(MemAct.ofEvent e).low B:=by
 obtain ⟨l⟩:=es
 induction l with
 | nil=>exact ⟨0,by simp⟩
 | cons e l ih =>
  obtain ⟨B,hB⟩:=ih
  obtain ⟨B',hB'⟩:=low_ex (MemAct.ofEvent e)
  refine ⟨B+B',fun x hx=>?_⟩
  simp only [List.mem_toArray,List.mem_cons] at hx
  rcases hx with rfl | hx
  ·exact MemAct.low_mono (by omega) hB'
  ·exact MemAct.low_mono (by omega) (hB x (by simpa using hx))
def Past' (t:Trace):Prop:=∃ B,Past noShun B t
theorem Past'.own {t:Trace} (h:Past' t) {fn:FuncId} {pos:String} {es:Array Event} (hes:∀ e∈es,ND e):Past' (t ++ MemOp.ofEvents 0 fn pos es):=by
 obtain ⟨B,h⟩:=h
 obtain ⟨B',hB'⟩:=low_all es
 refine ⟨B+B',(h.mono (by omega)).own fun e he=>⟨fun x hx hs=>hs.elim,(hes e he).1,(hes e he).2,MemAct.low_mono (by omega) (hB' e he)⟩⟩
theorem Past'.mute {t:Trace} (h:Past' t) {g:Nat} (hg:g≠0) {fn:FuncId} {pos:String} {es:Array Event} (hm:∀ e∈es,e.mute=true):Past' (t ++ MemOp.ofEvents g fn pos es):=by
 obtain ⟨B,h⟩:=h
 exact ⟨B,h.mute hg hm⟩
structure Com (P:Program) (gs:Array Goroutine) (a:Goroutine) (t:Trace):Prop where
 zero:gs[0]? = some a
 old:∃ q,Leavers P t gs q
 past:Past' t
def ToB (P:Program) (a:Goroutine) (w:World) (Q:Goroutine→World→Prop):Prop :=
 ∀ gs sl t d,Com P gs a t→∃ N gs' a' w' sl' t',runNT P N (crowd gs (w.at d) sl) t=(.next (crowd gs' w' sl'),t')∧Com P gs' a' t'∧Q a' w'
section
variable {P:Program}
theorem runNT_add (N M:Nat) (m:Machine) (t:Trace) (m':Machine) (t':Trace) (h:runNT P N m t=(.next m',t')):runNT P (N+M) m t=runNT P M m' t':=by
 induction N generalizing m t with
 | zero=>cases h;rw [Nat.zero_add]
 | succ N ih =>
  rw [show N+1+M=(N+M)+1 from by omega]
  simp only [runNT] at h ⊢
  cases hs:stepT P m with
  | mk s ops =>
   rw [hs] at h
   cases s with
   | next m1=>exact ih _ _ h
   | ended o w=>cases h
theorem ToB.mono {a:Goroutine} {w:World} {Q Q':Goroutine→World→Prop} (h:ToB P a w Q) (hq:∀ a w,Q a w→Q' a w):ToB P a w Q' :=
 fun gs sl t d hc=>let ⟨N,gs',a',w',sl',t',h1,h2,h3⟩:=h gs sl t d hc;⟨N,gs',a',w',sl',t',h1,h2,hq _ _ h3⟩
theorem ToB.bind {a:Goroutine} {w:World} {Q Q':Goroutine→World→Prop} (h:ToB P a w Q) (hq:∀ a w,Q a w→ToB P a w Q'):ToB P a w Q':=by
 intro gs sl t d hc
 obtain ⟨N,gs',a',w',sl',t',h1,h2,h3⟩:=h gs sl t d hc
 obtain ⟨M,gs2,a2,w2,sl2,t2,h4,h5,h6⟩:=hq a' w' h3 gs' sl' t' w'.drawn h2
 refine ⟨N+M,gs2,a2,w2,sl2,t2,?_,h5,h6⟩
 rw [runNT_add N M _ _ _ _ h1]
 exact h4
theorem ToB.at {a:Goroutine} {w:World} {Q:Goroutine→World→Prop} {d:Nat} (h:ToB P a w Q):ToB P a (w.at d) Q:=fun gs sl t d' hc=>h gs sl t d' hc
theorem toB_step {a:Goroutine} {w:World} {Q:Goroutine→World→Prop} (ha:a.status=.running)
  (h:∀ d,∃ a' w' es,stepG P true a (w.at d)=.go a' w' es∧(∀ e∈es,ND e)∧ToB P a' w' Q):ToB P a w Q:=by
 intro gs sl t d hc
 obtain ⟨h0,⟨q,hL⟩,hP⟩:=hc
 have key:∀ (M:Nat) (gs:Array Goroutine) (sl:Option (Nat × Nat)) (t:Trace) (d:Nat) (q:Nat→Nat),Go.ConcN.sumTo gs.size q≤M→gs[0]? = some a→Leavers P t gs q→Past' t →
   ∃ N gs' a' w' sl' t',runNT P N (crowd gs (w.at d) sl) t=(.next (crowd gs' w' sl'),t')∧Com P gs' a' t'∧Q a' w':=by
  intro M
  induction M using Nat.strongRecOn with
  | _ M ih =>
   intro gs sl t d q hM h0 hL hP
   have haw:∀ g∈gs,awake g:=by
    intro g hg
    obtain ⟨i,hi,rfl⟩:=Array.mem_iff_getElem.1 hg
    rcases Nat.eq_zero_or_pos i with rfl | hpos
    ·have:gs[0]=a:=by simpa [Array.getElem?_eq_getElem hi] using h0
     rw [this];exact awake_of (.inl ha)
    ·exact awake_of ((hL.old i _ hpos (Array.getElem?_eq_getElem hi)).status.elim .inl fun x=>.inr (.inr x))
   obtain ⟨i,g,d',sl',hi,hg,hst⟩:=crowd_pick (P:=P) (w:=w.at d) (sl:=sl) haw ⟨0,a,h0,ha⟩
   rcases Nat.eq_zero_or_pos i with rfl | hpos
   ·obtain rfl:g=a:=by rw [h0] at hi;exact (Option.some.inj hi).symm
    obtain ⟨a',w',es,hgo,hnd,hrest⟩:=h d'
    have hrunT:=runT_crowd_go (P:=P) (sl:=sl') (i:=0) hi (show stepG P (0 == 0) g (w.at d')=_ from hgo)
    have hlt:0 < gs.size:=(Array.getElem?_eq_some_iff.1 h0).1
    obtain ⟨N,gs',a'',w'',sl'',t',hr,hC,hQ⟩:=hrest ((gs.map (woken P g a' w')).setIfInBounds 0 a') sl' (t ++ MemOp.ofEvents 0 g.frame.fn g.frame.place es) w'.drawn
     ⟨by simp [hlt],⟨q,⟨fun j x hj hx=>by
      have hne:0≠j:=by omega
      rw [Array.getElem?_setIfInBounds_ne hne,Array.getElem?_map] at hx
      obtain ⟨y,hy,rfl⟩:=Option.map_eq_some_iff.1 hx
      have hq:=hL.old j y hj hy
      rw [woken_quitsD hq,Deaf_other t (by omega) _ (fun op hop=>by obtain ⟨e,_,rfl⟩:=Go.Conc.mem_ofEvents hop;rfl)]
      exact hq,fun j hj=>by
      rw [Deaf_other t (g':=0) (by simp at hj;omega) _ (fun op hop=>by obtain ⟨e,_,rfl⟩:=Go.Conc.mem_ofEvents hop;rfl)]
      exact hL.above j (by simpa using hj)⟩⟩,hP.own hnd⟩
    refine ⟨N+1,gs',a'',w'',sl'',t',?_,hC,hQ⟩
    simp only [runNT,hst]
    rw [show ((w.at d).at d')=w.at d' from rfl,hrunT]
    exact hr
   ·have hq:=hL.old i g hpos hi
    have hi0:(i == 0)=false:=by simp;omega
    have hlt:i < gs.size:=(Array.getElem?_eq_some_iff.1 hi).1
    cases hqi:q i with
    | zero=>rw [hqi] at hq;rw [hq.1] at hg;cases hg
    | succ k =>
     rw [hqi] at hq
     rcases hq with ⟨hf,_⟩ | ⟨_,g',es,hm,hstp,hq'⟩
     ·rw [hf] at hg;cases hg
     have hsum:Go.ConcN.sumTo gs.size (Go.ConcN.upd q i k)+(k+1)=Go.ConcN.sumTo gs.size q+k:=by
      have:=Go.ConcN.sumTo_upd q k id hlt
      simpa [hqi] using this
     have hrunT:=runT_crowd_go (P:=P) (sl:=sl') (i:=i) hi (by rw [hi0];exact hstp (w.at d'))
     have hsz:((gs.map (woken P g g' (w.at d'))).setIfInBounds i g').size=gs.size:=by simp
     obtain ⟨N,gs',a'',w'',sl'',t',hr,hC,hQ⟩:=ih (M - 1) (by omega) ((gs.map (woken P g g' (w.at d'))).setIfInBounds i g') sl' (t ++ MemOp.ofEvents i g.frame.fn g.frame.place es) d' (Go.ConcN.upd q i k) (by rw [hsz];omega)
      (by
       have hne:i≠0:=by omega
       rw [Array.getElem?_setIfInBounds_ne hne,Array.getElem?_map,h0]
       simp [woken_run ha])
      ⟨fun j x hj hx=>by
       by_cases hji:i=j
       ·subst hji
        rw [Array.getElem?_setIfInBounds_self_of_lt (by simpa using hlt)] at hx
        obtain rfl:=Option.some.inj hx
        rw [Go.ConcN.upd_same,Deaf_own]
        exact hq'
       ·rw [Array.getElem?_setIfInBounds_ne hji,Array.getElem?_map] at hx
        obtain ⟨y,hy,rfl⟩:=Option.map_eq_some_iff.1 hx
        have hqj:=hL.old j y hj hy
        rw [woken_quitsD hqj,Go.ConcN.upd_ne q k (Ne.symm hji),Deaf_other t hji _ (fun op hop=>by obtain ⟨e,_,rfl⟩:=Go.Conc.mem_ofEvents hop;rfl)]
        exact hqj,fun j hj=>by
       rw [Deaf_other t (g':=i) (by simp at hj;omega) _ (fun op hop=>by obtain ⟨e,_,rfl⟩:=Go.Conc.mem_ofEvents hop;rfl)]
       exact hL.above j (by simpa using hj)⟩
      (hP.mute (by omega) hm)
     refine ⟨N+1,gs',a'',w'',sl'',t',?_,hC,hQ⟩
     simp only [runNT,hst]
     rw [show ((w.at d).at d')=w.at d' from rfl,hrunT]
     exact hr
 exact key _ gs sl t d q (Nat.le_refl _) h0 hL hP
theorem toB_here {a:Goroutine} {w:World} {Q:Goroutine→World→Prop} (h:∀ d,Q a (w.at d)):ToB P a w Q :=
 fun gs sl t d hc=>⟨0,gs,a,w.at d,sl,t,rfl,hc,h d⟩
theorem toB_of_term {Stop:Frame→List Frame→World→Prop} (hstop:∀ fr mine w d,Stop fr mine w→Stop fr mine (w.at d)) {fr:Frame} {mine:List Frame} {w:World} (h:Term P Stop fr mine w) (cs:List Frame) :
  ToB P (G fr (mine ++ cs)) w (fun a' w'=>∃ fr' mine',a'=G fr' (mine' ++ cs)∧Stop fr' mine' w'):=by
 induction h with
 | stop hs=>exact toB_here fun d=>⟨_,_,rfl,hstop _ _ _ _ hs⟩
 | step fr' mine' w' es hnd hsz hstep _ ih=>exact toB_step rfl fun d=>⟨_,_,_,hstep d true cs,hnd d,ih d⟩
end
end Go.Tm
namespace Go.Tm
open Go
open Go.Conc
def Ins (R:Ending→World→Prop):Prop:=∀ e w τ d,R e w→R e (w.re τ d)
def CallsB (P:Program) (f:FuncId) (args:Array Value) (w:World) (R:Ending→World→Prop):Prop :=
 ∀ cs,ToB P (G (Frame.enter P f args .normal) cs) w (fun a' w'=>∃ e fr,a'=G fr cs∧R e w'∧fr.fn=f∧fr.leaving P w' e∧e≠.outgrown∧HeapOk OC w')
section
variable {P:Program} {f0:FuncId}
theorem leaving_re {fr:Frame} {w:World} {e:Ending} (hw:HeapOk OC w) (h:fr.leaving P w e) (τ:Nat→Question→Nat) (d:Nat):fr.leaving P (w.re τ d) e:=by
 cases e with
 | outgrown=>trivial
 | panicked chain=>exact h
 | returned v =>
  obtain ⟨hm,hd,hk,fn,hf,hr⟩:=h
  obtain ⟨j,h1,h2,h3,h4⟩:=run_local (P:=P) (φ:=fun _=>True) (s:=results fn fr.tmps) ((calm_results fn fr.tmps).t OC P) hw
  rw [hr] at h1 h4
  have hj:j=0:=by have:w.drawn=w.drawn+j:=h1;omega
  subst hj
  exact ⟨hm,hd,hk,fn,hf,h4 τ d (fun i hi=>by omega)⟩
theorem stk_enter {S:FuncId→Prop} (hS:Sok P S) {f:FuncId} (hf:S f) (args:Array Value):Stk f (Frame.enter P f args .normal) []:=⟨frOk_enter hS hf args (.inl rfl),rfl,rfl,rfl⟩
theorem CallsB.mono {f:FuncId} {args:Array Value} {w:World} {R R':Ending→World→Prop} (h:CallsB P f args w R) (hr:∀ e w,R e w→R' e w):CallsB P f args w R' :=
 fun cs=>(h cs).mono fun _ _ ⟨e,fr,h1,h2,h3⟩=>⟨e,fr,h1,hr _ _ h2,h3⟩
section
variable {b:Frame} {a:Act} {k:List Item} {cs:List Frame} {w:World} {Q:Goroutine→World→Prop}
theorem toB_move {fr fr':Frame} (h:∀ w,stepG P true (G fr cs) w=.go (G fr' cs) w) (h':ToB P (G fr' cs) w Q):ToB P (G fr cs) w Q :=
 toB_step rfl fun d=>⟨_,_,_,h _,by simp,h'.at⟩
theorem toB_block {id:Nat} {c:Code} (h:ToB P (G (b.at a (.code c :: .inBlock id :: k)) cs) w Q):ToB P (G (b.at a (.code (.block id c) :: k)) cs) w Q:=toB_move (fun _=>stepG_block) h
theorem toB_loop {c:Code} (h:ToB P (G (b.at a (.code c :: .inLoop c :: k)) cs) w Q):ToB P (G (b.at a (.code (.loop c) :: k)) cs) w Q:=toB_move (fun _=>stepG_loop) h
theorem toB_ret (h:ToB P (G { b.at a (.code .ret :: k) with mode:=.returning } cs) w Q):ToB P (G (b.at a (.code .ret :: k)) cs) w Q:=toB_move (fun _=>stepG_ret') h
theorem nd_listed {S:FuncId→Prop} (hS:Sok P S) {r:Bool} {fn:FuncId} {o:Oper} (ho:okOp r o.op=true) (hw:HeapOk OC w) (hl:∀ f,o.about P w a.eval=some f→S f) :
  (∀ e∈listed P fn a o w,ND e)∧∀ x w',(execOp a.eval o).run P w=.ok x w'→HeapOk OC w':=by
 have hf:=(fine_execOp hS (fun _=>rfl) ho hw hl (es:=#[])).facts
 have hnd:=nd_none hf.nd
 rw [Sem.runT_eq] at hnd hf
 refine ⟨fun e he=>?_,fun x w' hr=>?_⟩
 ·unfold listed at he
  exact hnd e (mem_seen he)
 ·have:=hf.heap
  rw [hr] at this
  exact this
def UponB (P:Program) (o:Oper) (b:Frame) (a:Act) (ops:Array Oper) (i:Nat) (rest:List Nat) (k:List Item) (cs:List Frame) (Q:Goroutine→World→Prop):Result Next→Prop
 | .ok (.value v) w'=>HeapOk OC w'→ToB P (G (b.at (a.put o.dst v) (.inRegion ops rest :: k)) cs) w' Q
 | .ok .skip w'=>HeapOk OC w'→ToB P (G (b.at (a.put o.dst undef) (.inRegion ops rest :: k)) cs) w' Q
 | .ok (.enter f args) w'=>HeapOk OC w'→ToB P (G (Frame.enter P f args .normal) (b.at a (.inRegion ops (i :: rest) :: k) :: cs)) w' Q
 | .ok (.defer df) w'=>HeapOk OC w'→ToB P (G (b.at ({ a with defers:=df :: a.defers }.put o.dst undef) (.inRegion ops rest :: k)) cs) w' Q
 | _=>False
theorem toB_op {S:FuncId→Prop} (hS:Sok P S) {ops:Array Oper} {i:Nat} {rest:List Nat} {o:Oper} {r:Bool} (ho:ops[i]? = some o) (hwt:Region.wanted o (yielded ops a.tmps)=true) (hk:b.kind≠.early) (hok:okOp r o.op=true)
  (hw:HeapOk OC w) (hl:∀ d f,o.about P (w.at d) a.eval=some f→S f) (h:∀ d,UponB P o b a ops i rest k cs Q ((execOp a.eval o).run P (w.at d))) :
  ToB P (G (b.at a (.inRegion ops (i :: rest) :: k)) cs) w Q:=by
 refine toB_step rfl fun d=>?_
 obtain ⟨hnd,hh⟩:=nd_listed (P:=P) (a:=a) (w:=w.at d) (fn:=b.fn) hS hok hw (hl d)
 have hd:=h d
 cases hr:(execOp a.eval o).run P (w.at d) with
 | halt hh w'=>rw [hr] at hd;exact hd.elim
 | ok x w' =>
  have hw':=hh x w' hr
  rw [hr] at hd
  cases x <;> first | exact hd.elim | skip
  case value v=>exact ⟨_,_,_,stepG_value ho hwt hk hr,hnd,hd hw'⟩
  case skip=>exact ⟨_,_,_,stepG_none ho hwt hk hr,hnd,hd hw'⟩
  case enter f args=>exact ⟨_,_,_,stepG_enter ho hwt hk hr,hnd,hd hw'⟩
  next df =>
   refine ⟨_,_,_,?_,hnd,hd hw'⟩
   have hfin:({ b.at a (.inRegion ops (i :: rest) :: k) with defers:=df :: a.defers }:Frame).finish undef=b.at ({ a with defers:=df :: a.defers }.put o.dst undef) (.inRegion ops rest :: k):=by
    have:=Frame.finish_at b { a with defers:=df :: a.defers } ops i rest k undef
    rw [ho] at this
    exact this
   have hk':(b.kind == CallKind.early)=false:=by simpa using hk
   rw [stepG_oper ho hwt]
   have hfin':=hfin
   simp only [Frame.at] at hfin' ⊢
   simp only [stepG.apply,if_true,Sem.runT_eq,hr,hk',Bool.false_eq_true,if_false,GStep.after,Array.append_empty,hfin',G,listed]
theorem toB_returned {fr c:Frame} {v:Value} (hw:HeapOk OC w) (h:fr.leaving P w (.returned v)) (h':ToB P (G (c.finish v) cs) w Q):ToB P (G fr (c :: cs)) w Q:=by
 refine toB_step rfl fun d=>?_
 obtain ⟨hm,hd,hk,fn,hf,hr⟩:=leaving_re hw h w.tape d
 refine ⟨G (c.finish v) cs,w.at d,seen P fr.fn ((results fn fr.tmps).events P (w.at d) #[]),?_,?_,h'.at⟩
 ·have hr':(results fn fr.tmps).run P (w.at d)=.ok v (w.at d):=hr
  have hu:stepG P true (G fr (c :: cs)) (w.at d)=unwind P true fr (c :: cs) none (w.at d):=by simp only [stepG,G,hm]
  rw [hu]
  simp only [unwind,hd,hm,hf,Sem.runT_eq,hr',doReturn,hk,GStep.after,Array.append_empty,G]
 ·have hf':=runT_facts (P:=P) (C:=OC) (φ:=fun _=>True) (results fn fr.tmps) ((calm_results fn fr.tmps).t OC P) (w.at d) #[] #[] 0 hw (by simp) (by omega)
  have:=nd_none hf'.nd
  rw [Sem.runT_eq] at this
  exact nd_seen this
theorem toB_panicked {fr c:Frame} {chain:List PanicEntry} (h:fr.leaving P w (.panicked chain)) (h':ToB P (G (c.raise chain) cs) w Q):ToB P (G fr (c :: cs)) w Q:=by
 obtain ⟨hm,hd,fn,hf⟩:=h
 refine toB_step rfl fun d=>⟨G (c.raise chain) cs,w.at d,#[],?_,by simp,h'.at⟩
 have hu:stepG P true (G fr (c :: cs)) (w.at d)=unwind P true fr (c :: cs) none (w.at d):=by simp only [stepG,G,hm]
 rw [hu]
 simp [unwind,Frame.catches,hm,hd,hf,G]
theorem toB_called {ops:Array Oper} {i:Nat} {rest:List Nat} {o:Oper} {f:FuncId} {args:Array Value} {R:Ending→World→Prop} (ho:ops[i]? = some o) (hc:CallsB P f args w R)
  (hret:∀ v w',R (.returned v) w'→HeapOk OC w'→ToB P (G (b.at (a.put o.dst v) (.inRegion ops rest :: k)) cs) w' Q)
  (hpan:∀ ch w',R (.panicked ch) w'→HeapOk OC w'→ToB P (G ((b.at a (.inRegion ops (i :: rest) :: k)).raise ch) cs) w' Q) :
  ToB P (G (Frame.enter P f args .normal) (b.at a (.inRegion ops (i :: rest) :: k) :: cs)) w Q:=by
 refine (hc _).bind fun a' w' ⟨e,fr,h1,h2,h3,h4,h5,h6⟩=>?_
 subst h1
 cases e with
 | outgrown=>exact (h5 rfl).elim
 | panicked ch=>exact toB_panicked h4 (hpan ch w' h2 h6)
 | returned v =>
  refine toB_returned h6 h4 ?_
  rw [Frame.finish_at,ho]
  exact hret v w' h2 h6
theorem toB_leave {f:FuncId} {fn:Func} {todo:List Item} {v:Value} {R:Ending→World→Prop} (hb:b.fn=f) (hbk:b.kind=.normal) (hd:a.defers=[]) (hf:P.funcs[f]? = some fn) (hw:HeapOk OC w) (hr:(results fn a.tmps).run P w=.ok v w) (hR:R (.returned v) w) (hins:Ins R) :
  ToB P (G { b.at a todo with mode:=.returning } cs) w (fun a' w'=>∃ e fr,a'=G fr cs∧R e w'∧fr.fn=f∧fr.leaving P w' e∧e≠.outgrown∧HeapOk OC w'):=by
 subst hb
 refine toB_here fun d=>⟨.returned v,_,rfl,hins _ _ w.tape d hR,rfl,?_,by simp,hw⟩
 have hl:({ b.at a todo with mode:=.returning }:Frame).leaving P w (.returned v):=⟨rfl,hd,hbk,fn,hf,hr⟩
 exact leaving_re hw hl w.tape d
end
theorem callsB_of_body {f:FuncId} {fn:Func} {c:Code} {args:Array Value} {w:World} {R:Ending→World→Prop} (hf:P.funcs[f]? = some fn) (hb:fn.body=some c)
  (h:∀ (cs:List Frame) (b:Frame),b.fn=f→b.kind=.normal→b.roundOf=none→ToB P (G (b.at { tmps:=args ++ Array.replicate (fn.ntmps - args.size) undef,defers:=[] } [.code c]) cs) w (fun a' w'=>∃ e fr,a'=G fr cs∧R e w'∧fr.fn=f∧fr.leaving P w' e∧e≠.outgrown∧HeapOk OC w')) :
  CallsB P f args w R:=by
 intro cs
 let b:Frame:={ (default:Frame) with fn:=f,kind:=.normal,roundOf:=none }
 have henter:Frame.enter P f args .normal=b.at { tmps:=args ++ Array.replicate (fn.ntmps - args.size) undef,defers:=[] } [.code c]:=by
  simp [Frame.enter,Frame.at,hf,hb,b]
 rw [henter]
 exact h cs b rfl rfl rfl
theorem good_of_callsB {f:FuncId} {args:Array Value} {w:World} {Post:Value→World→Prop} (hf0:P.inits.idxOf? f=none) (hpost:∀ v w d,Post v w→Post v (w.at d)) (h:CallsB P f args w (fun e w'=>∃ v,e=.returned v∧Post v w')) :
  ∃ N last o w' t',runNT P (N+1) (solo (G (Frame.enter P f args .normal) []) w) #[]=(.ended o w',t')∧runN P N (solo (G (Frame.enter P f args .normal) []) w)=.next last∧step P last=.ended o w'∧Good P Post last o w' t':=by
 obtain ⟨N,gs',a',w',sl',t',h1,h2,e,fr,h3,⟨v,h4,h5⟩,h6,h7,h8,h9⟩:=h [] #[G (Frame.enter P f args .normal) []] none #[] w.drawn ⟨rfl,⟨_,leavers_one P _⟩,⟨0,past_nil⟩⟩
 subst h4
 subst h3
 subst h6
 obtain ⟨q,hL⟩:=h2.old
 obtain ⟨B,hP⟩:=h2.past
 obtain ⟨hm,hd,hk,fn,hf,hr⟩:=h7
 have hev:∀ d,∀ e∈seen P fr.fn ((results fn fr.tmps).events P (w'.at d) #[]),ND e:=by
  intro d
  have hf':=runT_facts (P:=P) (C:=OC) (φ:=fun _=>True) (results fn fr.tmps) ((calm_results fn fr.tmps).t OC P) (w'.at d) #[] #[] 0 h9 (by simp) (by omega)
  have:=nd_none hf'.nd
  rw [Sem.runT_eq] at this
  exact nd_seen this
 have hrd:∀ d,(results fn fr.tmps).run P (w'.at d)=.ok v (w'.at d):=by
  intro d
  obtain ⟨_,_,_,fn2,hf2,hr2⟩:=leaving_re (e:=.returned v) h9 ⟨hm,hd,hk,fn,hf,hr⟩ w'.tape d
  rw [hf] at hf2
  cases hf2
  exact hr2
 have hsame:∀ d,(results fn fr.tmps).events P (w'.at d) #[]=(results fn fr.tmps).events P w' #[]:=by
  intro d
  obtain ⟨j,hj,_,hl⟩:=runT_local (P:=P) (C:=OC) (φ:=fun _=>True) (results fn fr.tmps) ((calm_results fn fr.tmps).t OC P) w' #[] h9
  rw [Sem.runT_eq] at hl hj
  rw [hr] at hl hj
  have hj0:j=0:=by have:w'.drawn=w'.drawn+j:=hj;omega
  subst hj0
  have:=hl w'.tape d (fun i hi=>by omega)
  rw [Sem.runT_eq] at this
  have h2:=congrArg Prod.snd this
  exact h2
 obtain ⟨B',hB'⟩:=low_all (seen P fr.fn ((results fn fr.tmps).events P w' #[]))
 obtain ⟨N2,last,o,w2,t2,k1,k2,k3,k4⟩:=beside_ends (P:=P) (Shun:=noShun) (B:=B+B') (D:=fun _ _ es=>∀ e∈es,EvL noShun (B+B') e) (Post:=Post) (fun _ _ _ h=>h) (sl:=sl') (n:=0) h2.zero hL (hP.mono (by omega)) (w:=w') (by
  intro w1 hw1
  obtain ⟨d,rfl⟩:=hw1
  refine ⟨rfl,v,seen P fr.fn ((results fn fr.tmps).events P (w'.at d) #[]),?_,?_,hpost _ _ d h5⟩
  ·have hu:stepG P true (G fr []) (w'.at d)=unwind P true fr [] none (w'.at d):=by simp only [stepG,G,hm]
   rw [hu]
   simp only [unwind,hd,hm,hf,Sem.runT_eq,hrd d,doReturn,hk,GStep.after,hf0]
   rfl
  ·intro e he
   exact ⟨fun x hx hs=>hs.elim,(hev d e he).1,(hev d e he).2,MemAct.low_mono (by omega) (hB' e (by rw [hsame] at he;exact he))⟩)
 have hs:crowd #[G (Frame.enter P fr.fn args .normal) []] (w.at w.drawn) none=solo (G (Frame.enter P fr.fn args .normal) []) w:=rfl
 rw [hs] at h1
 refine ⟨N+N2,last,o,w2,t2,?_,?_,k3,k4⟩
 ·rw [show N+N2+1=N+(N2+1) from by omega,runNT_add N _ _ _ _ _ h1]
  exact k1
 ·have:(runNT P N (solo (G (Frame.enter P fr.fn args .normal) []) w) #[]).1=runN P N (solo (G (Frame.enter P fr.fn args .normal) []) w):=runNT_fst _ _ _ _
  rw [h1] at this
  have h3:=runNT_fst P (N+N2) (solo (G (Frame.enter P fr.fn args .normal) []) w) #[]
  rw [runNT_add N _ _ _ _ _ h1,runNT_fst] at h3
  rw [← h3]
  exact k2
end
end Go.Tm
namespace Go.Sr
open Go
open Go.Tm
class Fns where
 ok:FuncId→Bool
abbrev BR:=Nat→Nat→Prop
def flat:Value→Bool
 | .bool _ | .int .. | .float .. | .complex .. | .string _ | .pointer none | .slice none .. | .map none | .chan none | .nilFunc | .nilIface=>true
 | .tuple vs=>vs.isEmpty
 | _=>false
def AR (R:BR) (a a':Addr):Prop:=R a.block a'.block∧a'.off=a.off∧a'.spot=a.spot
inductive VR0 (R:BR):Value→Value→Prop
 | flat {v:Value}:Sr.flat v=true→VR0 R v v
 | ptr {a a':Addr}:AR R a a'→VR0 R (.pointer (some a)) (.pointer (some a'))
 | slice {a a':Addr} {l c:Nat}:AR R a a'→VR0 R (.slice (some a) l c) (.slice (some a') l c)
 | chan {r r':Nat}:R r r'→VR0 R (.chan (some r)) (.chan (some r'))
def AF (r:Value→Value→Prop) (c c':Array Value):Prop:=c'.size=c.size∧∀ (i:Nat) (v:Value),c[i]? = some v→∃ v':Value,c'[i]? = some v'∧r v v'
mutual
inductive VR1 [Fns] (R:BR):Value→Value→Prop
 | base {v v':Value}:VR0 R v v'→VR1 R v v'
 | func {f:FuncId} {a a' c c':Array Value}:Fns.ok f=true→a'.size=a.size→(∀ (i:Nat) (v v':Value),a[i]? = some v→a'[i]? = some v'→VR R v v') →
   c'.size=c.size→(∀ (i:Nat) (v v':Value),c[i]? = some v→c'[i]? = some v'→VR R v v')→VR1 R (.func (.func f) a c) (.func (.func f) a' c')
inductive VR [Fns] (R:BR):Value→Value→Prop
 | base {v v':Value}:VR1 R v v'→VR R v v'
 | agg {c c':Array Value}:c'.size=c.size→(∀ (i:Nat) (v v':Value),c[i]? = some v→c'[i]? = some v'→VR1 R v v')→VR R (.agg c) (.agg c')
end
theorem AF.of_raw {r:Value→Value→Prop} {c c':Array Value} (h:c'.size=c.size) (h':∀ (i:Nat) (v v':Value),c[i]? = some v→c'[i]? = some v'→r v v'):AF r c c' :=
 ⟨h,fun i v hv=>by
  have hi:=(Array.getElem?_eq_some_iff.1 hv).1
  have hi':i < c'.size:=by rw [h];exact hi
  exact ⟨c'[i],Array.getElem?_eq_getElem hi',h' i v _ hv (Array.getElem?_eq_getElem hi')⟩⟩
theorem AF.raw {r:Value→Value→Prop} {c c':Array Value} (h:AF r c c') (i:Nat) (v v':Value) (h1:c[i]? = some v) (h2:c'[i]? = some v'):r v v':=by
 obtain ⟨x,h3,h4⟩:=h.2 i v h1
 rw [h2] at h3
 cases h3
 exact h4
theorem VR1.ofFunc [Fns] {R:BR} {f:FuncId} (hf:Fns.ok f=true) {a a' c c':Array Value} (h:AF (VR R) a a') (h':AF (VR R) c c'):VR1 R (.func (.func f) a c) (.func (.func f) a' c'):=.func hf h.1 h.raw h'.1 h'.raw
theorem VR.ofAgg [Fns] {R:BR} {c c':Array Value} (h:AF (VR1 R) c c'):VR R (.agg c) (.agg c'):=.agg h.1 h.raw
def le (R R':BR):Prop:=∀ b b',R b b'→R' b b'
theorem le_refl (R:BR):le R R:=fun _ _ h=>h
theorem le_trans {R R' R'':BR} (h:le R R') (h':le R' R''):le R R'':=fun _ _ x=>h' _ _ (h _ _ x)
section mono
variable {R R':BR}
theorem AR.mono (h:le R R') {a a':Addr} (x:AR R a a'):AR R' a a':=⟨h _ _ x.1,x.2⟩
theorem VR0.mono [Fns] (h:le R R') {v v':Value} (x:VR0 R v v'):VR0 R' v v':=by
 cases x with
 | flat h'=>exact .flat h'
 | ptr h'=>exact .ptr (h'.mono h)
 | slice h'=>exact .slice (h'.mono h)
 | chan h'=>exact .chan (h _ _ h')
theorem AF.mono {r r':Value→Value→Prop} (h:∀ v v',r v v'→r' v v') {c c':Array Value} (x:AF r c c'):AF r' c c':=⟨x.1,fun i v hv=>let ⟨v',h1,h2⟩:=x.2 i v hv;⟨v',h1,h _ _ h2⟩⟩
mutual
theorem VR1.mono [Fns] (h:le R R') {v v':Value}:VR1 R v v'→VR1 R' v v'
 | .base x=>.base (x.mono h)
 | .func h0 h1 h2 h3 h4=>.func h0 h1 (fun i v v' a b=>VR.mono h (h2 i v v' a b)) h3 (fun i v v' a b=>VR.mono h (h4 i v v' a b))
theorem VR.mono [Fns] (h:le R R') {v v':Value}:VR R v v'→VR R' v v'
 | .base x=>.base (VR1.mono h x)
 | .agg h1 h2=>.agg h1 (fun i v v' a b=>VR1.mono h (h2 i v v' a b))
end
end mono
theorem VR.of_flat [Fns] {R:BR} {v:Value} (h:flat v=true):VR R v v:=.base (.base (.flat h))
theorem VR.int [Fns] {R:BR} {k:IntKind} {n:Int}:VR R (.int k n) (.int k n):=.of_flat rfl
theorem VR.bool [Fns] {R:BR} {b:Bool}:VR R (.bool b) (.bool b):=.of_flat rfl
section arrays
variable {r:Value→Value→Prop}
theorem AF.empty:AF r #[] #[]:=⟨rfl,fun i v h=>by simp at h⟩
theorem AF.push {c c':Array Value} (h:AF r c c') {v v':Value} (hv:r v v'):AF r (c.push v) (c'.push v'):=by
 refine ⟨by simp [h.1],fun i x hx=>?_⟩
 rw [Array.getElem?_push] at hx ⊢
 split at hx
 ·cases hx
  rename_i hi
  exact ⟨v',by simp [h.1,hi],hv⟩
 ·obtain ⟨x',h1,h2⟩:=h.2 i x hx
  rename_i hi
  refine ⟨x',?_,h2⟩
  rw [if_neg (by rw [h.1];exact hi)]
  exact h1
theorem AF.set {c c':Array Value} (h:AF r c c') {i:Nat} {v v':Value} (hv:r v v'):AF r (c.setIfInBounds i v) (c'.setIfInBounds i v'):=by
 refine ⟨by simp [h.1],fun j x hx=>?_⟩
 rw [Array.getElem?_setIfInBounds] at hx ⊢
 split at hx
 ·split at hx
  ·cases hx
   rename_i h1 h2
   exact ⟨v',by rw [if_pos h1,if_pos (by rw [h.1];exact h2)],hv⟩
  ·cases hx
 ·rename_i hne
  obtain ⟨x',h1,h2⟩:=h.2 j x hx
  exact ⟨x',by simp [hne,h1],h2⟩
theorem AF.append {a a' c c':Array Value} (h:AF r a a') (h':AF r c c'):AF r (a ++ c) (a' ++ c'):=by
 refine ⟨by simp [h.1,h'.1],fun i x hx=>?_⟩
 rw [Array.getElem?_append] at hx ⊢
 rw [h.1]
 split at hx
 ·rename_i hi
  simp only [hi,if_true]
  exact h.2 i x hx
 ·rename_i hi
  simp only [hi,if_false]
  exact h'.2 _ x hx
theorem AF.get {c c':Array Value} (h:AF r c c') {d:Value} (hd:r d d) (i:Nat):r (c.getD i d) (c'.getD i d):=by
 rw [Array.getD_eq_getD_getElem?,Array.getD_eq_getD_getElem?]
 cases hc:c[i]? with
 | none =>
  have:c'[i]? = none:=by
   rw [Array.getElem?_eq_none_iff] at hc ⊢
   rw [h.1];exact hc
  rw [this];exact hd
 | some v =>
  obtain ⟨v',h1,h2⟩:=h.2 i v hc
  rw [h1];exact h2
theorem AF.get? {c c':Array Value} (h:AF r c c') (i:Nat):(c[i]? = none∧c'[i]? = none)∨∃ v v',c[i]? = some v∧c'[i]? = some v'∧r v v':=by
 cases hc:c[i]? with
 | none =>
  left
  refine ⟨rfl,?_⟩
  rw [Array.getElem?_eq_none_iff] at hc ⊢
  rw [h.1];exact hc
 | some v =>
  obtain ⟨v',h1,h2⟩:=h.2 i v hc
  exact .inr ⟨v,v',rfl,h1,h2⟩
theorem AF.replicate {n:Nat} {v:Value} (hv:r v v):AF r (Array.replicate n v) (Array.replicate n v):=⟨rfl,fun i x hx=>⟨x,hx,by
 rw [Array.getElem?_replicate] at hx
 split at hx
 ·cases hx;exact hv
 ·cases hx⟩⟩
theorem AF.map {α:Type} {f f':α→Value} (l:Array α) (h:∀ x∈l,r (f x) (f' x)):AF r (l.map f) (l.map f'):=by
 refine ⟨by simp,fun i x hx=>?_⟩
 rw [Array.getElem?_map] at hx ⊢
 obtain ⟨y,hy,rfl⟩:=Option.map_eq_some_iff.1 hx
 refine ⟨f' y,by rw [hy];rfl,h y ?_⟩
 obtain ⟨hi,rfl⟩:=Array.getElem?_eq_some_iff.1 hy
 exact Array.getElem_mem hi
theorem AF.self {c:Array Value} (h:∀ v∈c,r v v):AF r c c:=⟨rfl,fun i v hv=>⟨v,hv,h v (by
 obtain ⟨hi,rfl⟩:=Array.getElem?_eq_some_iff.1 hv
 exact Array.getElem_mem hi)⟩⟩
theorem AF.extract {c c':Array Value} (h:AF r c c') (i j:Nat):AF r (c.extract i j) (c'.extract i j):=by
 refine ⟨by simp [h.1],fun k x hx=>?_⟩
 rw [Array.getElem?_extract] at hx ⊢
 rw [h.1]
 split at hx
 ·rename_i hk
  simp only [hk,if_true]
  exact h.2 _ x hx
 ·cases hx
end arrays
theorem VR.cells [Fns] {R:BR} {v v':Value} (h:VR R v v'):AF (VR1 R) v.cells v'.cells:=by
 cases h with
 | agg h h'=>exact AF.of_raw h h'
 | base h =>
  have hv:∀ {v v':Value},VR1 R v v'→v.cells=#[v]∧v'.cells=#[v']:=by
   intro v v' h
   cases h with
   | func _ _=>exact ⟨rfl,rfl⟩
   | base h =>
    cases h with
    | flat hf=>cases v <;> first | exact ⟨rfl,rfl⟩ | cases hf
    | _=>exact ⟨rfl,rfl⟩
  rw [(hv h).1,(hv h).2]
  refine ⟨rfl,fun i x hx=>?_⟩
  rcases i with _ | i
  ·cases hx;exact ⟨_,rfl,h⟩
  ·simp at hx
def isCh:Obj→Bool
 | .chan .. => true
 | _=>false
def OR [Fns] (R:BR) (D:Prop) (o o':Obj):Prop :=
 (∃ c c' e f f',o=.cells c e f∧o'=.cells c' e f'∧AF (VR1 R) c c'∧(D→f=(0,c.size))∧(¬ D→f=(0,0)∧f'=(0,0))) ∨
 (∃ a a' l,o=.number a l∧o'=.number a' l∧AR R a a'∧¬ D)∨(D∧isCh o=true∧isCh o'=true)
structure WR [Fns] (G:Nat) (R:BR) (D:Nat→Prop) (wl wa:World):Prop where
 obj:∀ b b',R b b'→∃ o o',wl.heap[b]? = some o∧wa.heap[b']? = some o'∧OR R (D b) o o'
 fn:∀ b b1 b2,R b b1→R b b2→b1=b2
 inj:∀ b1 b2 b,R b1 b→R b2 b→b1=b2
 old:∀ b b',R b b'→D b→b'=b
 new:∀ b b',R b b'→G≤b∧G≤b'
 tape:wa.tape=wl.tape
 drawn:wa.drawn=wl.drawn
 dom:∀ b,D b→b < wl.heap.size
 gl:G≤wl.heap.size
 ga:G≤wa.heap.size
def EvR (R:BR) (D:Nat→Prop) (e:Event):Prop :=
 match e.loc with
 | .cell a=>e.sync=false∧∃ b,R b a.block∧(e.write=true→¬ D b)
 | .obj r=>e.write=false∧∃ b,R b r
 | .mark m=>m=.noRoom
 | _=>False
theorem EvR.mono {R R':BR} {D:Nat→Prop} (h:le R R') {e:Event} (x:EvR R D e):EvR R' D e:=by
 unfold EvR at x ⊢
 split at x
 ·exact ⟨x.1,let ⟨b,h1,h2⟩:=x.2;⟨b,h _ _ h1,h2⟩⟩
 ·exact ⟨x.1,let ⟨b,h1⟩:=x.2;⟨b,h _ _ h1⟩⟩
 ·exact x
 ·exact x
structure Guar (R:BR) (D:Nat→Prop) (w w':World):Prop where
 size:w.heap.size≤w'.heap.size
 keep:∀ b',b' < w.heap.size→(∀ b,R b b'→D b)→w'.heap[b']? = w.heap[b']?
 os:w'.os=w.os
 output:w'.output=w.output
 tape:w'.tape=w.tape
 okh:∀ C:Code→Prop,HeapOk C w→HeapOk C w'
theorem Guar.refl (R:BR) (D:Nat→Prop) (w:World):Guar R D w w:=⟨Nat.le_refl _,fun _ _ _=>rfl,rfl,rfl,rfl,fun _ h=>h⟩
structure Grow (R R':BR) (D:Nat→Prop) (wl wa:World):Prop where
 le:le R R'
 fresh:∀ b b',R' b b'→R b b'∨(wl.heap.size≤b∧wa.heap.size≤b'∧¬ D b)
theorem Guar.trans {R R':BR} {D:Nat→Prop} {w w' w'' wl:World} (h:Guar R D w w') (hg:Grow R R' D wl w) (h':Guar R' D w' w''):Guar R D w w'':=by
 refine ⟨Nat.le_trans h.size h'.size,fun b' hb hD=>?_,h'.os.trans h.os,h'.output.trans h.output,h'.tape.trans h.tape,fun C x=>h'.okh C (h.okh C x)⟩
 rw [h'.keep b' (by have:=h.size;omega) (fun b hR=>?_),h.keep b' hb hD]
 rcases hg.fresh b b' hR with h1 | ⟨_,h2,_⟩
 ·exact hD b h1
 ·omega
def RunR [Fns] (P:Program) (D:Nat→Prop) {α β:Type} (Φ:BR→α→β→Prop) (R:BR) (s:Sem α) (s':Sem β):Prop :=
 ∀ wl wa es,WR P.globals.size R D wl wa→∀ a wl',s.run P wl=.ok a wl'→∃ a' wa' es' R',s'.runT P wa es=(.ok a' wa',es')∧(∀ e∈es',e∈es∨EvR R' D e)∧WR P.globals.size R' D wl' wa' ∧
  Grow R R' D wl wa∧Guar R D wa wa'∧wl.heap.size≤wl'.heap.size∧Φ R' a a'
section
variable {P:Program} {D:Nat→Prop} {α β γ δ:Type} {Φ:BR→α→β→Prop} {Ψ:BR→γ→δ→Prop} {R:BR}
theorem RunR.pure [Fns] {a:α} {b:β} (h:Φ R a b):RunR P D Φ R (Pure.pure a:Sem α) (Pure.pure b:Sem β):=by
 intro wl wa es hw x wl' hr
 cases hr
 exact ⟨b,wa,es,R,rfl,fun e he=>.inl he,hw,⟨le_refl R,fun _ _ h=>.inl h⟩,.refl R D wa,Nat.le_refl _,h⟩
theorem RunR.halt [Fns] {h:Halt} {s':Sem β}:RunR P D Φ R (.halt h:Sem α) s':=fun wl wa es _ a wl' hr=>by cases hr
theorem RunR.bind [Fns] {s:Sem α} {s':Sem β} {f:α→Sem γ} {f':β→Sem δ} (h:RunR P D Φ R s s') (hf:∀ R',le R R'→∀ a b,Φ R' a b→RunR P D Ψ R' (f a) (f' b)):RunR P D Ψ R (s >>= f) (s' >>= f'):=by
 intro wl wa es hw x wl' hr
 rw [Sem.run_bind] at hr
 cases hs:s.run P wl with
 | halt hh w1=>rw [hs] at hr;cases hr
 | ok a w1 =>
  rw [hs] at hr
  obtain ⟨a',wa1,es1,R1,h1,h2,h3,h4,h5,h6,h7⟩:=h wl wa es hw a w1 hs
  obtain ⟨b',wa2,es2,R2,k1,k2,k3,k4,k5,k6,k7⟩:=hf R1 h4.le a a' h7 w1 wa1 es1 h3 x wl' hr
  refine ⟨b',wa2,es2,R2,?_,fun e he=>?_,k3,⟨le_trans h4.le k4.le,fun b b' hb=>?_⟩,h5.trans h4 k5,Nat.le_trans h6 k6,k7⟩
  ·show Sem.runT P (Sem.bind s' f') wa es=_
   rw [Sem.runT_bind',h1]
   exact k1
  ·rcases k2 e he with h | h
   ·rcases h2 e h with h | h
    ·exact .inl h
    ·exact .inr (h.mono k4.le)
   ·exact .inr h
  ·rcases k4.fresh b b' hb with h | ⟨h8,h9,h10⟩
   ·exact h4.fresh b b' h
   ·exact .inr ⟨Nat.le_trans h6 h8,Nat.le_trans h5.size h9,h10⟩
theorem RunR.mono [Fns] {Φ':BR→α→β→Prop} {s:Sem α} {s':Sem β} (h:RunR P D Φ R s s') (hq:∀ R' a b,Φ R' a b→Φ' R' a b):RunR P D Φ' R s s':=by
 intro wl wa es hw x wl' hr
 obtain ⟨a',wa1,es1,R1,h1,h2,h3,h4,h5,h6,h7⟩:=h wl wa es hw x wl' hr
 exact ⟨a',wa1,es1,R1,h1,h2,h3,h4,h5,h6,hq _ _ _ h7⟩
theorem RunR.program [Fns]:RunR P D (fun _ p q=>p=P∧q=P) R Go.program Go.program:=by
 intro wl wa es hw x wl' hr
 cases hr
 exact ⟨P,wa,es,R,rfl,fun e he=>.inl he,hw,⟨le_refl R,fun _ _ h=>.inl h⟩,.refl R D wa,Nat.le_refl _,rfl,rfl⟩
theorem RunR.choose [Fns] {q:Question}:RunR P D (fun _ a b=>a=b) R (Go.choose q) (Go.choose q):=by
 intro wl wa es hw x wl' hr
 unfold Go.choose at hr ⊢
 simp only [Sem.run,Sem.runT] at hr ⊢
 split at hr
 ·rename_i hf
  cases hr
  exact ⟨0,wa,es,R,by rw [if_pos hf],fun e he=>.inl he,hw,⟨le_refl R,fun _ _ h=>.inl h⟩,.refl R D wa,Nat.le_refl _,rfl⟩
 ·rename_i hf
  cases hr
  refine ⟨q.cut (wa.tape wa.drawn q),{ wa with drawn:=wa.drawn+1 },es,R,by rw [if_neg hf],fun e he=>.inl he,⟨hw.obj,hw.fn,hw.inj,hw.old,hw.new,hw.tape,by show wa.drawn+1=wl.drawn+1;rw [hw.drawn],hw.dom,hw.gl,hw.ga⟩,⟨le_refl R,fun _ _ h=>.inl h⟩,⟨Nat.le_refl _,fun _ _ _=>rfl,rfl,rfl,rfl,fun _ h=>h⟩,Nat.le_refl _,?_⟩
  rw [hw.tape,hw.drawn]
theorem RunR.noRoom [Fns]:RunR P D (fun _ _ _=>True) R (mark .noRoom) (mark .noRoom):=by
 intro wl wa es hw x wl' hr
 cases hr
 refine ⟨(),wa,_,R,rfl,fun e he=>?_,hw,⟨le_refl R,fun _ _ h=>.inl h⟩,.refl R D wa,Nat.le_refl _,trivial⟩
 rcases Array.mem_push.1 he with h | rfl
 ·exact .inl h
 ·exact .inr rfl
theorem RunR.shape [Fns] {r r':Nat} (h:R r r'):RunR P D (fun _ a b=>a=b) R (Go.shape r) (Go.shape r'):=by
 intro wl wa es hw x wl' hr
 cases hr
 refine ⟨_,wa,es,R,rfl,fun e he=>.inl he,hw,⟨le_refl R,fun _ _ h=>.inl h⟩,.refl R D wa,Nat.le_refl _,?_⟩
 obtain ⟨o,o',h1,h2,h3⟩:=hw.obj _ _ h
 unfold World.shape?
 rw [h1,h2]
 rcases h3 with ⟨c,c',e,f,f',rfl,rfl,h4,_⟩ | ⟨a,a',l,rfl,rfl,_⟩ | ⟨_,hc,hc'⟩
 ·show some (e,c.size)=some (e,c'.size)
  rw [h4.1]
 ·rfl
 ·cases o <;> cases o' <;> first | rfl | (cases hc;done) | (cases hc';done)
theorem RunR.load [Fns] {a a':Addr} (h:AR R a a'):RunR P D (fun R'=>VR1 R') R (Go.load a) (Go.load a'):=by
 intro wl wa es hw x wl' hr
 obtain ⟨o,o',h1,h2,h3⟩:=hw.obj _ _ h.1
 unfold Go.load at hr ⊢
 simp only [Sem.run] at hr
 rcases h3 with ⟨c,c',e,f,f',rfl,rfl,h4,_⟩ | ⟨_,_,l,rfl,rfl,_⟩ | ⟨_,hch,_⟩
 ·have hc:wl.cell? a=if a.spot.isSome then none else c[a.off]?:=by simp [World.cell?,h1]
  have hc':wa.cell? a'=if a.spot.isSome then none else c'[a.off]?:=by simp [World.cell?,h2,h.2.1,h.2.2]
  cases hs:a.spot.isSome with
  | true =>
   rw [hs] at hc
   simp only [if_true] at hc
   rw [hc] at hr
   simp [World.farLoad,h1] at hr
  | false =>
   rw [hs] at hc hc'
   simp only [Bool.false_eq_true,if_false] at hc hc'
   rcases h4.get? a.off with ⟨h5,h6⟩ | ⟨v,v',h5,h6,h7⟩
   ·rw [hc,h5] at hr
    simp [World.farLoad,h1] at hr
   ·rw [hc,h5] at hr
    cases hr
    refine ⟨v',wa,es.push ⟨.cell a',false,false⟩,R,by simp only [Sem.runT,hc',h6];rfl,fun e he=>?_,hw,⟨le_refl R,fun _ _ h=>.inl h⟩,.refl R D wa,Nat.le_refl _,h7⟩
    rcases Array.mem_push.1 he with h' | rfl
    ·exact .inl h'
    ·exact .inr ⟨rfl,a.block,h.1,fun h=>by cases h⟩
 ·have hc:wl.cell? a=none:=by simp [World.cell?,h1]
  rw [hc] at hr
  simp [World.farLoad,h1] at hr
 ·have hc:wl.cell? a=none:=by cases o <;> first | (cases hch;done) | simp [World.cell?,h1]
  rw [hc] at hr
  cases o <;> first | (cases hch;done) | simp [World.farLoad,h1] at hr
theorem cellsLike [Fns] {R:BR} {v v':Value} (h:VR1 R v v'):(∀ c,v'≠.agg c)∧((∃ t,v'=.tuple t)→∃ t,v=.tuple t):=by
 cases h with
 | func _ _=>exact ⟨by simp,by simp⟩
 | base h =>
  cases h with
  | flat hf=>exact ⟨fun c hc=>by subst hc;simp [flat] at hf,fun h=>h⟩
  | _=>exact ⟨by simp,by simp⟩
theorem RunR.store [Fns] {a a':Addr} (h:AR R a a') {v v':Value} (hv:VR1 R v v'):RunR P D (fun _ _ _=>True) R (Go.store a v) (Go.store a' v'):=by
 intro wl wa es hw x wl' hr
 obtain ⟨o,o',h1,h2,h3⟩:=hw.obj _ _ h.1
 obtain ⟨hna,hnt⟩:=cellsLike hv
 have hrun:∀ (v:Value) (a:Addr) (w:World),(∀ c,v≠.agg c)→(∀ t,v≠.tuple t)→(Go.store a v).runT P w es=(match w.cell? a with
   | some _=>if w.frozen? a then (.halt (.unsupported (.unsafePointer "a write to bytes that a string shares")) w,es) else (.ok () (w.setCell a v),es.push ⟨.cell a,true,false⟩)
   | none=>match w.farStore P a v false with
    | .ok (w',touched)=>(.ok () w',es ++ touched.toArray.map (⟨.cell ·,true,false⟩))
    | .error h=>(.halt h w,es)):=by
  intro v a w h1 h2
  cases v <;> first | rfl | exact absurd rfl (h1 _) | exact absurd rfl (h2 _)
 by_cases ht:∃ t,v=.tuple t
 ·obtain ⟨t,rfl⟩:=ht
  cases hr
 have hvt:∀ t,v≠.tuple t:=fun t h=>ht ⟨t,h⟩
 have hvt':∀ t,v'≠.tuple t:=fun t h=>ht (hnt ⟨t,h⟩)
 have hva:∀ c,v≠.agg c:=fun c h=>by
  subst h
  cases hv with
  | base h=>cases h with | flat hf=>cases hf
 have hr':((Go.store a v).runT P wl es).1=.ok x wl':=by rw [Sem.runT_eq];exact hr
 rw [hrun v a wl hva hvt] at hr'
 rcases h3 with ⟨c,c',e,f,f',rfl,rfl,h4,h5,h6⟩ | ⟨_,_,l,rfl,rfl,_⟩ | ⟨_,hch,_⟩
 ·have hc:wl.cell? a=if a.spot.isSome then none else c[a.off]?:=by simp [World.cell?,h1]
  have hc':wa.cell? a'=if a.spot.isSome then none else c'[a.off]?:=by simp [World.cell?,h2,h.2.1,h.2.2]
  cases hs:a.spot.isSome with
  | true =>
   rw [hs] at hc
   simp only [if_true] at hc
   rw [hc] at hr'
   simp [World.farStore,h1] at hr'
  | false =>
   rw [hs] at hc hc'
   simp only [Bool.false_eq_true,if_false] at hc hc'
   rcases h4.get? a.off with ⟨h7,h8⟩ | ⟨y,y',h7,h8,h9⟩
   ·rw [hc,h7] at hr'
    simp [World.farStore,h1] at hr'
   ·rw [hc,h7] at hr'
    have hlt:a.off < c.size:=(Array.getElem?_eq_some_iff.1 h7).1
    by_cases hD:D a.block
    · -- a frozen block
     have:wl.frozen? a=true:=by
      unfold World.frozen?
      rw [h1]
      dsimp only
      rw [h5 hD]
      simp [hlt]
     simp only [this,if_true] at hr'
     cases hr'
    ·obtain ⟨hf,hf'⟩:=h6 hD
     have hfr:wl.frozen? a=false:=by simp [World.frozen?,h1,hf]
     have hfr':wa.frozen? a'=false:=by simp [World.frozen?,h2,hf']
     simp only [hfr,Bool.false_eq_true,if_false] at hr'
     cases hr'
     have hlt':a.block < wl.heap.size:=(Array.getElem?_eq_some_iff.1 h1).1
     have hlt2:a'.block < wa.heap.size:=(Array.getElem?_eq_some_iff.1 h2).1
     have hset:(wl.setCell a v).heap[a.block]? = some (.cells (c.setIfInBounds a.off v) e f):=by
      simp [World.setCell,Array.getElem?_modify,h1,hs]
     have hset':(wa.setCell a' v').heap[a'.block]? = some (.cells (c'.setIfInBounds a.off v') e f'):=by
      simp [World.setCell,Array.getElem?_modify,h2,h.2.1,h.2.2,hs]
     have hoth:∀ b,b≠a.block→(wl.setCell a v).heap[b]? = wl.heap[b]?:=by
      intro b hb
      simp only [World.setCell,Array.getElem?_modify]
      rw [if_neg (fun h=>hb h.symm)]
     have hoth':∀ b,b≠a'.block→(wa.setCell a' v').heap[b]? = wa.heap[b]?:=by
      intro b hb
      simp only [World.setCell,Array.getElem?_modify]
      rw [if_neg (fun h=>hb h.symm)]
     refine ⟨(),wa.setCell a' v',es.push ⟨.cell a',true,false⟩,R,?_,fun ev he=>?_,⟨fun b b' hb=>?_,hw.fn,hw.inj,hw.old,hw.new,hw.tape,hw.drawn,fun b hb=>by simpa [World.setCell] using hw.dom b hb,by simpa [World.setCell] using hw.gl,by simpa [World.setCell] using hw.ga⟩,⟨le_refl R,fun _ _ h=>.inl h⟩,⟨by simp [World.setCell],fun b' _ hD'=>?_,rfl,rfl,rfl,fun C h=>heapOk_setCell h _ _⟩,by simp [World.setCell],trivial⟩
     ·rw [hrun v' a' wa hna hvt',hc',h8]
      simp only [hfr',Bool.false_eq_true,if_false]
     ·rcases Array.mem_push.1 he with h' | rfl
      ·exact .inl h'
      ·exact .inr ⟨rfl,a.block,h.1,fun _=>hD⟩
     ·by_cases hb1:b=a.block
      ·subst hb1
       have:b'=a'.block:=hw.fn _ _ _ hb h.1
       subst this
       exact ⟨_,_,hset,hset',.inl ⟨_,_,_,_,_,rfl,rfl,h4.set hv,fun h=>(hD h).elim,fun _=>⟨hf,hf'⟩⟩⟩
      ·have hb2:b'≠a'.block:=fun h'=>hb1 (hw.inj _ _ _ (h' ▸ hb) h.1)
       rw [hoth b hb1,hoth' b' hb2]
       exact hw.obj b b' hb
     ·exact hoth' b' fun h'=>hD (hD' a.block (h' ▸ h.1))
 ·have hc:wl.cell? a=none:=by simp [World.cell?,h1]
  rw [hc] at hr'
  simp [World.farStore,h1] at hr'
 ·have hc:wl.cell? a=none:=by cases o <;> first | (cases hch;done) | simp [World.cell?,h1]
  rw [hc] at hr'
  cases o <;> first | (cases hch;done) | simp [World.farStore,h1] at hr'
theorem RunR.newObj [Fns] {o o':Obj} (h:∀ R',le R R'→OR R' False o o'):RunR P D (fun R' n n'=>R' n n') R (Go.newObj o) (Go.newObj o'):=by
 intro wl wa es hw x wl' hr
 have hD1:¬ D wl.heap.size:=fun h=>Nat.lt_irrefl _ (hw.dom _ h)
 have hG1:=hw.gl
 have hG2:=hw.ga
 cases hr
 let R':BR:=fun b b'=>R b b'∨(b=wl.heap.size∧b'=wa.heap.size)
 have hle:le R R':=fun b b' h=>.inl h
 have hlt:∀ {b b'},R b b'→b < wl.heap.size∧b' < wa.heap.size:=fun hb=>let ⟨o,o',h1,h2,_⟩:=hw.obj _ _ hb;⟨(Array.getElem?_eq_some_iff.1 h1).1,(Array.getElem?_eq_some_iff.1 h2).1⟩
 refine ⟨wa.heap.size,{ wa with heap:=wa.heap.push o' },es,R',rfl,fun e he=>.inl he,⟨?_,?_,?_,?_,?_,hw.tape,hw.drawn,fun b hb=>by have:=hw.dom b hb;simp;omega,by simp;omega,by simp;omega⟩,⟨hle,?_⟩,⟨by simp,?_,rfl,rfl,rfl,fun C hC=>heapOk_push hC ?_⟩,by simp,.inr ⟨rfl,rfl⟩⟩
 ·rintro b b' (hb | ⟨rfl,rfl⟩)
  ·obtain ⟨x,x',h1,h2,h3⟩:=hw.obj _ _ hb
   refine ⟨x,x',?_,?_,?_⟩
   ·rw [Array.getElem?_push,if_neg (by have:=(hlt hb).1;omega)];exact h1
   ·rw [Array.getElem?_push,if_neg (by have:=(hlt hb).2;omega)];exact h2
   ·rcases h3 with ⟨c,c',e,f,f',h4,h5,h6,h7,h8⟩ | ⟨a,a',l,h4,h5,h6,h7⟩ | h7
    ·exact .inl ⟨c,c',e,f,f',h4,h5,h6.mono fun _ _=>VR1.mono hle,h7,h8⟩
    ·exact .inr (.inl ⟨a,a',l,h4,h5,h6.mono hle,h7⟩)
    ·exact .inr (.inr h7)
  ·refine ⟨o,o',by simp,by simp,?_⟩
   rcases h R' hle with ⟨c,c',e,f,f',h4,h5,h6,h7,h8⟩ | ⟨a,a',l,h4,h5,h6,h7⟩ | h7
   ·exact .inl ⟨c,c',e,f,f',h4,h5,h6,fun h=>(hD1 h).elim,fun _=>h8 id⟩
   ·exact .inr (.inl ⟨a,a',l,h4,h5,h6,hD1⟩)
   ·exact h7.1.elim
 ·rintro b b1 b2 (h1 | ⟨rfl,rfl⟩) (h2 | ⟨h3,rfl⟩)
  ·exact hw.fn _ _ _ h1 h2
  ·have:=(hlt h1).1;omega
  ·have:=(hlt h2).1;omega
  ·rfl
 ·rintro b1 b2 b (h1 | ⟨rfl,rfl⟩) (h2 | ⟨rfl,h3⟩)
  ·exact hw.inj _ _ _ h1 h2
  ·have:=(hlt h1).2;omega
  ·have:=(hlt h2).2;omega
  ·rfl
 ·rintro b b' (h1 | ⟨rfl,rfl⟩) hd
  ·exact hw.old _ _ h1 hd
  ·exact (hD1 hd).elim
 ·rintro b b' (h1 | ⟨rfl,rfl⟩)
  ·exact hw.new _ _ h1
  ·exact ⟨hG1,hG2⟩
 ·rintro b b' (h1 | ⟨rfl,rfl⟩)
  ·exact .inl h1
  ·exact .inr ⟨Nat.le_refl _,Nat.le_refl _,hD1⟩
 ·intro b' hb _
  rw [Array.getElem?_push,if_neg (by omega)]
 ·rcases h R' hle with ⟨c,c',e,f,f',_,rfl,_⟩ | ⟨a,a',l,_,rfl,_⟩ | h7
  ·trivial
  ·trivial
  ·exact h7.1.elim
end
end Go.Sr
