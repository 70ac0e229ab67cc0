/- A part of the proof: T4, T5, T6. -/
import Derived.Test.YtjjmefieegcddaaDoorA02
import Derived.Conc.LoneCalls
import Derived.Conc.CrowdComm
import Derived.Lone
set_option linter.unusedVariables false
set_option linter.unusedSimpArgs false
namespace Go.Tm
open Go
open Go.Conc (G)
def GBad:GStep→Prop
 | .go g _ _=>g.status=.running∧∃ d,g.dying=some d∧d.calling=false∧d.todo=[]
 | .ended .. | .spawn .. => True
 | .comm _ cases b _ w _=>(b=true∧∃ c,cases=#[c])∧HeapOk OC w
 | _=>False
def Moves (f0:FuncId) (F:Bool→List Frame→World→GStep) (mine:List Frame) (w:World) (j:Nat):Prop :=
 (∃ fr' mine' w' es,Stk f0 fr' mine'∧HeapOk OC w'∧(∀ e∈es,ND e)∧w.heap.size≤w'.heap.size∧w'.drawn=w.drawn+j∧w'.tape=w.tape ∧
  ∀ main cs τ d,Agree w j τ d→F main (mine ++ cs) (w.re τ d)=.go (G fr' (mine' ++ cs)) (w'.re τ (d+j)) es) ∨
 (∀ cs τ d,Agree w j τ d→GBad (F true (mine ++ cs) (w.re τ d)))
def Result.on {α:Type} (r:Result α) (w:World):Result α :=
 match r with
 | .ok a _=>.ok a w
 | .halt h _=>.halt h w
theorem re_on {α:Type} (r:Result α) (τ:Nat→Question→Nat) (d:Nat):r.re τ d=Result.on r (r.world.re τ d):=by cases r <;> rfl
theorem bad_ite {c:Prop} [Decidable c] {a b:GStep} (ha:GBad a) (hb:GBad b):GBad (if c then a else b):=by split <;> assumption
theorem bad_after {es:Array Event} {g:GStep} (h:GBad g):GBad (GStep.after es g):=by
 cases g <;> exact h
theorem bad_endFatal (P:Program) (fr:Frame) (cs:List Frame) (m:String) (w:World):GBad (endFatal P fr cs none m w):=by
 unfold endFatal
 dsimp only
 split
 ·exact ⟨rfl,_,rfl,rfl,rfl⟩
 ·trivial
 ·trivial
theorem nd_none {es:Array Event} (h:∀ x∈es,x∈(#[]:Array Event)∨ND x):∀ x∈es,ND x:=fun x hx=>(h x hx).elim (fun h=>by simp at h) id
theorem mem_seen {P:Program} {fn:FuncId} {es:Array Event} {e:Event} (h:e∈seen P fn es):e∈es:=by
 unfold seen at h
 obtain ⟨l⟩:=es
 have key:∀ (l:List Event) (q:Bool) (kept:Array Event),e∈(l.foldl (fun (x:Bool × Array Event) e=>match e.loc with | .mark (.extern f)=>((P.funcs[f]?).any (·.norace),x.2) | _=>(x.1,if x.1 && !e.sync then x.2 else x.2.push e)) (q,kept)).2→e∈kept∨e∈l:=by
  intro l
  induction l with
  | nil=>exact fun q kept h=>.inl h
  | cons x l ih =>
   intro q kept h
   rw [List.foldl_cons] at h
   have:∀ q' kept',(∀ y∈kept',y∈kept∨y=x)→e∈(l.foldl (fun (x:Bool × Array Event) e=>match e.loc with | .mark (.extern f)=>((P.funcs[f]?).any (·.norace),x.2) | _=>(x.1,if x.1 && !e.sync then x.2 else x.2.push e)) (q',kept')).2→e∈kept∨e∈x :: l:=by
    intro q' kept' hk h
    rcases ih q' kept' h with h1 | h1
    ·rcases hk e h1 with h2 | rfl
     ·exact .inl h2
     ·exact .inr (by simp)
    ·exact .inr (by simp [h1])
   revert h
   dsimp only
   split
   ·exact this _ _ fun y hy=>.inl hy
   ·refine this _ _ fun y hy=>?_
    split at hy
    ·exact .inl hy
    ·rcases Array.mem_push.1 hy with h1 | h1
     ·exact .inl h1
     ·exact .inr h1
 have h':=key l ((P.funcs[fn]?).any (·.norace)) #[] (by dsimp only at h;rw [← Array.foldl_toList] at h;exact h)
 rcases h' with h1 | h1
 ·simp at h1
 ·simpa using h1
theorem nd_seen {P:Program} {fn:FuncId} {es:Array Event} (h:∀ x∈es,ND x):∀ x∈seen P fn es,ND x:=fun x hx=>h x (mem_seen hx)
section
variable {P:Program} {S:FuncId→Prop} {f0:FuncId} {F:Bool→List Frame→World→GStep} {mine:List Frame} {w:World}
theorem moves_to {fr':Frame} {mine':List Frame} (h:∀ main cs w,F main (mine ++ cs) w=.go (G fr' (mine' ++ cs)) w #[]) (hst:Stk f0 fr' mine') (hw:HeapOk OC w):Moves f0 F mine w 0 :=
 .inl ⟨fr',mine',w,#[],hst,hw,by simp,Nat.le_refl _,rfl,rfl,fun main cs τ d _=>h main cs (w.re τ d)⟩
theorem moves_bad (h:∀ cs w,GBad (F true (mine ++ cs) w)):Moves f0 F mine w 0:=.inr fun _ _ _ _=>h _ _
theorem Moves.congr {F':Bool→List Frame→World→GStep} {j:Nat} (h:Moves f0 F mine w j) (he:∀ main cs w,F' main cs w=F main cs w):Moves f0 F' mine w j:=by
 have:F'=F:=by funext m c w;exact he m c w
 rw [this];exact h
theorem moves_after {α:Type} {φ:α→Prop} {s:Sem α} {fn:FuncId} {K:Bool→List Frame→Result α→GStep} (hs:Fine P φ s w #[])
  (hF:∀ main cs w,F main cs w=GStep.after (seen P fn (s.runT P w #[]).2) (K main cs (s.runT P w #[]).1))
  (hk:∀ r,(match r with | .ok a _=>φ a | .halt h _=>OkHalt h)→HeapOk OC r.world→s.run P w=r→∃ j,Moves f0 (fun main cs w=>K main cs (Result.on r w)) mine r.world j):∃ j,Moves f0 F mine w j:=by
 obtain ⟨hfa,j,hd,ht,hl⟩:=hs
 cases hr:s.runT P w #[] with
 | mk r es =>
  rw [hr] at hfa hd ht hl
  obtain ⟨j',hm⟩:=hk r hfa.leaf hfa.heap (runT_run hr)
  refine ⟨j+j',?_⟩
  have hag:∀ τ d,Agree w (j+j') τ d→Agree r.world j' τ (d+j):=by
   intro τ d ha i hi q
   have hd1:r.world.drawn=w.drawn+j:=hd
   have ht1:r.world.tape=w.tape:=ht
   rw [hd1,ht1,show d+j+i=d+(j+i) from by omega,ha (j+i) (by omega) q,show w.drawn+(j+i)=w.drawn+j+i from by omega]
  have hrun:∀ main cs τ d,Agree w (j+j') τ d→F main cs (w.re τ d)=GStep.after (seen P fn es) (K main cs (Result.on r (r.world.re τ (d+j)))):=by
   intro main cs τ d ha
   rw [hF,hl τ d (ha.mono (by omega)),re_on]
  rcases hm with ⟨fr',mine',w',es',h1,h2,h3,h4,h5,h6,h7⟩ | hb
  ·refine .inl ⟨fr',mine',w',seen P fn es ++ es',h1,h2,?_,Nat.le_trans hfa.size h4,?_,h6.trans ht,fun main cs τ d ha=>?_⟩
   ·intro e he
    rcases Array.mem_append.1 he with h | h
    ·exact nd_seen (nd_none hfa.nd) e h
    ·exact h3 e h
   ·have:r.world.drawn=w.drawn+j:=hd
    omega
   ·have h8:=h7 main cs τ (d+j) (hag τ d ha)
    rw [hrun main _ τ d ha]
    rw [show (K main (mine ++ cs) (Result.on r (r.world.re τ (d+j))))=_ from h8]
    rw [show d+(j+j')=d+j+j' from by omega]
    rfl
  ·refine .inr fun cs τ d ha=>?_
   rw [hrun true _ τ d ha]
   exact bad_after (hb cs τ (d+j) (hag τ d ha))
theorem moves_apply {fr:Frame} {s:Sem Next} (hS:Sok P S) (hst:Stk f0 fr mine) (hs:Fine P (NextOk OC S fr.roundOf.isNone) s w #[]) :
  ∃ j,Moves f0 (fun _ cs w=>stepG.apply P true fr cs none s w) mine w j:=by
 have hk:=hst.ok
 have hearly:(fr.kind == CallKind.early)=false:=by rcases hk.kind with h | h <;> rw [h] <;> rfl
 have hno_call:∀ d r s k,fr.todo=.call d true r s :: k→False:=fun d r s k h=>by
  have:=hk.todo
  rw [h] at this
  exact (this (.call d true r s) (by simp)).elim
 obtain ⟨hfa,j,hd,ht,hl⟩:=hs
 refine ⟨j,?_⟩
 cases hr:s.runT P w #[] with
 | mk r es =>
  rw [hr] at hfa hd ht hl
  have hnd:=nd_seen (P:=P) (fn:=fr.fn) (nd_none hfa.nd)
  cases r with
  | ok x w' =>
   have key:∀ (fr':Frame) (mine':List Frame),Stk f0 fr' mine'→(∀ cs τ d,Agree w j τ d→stepG.apply P true fr (mine ++ cs) none s (w.re τ d)=.go (G fr' (mine' ++ cs)) (w'.re τ (d+j)) (seen P fr.fn es)) →
     Moves f0 (fun _ cs w=>stepG.apply P true fr cs none s w) mine w j :=
    fun fr' mine' h1 h2=>.inl ⟨fr',mine',w',_,h1,hfa.heap,hnd,hfa.size,hd,ht,fun _ cs τ d ha=>h2 cs τ d ha⟩
   have hx:=hfa.leaf
   cases x <;> first | (exact hx.elim) | skip
   case comm cases b sh =>
    refine .inr fun cs τ d ha=>?_
    unfold stepG.apply
    simp only [if_true,hl τ d ha,Result.re,hearly,Bool.false_eq_true,if_false]
    exact bad_after ⟨hx.2,hfa.heap⟩
   case spawn dd =>
    refine .inr fun cs τ d ha=>?_
    unfold stepG.apply
    simp only [if_true,hl τ d ha,Result.re,hearly,Bool.false_eq_true,if_false]
    refine bad_after (bad_ite ?_ ?_)
    ·exact ⟨rfl,_,rfl,rfl,rfl⟩
    ·trivial
   case value v =>
    refine key (fr.finish v) mine (hst.set (frOk_finish hk v).1 (frOk_finish hk v).2.1 (frOk_finish hk v).2.2.1 (frOk_finish hk v).2.2.2) fun cs τ d ha=>?_
    unfold stepG.apply
    simp only [if_true,hl τ d ha,Result.re,hearly,Bool.false_eq_true,if_false,GStep.after,Array.append_empty,G]
   case skip =>
    refine key (fr.finish undef) mine (hst.set (frOk_finish hk _).1 (frOk_finish hk _).2.1 (frOk_finish hk _).2.2.1 (frOk_finish hk _).2.2.2) fun cs τ d ha=>?_
    unfold stepG.apply
    simp only [if_true,hl τ d ha,Result.re,hearly,Bool.false_eq_true,if_false,GStep.after,Array.append_empty,G]
   case enter f args =>
    refine key (Frame.enter P f args .normal) (fr :: mine) (hst.push (frOk_enter hS hx args (.inl rfl))) fun cs τ d ha=>?_
    unfold stepG.apply
    simp only [if_true,hl τ d ha,Result.re,hearly,Bool.false_eq_true,if_false,GStep.after,Array.append_empty,G,List.cons_append]
   case round l f tmps assign body =>
    refine key (Frame.round l f tmps assign body .normal) (fr :: mine) (hst.push (frOk_round hx.1 hx.2 (.inl rfl))) fun cs τ d ha=>?_
    unfold stepG.apply
    simp only [if_true,hl τ d ha,Result.re,hearly,Bool.false_eq_true,if_false,GStep.after,Array.append_empty,G,List.cons_append]
   next df =>
    have h1:FrOk { fr with defers:=df :: fr.defers }:=⟨hk.todo,fun x hxx=>(List.mem_cons.1 hxx).elim (fun h=>h ▸ hx) (hk.defers x),hk.kind⟩
    have h2:=frOk_finish h1 undef
    refine key ({ fr with defers:=df :: fr.defers }.finish undef) mine (hst.set h2.1 h2.2.1 h2.2.2.1 h2.2.2.2) fun cs τ d ha=>?_
    unfold stepG.apply
    simp only [if_true,hl τ d ha,Result.re,hearly,Bool.false_eq_true,if_false,GStep.after,Array.append_empty,G]
   case recover =>
    have hro:fr.roundOf=none:=by
     have:fr.roundOf.isNone=true:=hx
     simpa using this
    have base:∀ cs τ d,Agree w j τ d→stepG.apply P true fr cs none s (w.re τ d)=GStep.after (seen P fr.fn es) (match tryRecover fr cs with
      | some (v,callers)=>.go { frame:=fr.finish v,callers,status:=.running,dying:=none } (w'.re τ (d+j))
      | none=>.go { frame:=fr.finish .nilIface,callers:=cs,status:=.running,dying:=none } (w'.re τ (d+j))):=by
     intro cs τ d ha
     unfold stepG.apply
     simp only [if_true,hl τ d ha,Result.re,hearly,Bool.false_eq_true,if_false,hro]
     rfl
    have nil:∀ v,Stk f0 (fr.finish v) mine:=fun v=>hst.set (frOk_finish hk v).1 (frOk_finish hk v).2.1 (frOk_finish hk v).2.2.1 (frOk_finish hk v).2.2.2
    have hno:(∀ cs,tryRecover fr (mine ++ cs)=none)→Moves f0 (fun _ cs w=>stepG.apply P true fr cs none s w) mine w j:=by
     intro hno
     refine key (fr.finish .nilIface) mine (nil _) fun cs τ d ha=>?_
     rw [base _ τ d ha,hno]
     simp [GStep.after,G]
    rcases hk.kind with hkk | hkk
    ·exact hno fun cs=>by unfold tryRecover;rw [hkk]
    ·cases mine with
     | nil=>have:=hst.2.2.1;rw [hkk] at this;cases this
     | cons c cs0 =>
      cases hm:c.mode with
      | run=>exact hno fun cs=>by unfold tryRecover;simp [hkk,hm]
      | returning=>exact hno fun cs=>by unfold tryRecover;simp [hkk,hm]
      | panicking chain =>
       cases chain with
       | nil=>exact hno fun cs=>by unfold tryRecover;simp [hkk,hm]
       | cons p older =>
        obtain ⟨v,rec,ge⟩:=p
        cases rec with
        | true=>exact hno fun cs=>by unfold tryRecover;simp [hkk,hm]
        | false =>
         cases ge with
         | true=>exact hno fun cs=>by unfold tryRecover;simp [hkk,hm]
         | false =>
          have hc:FrOk c:=hst.2.ok
          have hst2:Stk f0 (fr.finish v) ({ c with mode:=.panicking ({ v,recovered:=true } :: older) } :: cs0) :=
           ⟨(frOk_finish hk v).1,hst.2.set ⟨hc.todo,hc.defers,hc.kind⟩ rfl rfl rfl⟩
          refine key (fr.finish v) _ hst2 fun cs τ d ha=>?_
          rw [base _ τ d ha]
          have:tryRecover fr (c :: cs0 ++ cs)=some (v,{ c with mode:=.panicking ({ v,recovered:=true } :: older) } :: (cs0 ++ cs)):=by
           unfold tryRecover;simp [hkk,hm]
          rw [this]
          simp [GStep.after,G]
  | halt h w' =>
   have hx:=hfa.leaf
   have key:∀ (l:List PanicEntry),(∀ cs τ d,Agree w j τ d→stepG.apply P true fr (mine ++ cs) none s (w.re τ d)=.go (G (fr.raise l) (mine ++ cs)) (w'.re τ (d+j)) (seen P fr.fn es)) →
     Moves f0 (fun _ cs w=>stepG.apply P true fr cs none s w) mine w j :=
    fun l h2=>.inl ⟨fr.raise l,mine,w',_,hst.set (frOk_raise hk l).1 (frOk_raise hk l).2.1 (frOk_raise hk l).2.2.1 (frOk_raise hk l).2.2.2,hfa.heap,hnd,hfa.size,hd,ht,fun _ cs τ d ha=>h2 cs τ d ha⟩
   cases h <;> first | (exact hx.elim) | skip
   case panic v =>
    refine key [{ v,recovered:=false }] fun cs τ d ha=>?_
    unfold stepG.apply
    simp only [if_true,hl τ d ha,Result.re,hearly,Bool.false_eq_true,if_false,GStep.after,Array.append_empty,G]
   case goexit =>
    refine key [goexitEntry] fun cs τ d ha=>?_
    unfold stepG.apply
    simp only [if_true,hl τ d ha,Result.re,hearly,Bool.false_eq_true,if_false,GStep.after,Array.append_empty,G]
   all_goals
    refine .inr fun cs τ d ha=>?_
    unfold stepG.apply
    simp only [if_true,hl τ d ha,Result.re,hearly,Bool.false_eq_true,if_false]
   case exit c=>exact bad_after trivial
   case fatal m=>exact bad_after (bad_endFatal _ _ _ _ _)
   case throw m=>exact bad_after ⟨rfl,_,rfl,rfl,rfl⟩
   case unsupported u=>cases u <;> first | exact hx.elim | exact bad_after trivial
   case stuck m=>exact bad_after trivial
theorem mem_todo {fr:Frame} {x:Item} {k:List Item} (h:FrOk fr) (hk:fr.todo=x :: k):ItemOk fr.roundOf.isNone x∧∀ y∈k,ItemOk fr.roundOf.isNone y:=by
 have:=h.todo
 rw [hk] at this
 exact ⟨this x (by simp),fun y hy=>this y (by simp [hy])⟩
theorem frOk_todo {fr:Frame} (h:FrOk fr) {todo:List Item} (ht:∀ x∈todo,ItemOk fr.roundOf.isNone x):FrOk { fr with todo }:=⟨ht,h.defers,h.kind⟩
theorem ok_exitTo {r:Bool} {id:Nat}:∀ {k k':List Item},exitTo id k=some k'→(∀ y∈k,ItemOk r y)→∀ y∈k',ItemOk r y:=by
 intro k
 induction k with
 | nil=>intro k' h;simp [exitTo] at h
 | cons x k ih =>
  intro k' h hk
  have hk':∀ y∈k,ItemOk r y:=fun y hy=>hk y (by simp [hy])
  cases x <;> simp only [exitTo] at h <;> first
   | exact ih h hk'
   | (split at h
      ·cases h;exact hk'
      ·exact ih h hk')
theorem doReturn_moves {fr:Frame} {c:Frame} {rest:List Frame} {v:Value} (hk:fr.kind=.normal∨fr.kind=.deferred) (hst:Stk f0 c rest) :
  ∃ c',Stk f0 c' rest∧∀ main cs w,doReturn P main fr (c :: rest ++ cs) none v w=.go (G c' (rest ++ cs)) w #[]:=by
 rcases hk with hk | hk
 ·exact ⟨c.finish v,hst.set (frOk_finish hst.ok v).1 (frOk_finish hst.ok v).2.1 (frOk_finish hst.ok v).2.2.1 (frOk_finish hst.ok v).2.2.2,fun main cs w=>by
   simp only [doReturn,List.cons_append,hk,G]⟩
 ·refine ⟨match c.mode with
    | .panicking ({ recovered:=true,.. } :: older) =>
     match older.dropWhile (!·.goexit) with
     | []=>{ c with mode:=.returning }
     | rest=>{ c with mode:=.panicking rest }
    | _=>c,?_,fun main cs w=>by simp only [doReturn,List.cons_append,hk,G];rfl⟩
  have hm:∀ m,Stk f0 { c with mode:=m } rest:=fun m=>hst.set ⟨hst.ok.todo,hst.ok.defers,hst.ok.kind⟩ rfl rfl rfl
  split
  ·split
   ·exact hm _
   ·exact hm _
  ·exact hst
def plainJump:Option Code→Bool
 | none | some .ret=>true
 | _=>false
theorem leave_moves {fr:Frame} {jump:Option Code} (hst:Stk f0 fr mine) (hw:HeapOk OC w) (hj:∀ c,jump=some c→OC c)
  (hF:∀ main cs w,F main cs w=(match fr.roundOf with
   | none=>if plainJump jump then .go (G { fr with mode:=.returning } cs) w else .ended (.stuck "exit, goto: no such block or label" (fr.pos P)) w
   | some l =>
    let (r,es):=(Instr.endRound l jump).runT P w #[]
    GStep.after (seen P fr.fn es) <| match r with
    | .ok v w=>doReturn P main fr cs none v w
    | .halt _ w=>.ended (.stuck "range over a function: no such loop" (fr.pos P)) w)):∃ j,Moves f0 F mine w j:=by
 cases hro:fr.roundOf with
 | none =>
  by_cases h:plainJump jump=true
  ·refine ⟨0,moves_to (fr':={ fr with mode:=.returning }) (mine':=mine) (fun main cs w=>?_) (hst.set ⟨hst.ok.todo,hst.ok.defers,hst.ok.kind⟩ rfl rfl rfl) hw⟩
   rw [hF,hro]
   simp only [h,if_true]
  ·refine ⟨0,moves_bad fun cs w=>?_⟩
   rw [hF,hro]
   simp only [h]
   trivial
 | some l =>
  cases mine with
  | nil=>have:=hst.2.1;rw [hro] at this;cases this
  | cons c rest =>
   refine moves_after (fn:=fr.fn) (K:=fun main cs r=>match r with
    | .ok v w=>doReturn P main fr cs none v w
    | .halt _ w=>.ended (.stuck "range over a function: no such loop" (fr.pos P)) w) (fine_tame (tame_endRound hj) hw #[]) (fun main cs w=>by rw [hF,hro]) fun r hr hhr _=>?_
   cases r with
   | ok v w' =>
    obtain ⟨c',h1,h2⟩:=doReturn_moves (P:=P) (v:=v) hst.ok.kind hst.2
    exact ⟨0,moves_to (fun main cs w=>h2 main cs w) h1 hhr⟩
   | halt h w'=>exact ⟨0,moves_bad fun cs w=>trivial⟩
theorem exec_moves {fr:Frame} (hS:Sok P S) (hst:Stk f0 fr mine) (hw:HeapOk OC w) (hm:fr.mode=.run) (hl:∀ f,fr.about P w=some f→S f) :
  ∃ j,Moves f0 (fun main cs w=>stepG.exec P main true fr cs none w) mine w j:=by
 have hk:=hst.ok
 have to:∀ {todo:List Item} (h:∀ main cs w,stepG.exec P main true fr cs none w=.go (G { fr with todo } cs) w #[]) (ht:∀ x∈todo,ItemOk fr.roundOf.isNone x),
   ∃ j,Moves f0 (fun main cs w=>stepG.exec P main true fr cs none w) mine w j :=
  fun h ht=>⟨0,moves_to (fun main cs w=>h main _ w) (hst.set (frOk_todo hk ht) rfl rfl rfl) hw⟩
 have bad:(∀ main cs w,GBad (stepG.exec P main true fr cs none w))→∃ j,Moves f0 (fun main cs w=>stepG.exec P main true fr cs none w) mine w j :=
  fun h=>⟨0,moves_bad fun cs w=>h _ _ w⟩
 cases htd:fr.todo with
 | nil=>exact leave_moves (jump:=none) hst hw (by simp) fun main cs w=>by simp only [stepG.exec,htd];cases fr.roundOf <;> rfl
 | cons x k =>
  obtain ⟨hx,hkk⟩:=mem_todo hk htd
  cases x with
  | call d wr res sv=>exact hx.elim
  | extern row args=>exact hx.elim
  | inScope c=>exact to (todo:=k) (fun main cs w=>by simp only [stepG.exec,htd,G]) hkk
  | inBlock id=>exact to (todo:=k) (fun main cs w=>by simp only [stepG.exec,htd,G]) hkk
  | inLoop body =>
   refine to (todo:=.code body :: .inLoop body :: k) (fun main cs w=>by simp only [stepG.exec,htd,G]) fun y hy=>?_
   rcases List.mem_cons.1 hy with rfl | hy
   ·exact hx
   ·rcases List.mem_cons.1 hy with rfl | hy
    ·exact hx
    ·exact hkk y hy
  | beginRound =>
   refine (moves_apply (S:=S) hS hst (s:=do fr.roundOf.elim (stuck "beginRound: no round") Instr.beginRound;pure .skip) ?_).imp fun j h=>h.congr fun main cs w=>by simp only [stepG.exec,htd]
   cases hro:fr.roundOf with
   | none=>exact fine_tame (Tame.bind (φ:=fun _=>True) (fun _ _=>tame_pure (show NextOk OC S _ .skip from trivial)) (by exact tame_stuck)) hw #[]
   | some l=>exact fine_tame (Tame.bind (fun _ _=>tame_pure (show NextOk OC S _ .skip from trivial)) (tame_beginRound (l:=l))) hw #[]
  | inRangeFunc l=>exact bad fun main cs w=>by simp only [stepG.exec,htd];trivial
  | endRangeFunc l =>
   refine moves_after (fn:=fr.fn) (K:=fun main cs r=>match r with
    | .ok jump w=>.go (G { fr with todo:=(jump.map Item.code).toList ++ k } cs) w
    | .halt (.panic v) w=>.go (G (fr.raise [{ v,recovered:=false }]) cs) w
    | .halt _ w=>.ended (.stuck "range over a function: no such loop" (fr.pos P)) w) (fine_tame tame_endLoop hw #[]) (fun main cs w=>by simp only [stepG.exec,htd,G];rfl) fun r hr hhr _=>?_
   cases r with
   | ok jump w' =>
    refine ⟨0,moves_to (fun main cs w=>rfl) (hst.set (frOk_todo hk fun y hy=>?_) rfl rfl rfl) hhr⟩
    rcases List.mem_append.1 hy with hy | hy
    ·cases jump with
     | none=>simp at hy
     | some c =>
      simp only [Option.map_some,Option.toList_some,List.mem_singleton] at hy
      subst hy
      exact okCode_mono (hr c rfl)
    ·exact hkk y hy
   | halt h w' =>
    cases h with
    | panic v=>exact ⟨0,moves_to (fun main cs w=>rfl) (hst.set (frOk_raise hk _).1 (frOk_raise hk _).2.1 (frOk_raise hk _).2.2.1 (frOk_raise hk _).2.2.2) hhr⟩
    | _=>exact ⟨0,moves_bad fun cs w=>trivial⟩
  | inRegion ops todo =>
   cases todo with
   | nil=>exact to (todo:=k) (fun main cs w=>by simp only [stepG.exec,htd,G]) hkk
   | cons i rest =>
    by_cases hwt:(((ops[i]?).map (Region.wanted · (yielded ops fr.tmps))).getD false)=true
    ·cases hop:ops[i]? with
     | none=>rw [hop] at hwt;cases hwt
     | some o =>
      have hoo:okOp fr.roundOf.isNone o.op=true:=by
       have hx':(ops.all fun o=>okOp fr.roundOf.isNone o.op)=true:=hx
       rw [Array.all_eq_true] at hx'
       obtain ⟨hi,rfl⟩:=Array.getElem?_eq_some_iff.1 hop
       exact hx' i hi
      have hfo:fr.oper? = some o:=by unfold Frame.oper?;rw [htd];exact hop
      have hab:∀ f,o.about P w fr.eval=some f→S f:=by
       intro f hf
       refine hl f ?_
       unfold Frame.about
       simp only [hm,htd,hop]
       exact hf
      by_cases hdf:∃ l c,fr.roundOf=some l∧o.op=.defer c
      ·obtain ⟨l,c,hro,hoc⟩:=hdf
       have hoc':okCall false c=true:=by rw [hoc] at hoo;exact hoo
       refine (moves_apply (S:=S) hS hst (s:=do Instr.deferInRound l (← resolve fr.eval c o.type);pure .skip) ?_).imp fun j h=>h.congr fun main cs w=>by
        simp only [stepG.exec,htd,hwt,if_true,stepG.oper,hfo,hro,hoc]
       refine fine_tame ?_ hw #[]
       refine Tame.bind (fun d hd=>?_) (tame_resolve hoc')
       refine Tame.bind (fun _ _=>tame_pure (show NextOk OC S _ .skip from trivial)) (tame_deferInRound (tgt_okDef hd))
      ·refine (moves_apply (S:=S) hS hst (s:=execOp fr.eval o) (fine_execOp hS (fun _=>rfl) hoo hw hab)).imp fun j h=>h.congr fun main cs w=>?_
       simp only [stepG.exec,htd,hwt,if_true,stepG.oper,hfo]
       split
       ·rename_i l c h1 h2
        exact (hdf ⟨l,c,h1,h2⟩).elim
       ·rfl
    ·refine ⟨0,moves_to (fun main cs w=>?_) (hst.set (frOk_finish hk undef).1 (frOk_finish hk undef).2.1 (frOk_finish hk undef).2.2.1 (frOk_finish hk undef).2.2.2) hw⟩
     simp only [stepG.exec,htd,hwt,G]
     rfl
  | code c =>
   have hc:okCode fr.roundOf.isNone c=true:=hx
   cases c with
   | ret=>exact leave_moves (jump:=some .ret) hst hw (by rintro c h;cases h;rfl) fun main cs w=>by simp only [stepG.exec,htd];cases fr.roundOf <;> rfl
   | skip=>exact to (todo:=k) (fun main cs w=>by simp only [stepG.exec,htd,G]) hkk
   | label l=>exact to (todo:=k) (fun main cs w=>by simp only [stepG.exec,htd,G]) hkk
   | seq a b =>
    simp only [okCode,Bool.and_eq_true] at hc
    refine to (todo:=.code a :: .code b :: k) (fun main cs w=>by simp only [stepG.exec,htd,G]) fun y hy=>?_
    rcases List.mem_cons.1 hy with rfl | hy
    ·exact hc.1
    ·rcases List.mem_cons.1 hy with rfl | hy
     ·exact hc.2
     ·exact hkk y hy
   | cond e a b =>
    simp only [okCode,Bool.and_eq_true] at hc
    by_cases hb:∃ b,fr.eval e=.bool b
    ·obtain ⟨t,ht⟩:=hb
     refine to (todo:=.code (if t then a else b) :: k) (fun main cs w=>by simp only [stepG.exec,htd,ht,G]) fun y hy=>?_
     rcases List.mem_cons.1 hy with rfl | hy
     ·show okCode _ _=true
      cases t
      ·exact hc.2
      ·exact hc.1
     ·exact hkk y hy
    ·refine bad fun main cs w=>?_
     simp only [stepG.exec,htd]
     split
     ·rename_i b' h';exact (hb ⟨b',h'⟩).elim
     ·trivial
   | block id body =>
    refine to (todo:=.code body :: .inBlock id :: k) (fun main cs w=>by simp only [stepG.exec,htd,G]) fun y hy=>?_
    rcases List.mem_cons.1 hy with rfl | hy
    ·exact hc
    ·rcases List.mem_cons.1 hy with rfl | hy
     ·trivial
     ·exact hkk y hy
   | loop body =>
    refine to (todo:=.code body :: .inLoop body :: k) (fun main cs w=>by simp only [stepG.exec,htd,G]) fun y hy=>?_
    rcases List.mem_cons.1 hy with rfl | hy
    ·exact hc
    ·rcases List.mem_cons.1 hy with rfl | hy
     ·exact hc
     ·exact hkk y hy
   | scope body =>
    refine to (todo:=.code body :: .inScope body :: k) (fun main cs w=>by simp only [stepG.exec,htd,G]) fun y hy=>?_
    rcases List.mem_cons.1 hy with rfl | hy
    ·exact hc
    ·rcases List.mem_cons.1 hy with rfl | hy
     ·trivial
     ·exact hkk y hy
   | goto l=>cases hc
   | exit id =>
    cases he:exitTo id k with
    | some k'=>exact to (todo:=k') (fun main cs w=>by simp only [stepG.exec,htd,he,Option.elim_some,G]) (ok_exitTo he hkk)
    | none=>exact leave_moves (jump:=some (.exit id)) hst hw (by rintro c h;cases h;rfl) fun main cs w=>by simp only [stepG.exec,htd,he,Option.elim_none];cases fr.roundOf <;> rfl
   | refuse why=>exact bad fun main cs w=>by simp only [stepG.exec,htd];trivial
   | region id ops draw =>
    have hops:(ops.all fun o=>okOp fr.roundOf.isNone o.op)=true:=hc
    cases draw with
    | false =>
     refine to (todo:=.inRegion ops (List.range ops.size) :: k) (fun main cs w=>by simp only [stepG.exec,htd,G];rfl) fun y hy=>?_
     rcases List.mem_cons.1 hy with rfl | hy
     ·exact hops
     ·exact hkk y hy
    | true =>
     refine ⟨1,.inl ⟨{ fr with todo:=.inRegion ops (Region.schedule (P.follows .mixedOrders) ops (w.tape w.drawn (.order fr.fn id))) :: k },mine,{ w with drawn:=w.drawn+1 },#[],hst.set (frOk_todo hk fun y hy=>?_) rfl rfl rfl,hw,by simp,Nat.le_refl _,rfl,rfl,fun main cs τ d ha=>?_⟩⟩
     ·rcases List.mem_cons.1 hy with rfl | hy
      ·exact hops
      ·exact hkk y hy
     ·have h0:=ha 0 (by omega) (.order fr.fn id)
      simp only [Nat.add_zero] at h0
      simp only [stepG.exec,htd,G,choose,Sem.run,Question.forced,Question.cut,re_tape,re_drawn,h0,Bool.not_true,Bool.false_eq_true,if_false]
      rfl
   | rangeFunc f params assign body =>
    simp only [okCode,Bool.and_eq_true] at hc
    refine moves_after (fn:=fr.fn) (K:=fun main cs r=>match r with
     | .ok (l,mark) w=>stepG.apply P true { fr with todo:=.inRangeFunc l :: k,defers:=mark ++ fr.defers } cs none (do
       let d ← resolve ({ fr with todo:=.inRangeFunc l :: k,defers:=mark ++ fr.defers }:Frame).eval { callee:=.value f,args:=#[.const (.func (.yield l) #[] #[])],argTypes:=#[] } 0
       invoke d.target d.args) w
     | .halt _ w=>.ended (.stuck "range over a function: no such loop" (fr.pos P)) w) (fine_tame (tame_enterLoop hc.1 hc.2) hw #[]) (fun main cs w=>by simp only [stepG.exec,htd];rfl) fun r hr hhr hrun=>?_
    cases r with
    | halt h w'=>exact ⟨0,moves_bad fun cs w=>trivial⟩
    | ok lm w' =>
     obtain ⟨l,mark⟩:=lm
     have hfr:FrOk { fr with todo:=.inRangeFunc l :: k,defers:=mark ++ fr.defers }:=by
      refine ⟨fun y hy=>?_,fun d hd=>?_,hk.kind⟩
      ·rcases List.mem_cons.1 hy with rfl | hy
       ·trivial
       ·exact hkk y hy
      ·exact (List.mem_append.1 hd).elim (hr d) (hk.defers d)
     refine moves_apply (S:=S) hS (hst.set hfr rfl rfl rfl) ?_
     have heval:({ fr with todo:=.inRangeFunc l :: k,defers:=mark ++ fr.defers }:Frame).eval=fr.eval:=by funext x;cases x <;> rfl
     rw [heval]
     refine fine_bind (fine_tame (tame_resolve (r:=fr.roundOf.isNone) rfl) hhr #[]) fun d w1 es1 hw1 hd h1=>?_
     have hrun1:(resolve fr.eval { callee:=.value f,args:=#[.const (.func (.yield l) #[] #[])],argTypes:=#[] } 0).run P w'=.ok d w1:=runT_run h1
     refine fine_invoke hS hd hw1 fun g hg=>hl g ?_
     unfold Frame.about
     simp only [hm,htd,hrun,hrun1]
     exact hg
theorem callDeferred_moves {fr:Frame} {df:Deferred} (hS:Sok P S) (hst:Stk f0 fr mine) (hw:HeapOk OC w) (hd:OkDef df) (hl:∀ f,df.target.leads P w df.args=some f→S f) :
  ∃ j,Moves f0 (fun _ cs w=>callDeferred P fr cs none df w) mine w j:=by
 have hk:=hst.ok
 by_cases hnil:df.target=.nil∧∃ chain,fr.mode=.panicking chain
 ·obtain ⟨h1,chain,h2⟩:=hnil
  exact ⟨0,moves_bad fun cs w=>by unfold callDeferred;simp only [h1,h2];trivial⟩
 have hs:Fine P (NextOk OC S false) (invoke df.target df.args) w #[]:=fine_invoke hS (okDef_tgt hd) hw hl
 obtain ⟨hfa,j,hdr,ht,hloc⟩:=hs
 refine ⟨j,?_⟩
 cases hr:(invoke df.target df.args).runT P w #[] with
 | mk r es =>
  rw [hr] at hfa hdr ht hloc
  have hnd:=nd_seen (P:=P) (fn:=fr.fn) (nd_none hfa.nd)
  cases r with
  | ok x w' =>
   have key:∀ (fr':Frame) (mine':List Frame),Stk f0 fr' mine'→(∀ cs τ d',Agree w j τ d'→callDeferred P fr (mine ++ cs) none df (w.re τ d')=.go (G fr' (mine' ++ cs)) (w'.re τ (d'+j)) (seen P fr.fn es)) →
     Moves f0 (fun _ cs w=>callDeferred P fr cs none df w) mine w j :=
    fun fr' mine' h1 h2=>.inl ⟨fr',mine',w',_,h1,hfa.heap,hnd,hfa.size,hdr,ht,fun _ cs τ d ha=>h2 cs τ d ha⟩
   have hx:=hfa.leaf
   cases x <;> first | (exact hx.elim) | skip
   case recover=>cases (show false=true from hx)
   case enter f args =>
    refine key (Frame.enter P f args .deferred) (fr :: mine) (hst.push (frOk_enter hS hx args (.inr rfl))) fun cs τ d ha=>?_
    unfold callDeferred
    rw [if_neg (by intro h;apply hnil;revert h;cases df.target <;> cases fr.mode <;> simp)]
    simp only [hloc τ d ha,Result.re,GStep.after,Array.append_empty,G,List.cons_append]
   case round l f tmps assign body =>
    refine key (Frame.round l f tmps assign body .deferred) (fr :: mine) (hst.push (frOk_round hx.1 hx.2 (.inr rfl))) fun cs τ d ha=>?_
    unfold callDeferred
    rw [if_neg (by intro h;apply hnil;revert h;cases df.target <;> cases fr.mode <;> simp)]
    simp only [hloc τ d ha,Result.re,GStep.after,Array.append_empty,G,List.cons_append]
   all_goals
    refine key fr mine hst fun cs τ d ha=>?_
    unfold callDeferred
    rw [if_neg (by intro h;apply hnil;revert h;cases df.target <;> cases fr.mode <;> simp)]
    simp only [hloc τ d ha,Result.re,GStep.after,Array.append_empty,G]
  | halt h w' =>
   have hx:=hfa.leaf
   have key:∀ (l:List PanicEntry),(∀ cs τ d',Agree w j τ d'→callDeferred P fr (mine ++ cs) none df (w.re τ d')=.go (G (fr.raise l) (mine ++ cs)) (w'.re τ (d'+j)) (seen P fr.fn es)) →
     Moves f0 (fun _ cs w=>callDeferred P fr cs none df w) mine w j :=
    fun l h2=>.inl ⟨fr.raise l,mine,w',_,hst.set (frOk_raise hk l).1 (frOk_raise hk l).2.1 (frOk_raise hk l).2.2.1 (frOk_raise hk l).2.2.2,hfa.heap,hnd,hfa.size,hdr,ht,fun _ cs τ d ha=>h2 cs τ d ha⟩
   cases h <;> first | (exact hx.elim) | skip
   case panic v =>
    refine key [{ v,recovered:=false }] fun cs τ d ha=>?_
    unfold callDeferred
    rw [if_neg (by intro h;apply hnil;revert h;cases df.target <;> cases fr.mode <;> simp)]
    simp only [hloc τ d ha,Result.re,GStep.after,Array.append_empty,G]
   case goexit =>
    refine key [goexitEntry] fun cs τ d ha=>?_
    unfold callDeferred
    rw [if_neg (by intro h;apply hnil;revert h;cases df.target <;> cases fr.mode <;> simp)]
    simp only [hloc τ d ha,Result.re,GStep.after,Array.append_empty,G]
   all_goals
    refine .inr fun cs τ d ha=>?_
    unfold callDeferred
    dsimp only
    rw [if_neg (by intro h;apply hnil;revert h;cases df.target <;> cases fr.mode <;> simp)]
    simp only [hloc τ d ha,Result.re]
   case exit c=>exact bad_after trivial
   case fatal m=>exact bad_after (bad_endFatal _ _ _ _ _)
   case throw m=>exact bad_after ⟨rfl,_,rfl,rfl,rfl⟩
   case unsupported u=>exact bad_after trivial
   case stuck m=>exact bad_after trivial
theorem calm_results (fn:Func) (tmps:Array Value):Calm (results fn tmps):=by
 unfold results
 refine calm_bind (calm_mapM _ (fun c=>?_) _) fun vs=>inferInstance
 split
 ·infer_instance
 ·infer_instance
theorem unwind_moves {fr:Frame} (hS:Sok P S) (hst:Stk f0 fr mine) (hw:HeapOk OC w) (hm:fr.mode≠.run) (hbase:mine=[]→fr.defers≠[]) (hl:∀ f,fr.about P w=some f→S f) :
  ∃ j,Moves f0 (fun main cs w=>unwind P main fr cs none w) mine w j:=by
 have hk:=hst.ok
 cases hds:fr.defers with
 | cons d ds =>
  have hdd:OkDef d:=hk.defers d (by simp [hds])
  have hds':FrOk { fr with defers:=ds }:=⟨hk.todo,fun x hx=>hk.defers x (by simp [hds,hx]),hk.kind⟩
  by_cases hcol:∃ b,d.target=.collected b
  ·obtain ⟨b,hb⟩:=hcol
   obtain ⟨tg,args⟩:=d
   dsimp only at hb
   subst hb
   refine moves_after (fn:=fr.fn) (K:=fun main cs r=>match r with
    | .ok calls w=>.go (G { fr with defers:=calls ++ ds } cs) w
    | .halt _ w=>.ended (.stuck "the deferred calls of a range-over-func loop have been taken" (fr.pos P)) w) (fine_tame tame_takeDeferred hw #[]) (fun main cs w=>by simp only [unwind,hds,G];rfl) fun r hr hhr _=>?_
   cases r with
   | ok calls w' =>
    refine ⟨0,moves_to (fun main cs w=>rfl) (hst.set ⟨hk.todo,fun x hx=>?_,hk.kind⟩ rfl rfl rfl) hhr⟩
    exact (List.mem_append.1 hx).elim (hr x) (hds'.defers x)
   | halt h w'=>exact ⟨0,moves_bad fun cs w=>trivial⟩
  ·refine (callDeferred_moves (df:=d) hS (hst.set hds' rfl rfl rfl) hw hdd fun f hf=>hl f ?_).imp fun j h=>h.congr fun main cs w=>?_
   ·unfold Frame.about
    cases hmm:fr.mode with
    | run=>exact (hm hmm).elim
    | _=>simp only [hds];exact hf
   ·unfold unwind
    obtain ⟨tg,args⟩:=d
    simp only [hds]
    cases tg <;> first | rfl | exact (hcol ⟨_,rfl⟩).elim
 | nil =>
  cases mine with
  | nil=>exact (hbase rfl hds).elim
  | cons c rest =>
   cases hmm:fr.mode with
   | run=>exact (hm hmm).elim
   | panicking chain =>
    have hcat:fr.catches P=false:=by
     unfold Frame.catches
     split
     ·rename_i d wr resume sv k h1 h2
      exact (mem_todo hk h2).1.elim
     ·rfl
    refine ⟨0,moves_to (fr':=c.raise chain) (mine':=rest) (fun main cs w=>?_) (hst.2.set (frOk_raise hst.2.ok chain).1 (frOk_raise hst.2.ok chain).2.1 (frOk_raise hst.2.ok chain).2.2.1 (frOk_raise hst.2.ok chain).2.2.2) hw⟩
    simp only [unwind,hds,hmm,hcat,List.cons_append,G]
    rfl
   | returning =>
    cases hfn:P.funcs[fr.fn]? with
    | none =>
     obtain ⟨c',h1,h2⟩:=doReturn_moves (P:=P) (v:=fr.tmps.getD 0 undef) hk.kind hst.2
     exact ⟨0,moves_to (fun main cs w=>by simp only [unwind,hds,hmm,hfn];exact h2 main cs w) h1 hw⟩
    | some fn =>
     refine moves_after (fn:=fr.fn) (K:=fun main cs r=>match r with
      | .ok v w=>doReturn P main fr cs none v w
      | .halt (.stuck s) w=>.ended (.stuck s (fr.pos P)) w
      | .halt _ w=>.ended (.stuck "return: the result variables cannot be read" (fr.pos P)) w) (fine_tame (φ:=fun _=>True) ((calm_results fn fr.tmps).t OC P) hw #[]) (fun main cs w=>by simp only [unwind,hds,hmm,hfn];rfl) fun r hr hhr _=>?_
     cases r with
     | ok v w' =>
      obtain ⟨c',h1,h2⟩:=doReturn_moves (P:=P) (v:=v) hk.kind hst.2
      exact ⟨0,moves_to (fun main cs w=>h2 main cs w) h1 hhr⟩
     | halt h w'=>cases h <;> exact ⟨0,moves_bad fun cs w=>trivial⟩
theorem moves {fr:Frame} (hS:Sok P S) (hst:Stk f0 fr mine) (hw:HeapOk OC w) (hbase:mine=[]→fr.mode=.run∨fr.defers≠[]) (hl:∀ f,fr.about P w=some f→S f) :
  ∃ j,Moves f0 (fun main cs w=>stepG P main (G fr cs) w) mine w j:=by
 by_cases hm:fr.mode=.run
 ·refine (exec_moves hS hst hw hm hl).imp fun j h=>h.congr fun main cs w=>?_
  simp only [stepG,G,hm]
 ·refine (unwind_moves hS hst hw hm (fun h=>(hbase h).resolve_left hm) hl).imp fun j h=>h.congr fun main cs w=>?_
  simp only [stepG,G]
end
end Go.Tm
namespace Go.Tm
open Go
open Go.Conc (G solo stepT_solo)
section
variable {P:Program} {S:FuncId→Prop} {f0:FuncId}
theorem run_local {α:Type} {φ:α→Prop} {s:Sem α} (hs:Tame OC P φ s) {w:World} (hw:HeapOk OC w):∃ j,(s.run P w).world.drawn=w.drawn+j∧(s.run P w).world.tape=w.tape∧HeapOk OC (s.run P w).world∧∀ τ d,Agree w j τ d→s.run P (w.re τ d)=(s.run P w).re τ (d+j):=by
 obtain ⟨j,h1,h2,h3⟩:=runT_local s hs w #[] hw
 have e:∀ w,(s.runT P w #[]).1=s.run P w:=fun w=>by rw [Sem.runT_eq]
 have hf:=runT_facts s hs w #[] #[] 0 hw (by simp) (by omega)
 refine ⟨j,by rw [← e];exact h1,by rw [← e];exact h2,by rw [← e];exact hf.heap,fun τ d ha=>?_⟩
 rw [← e,← e,h3 τ d ha]
theorem step_size {m m':Machine} (h:step P m=.next m'):m.gs.size≤m'.gs.size:=stepT_size P m m' _ h
theorem steps_size {I:Machine→Prop} {m m':Machine} (h:StepsIn I P m m'):m.gs.size≤m'.gs.size:=by
 induction h with
 | refl=>exact Nat.le_refl _
 | head _ hs _ ih=>exact Nat.le_trans (step_size hs) ih
theorem step_ended {fr:Frame} {cs:List Frame} {w w':World} {o:Outcome} {es:Array Event} (h:stepG P true (G fr cs) w=.ended o w' es):step P (lone fr cs w)=.ended o w':=by
 refine step_lone_ended (w':=w') (o:=o) ?_
 rw [show stepG P true { frame:=fr,callers:=cs,status:=.running,dying:=none } w=_ from h]
 rfl
theorem step_go {fr:Frame} {cs:List Frame} {w w':World} {g:Goroutine} {es:Array Event} (h:stepG P true (G fr cs) w=.go g w' es):step P (lone fr cs w)=.next (solo g w'):=by
 exact Go.Conc.step_solo_go (rfl) h
theorem blocked_ends {a:Goroutine} {w:World} (h:a.status=.blocked) (m':Machine):step P (solo a w)≠.next m':=by
 simp only [step,stepT,move,ask,askOn,solo,runnable_eq,due,ahead,Goroutine.canRun]
 simp [List.range_succ,pure,h]
 generalize endWith _ _ _ _=e
 cases e <;> simp
theorem send_blocks {fr:Frame} {cs:List Frame} {w w':World} {g:Goroutine} {c:CommCase} {sh:CommShape} {es:Array Event} (h:stepG P true (G fr cs) w=.comm g #[c] true sh w' es) (hw:HeapOk OC w') {m1:Machine}
  (hs:step P (lone fr cs w)=.next m1):∃ a,a.status=.blocked∧m1=solo a w':=by
 have hs':(stepT P (solo (G fr cs) w)).1=.next m1:=hs
 rw [stepT_solo rfl] at hs'
 have e0:solo (G fr cs) w=Go.Conc.crowd #[G fr cs] w none:=rfl
 rw [e0] at hs'
 have hi:(#[G fr cs]:Array Goroutine)[0]? = some (G fr cs):=rfl
 have h':stepG P (0 == 0) (G fr cs) w=.comm g #[c] true sh w' es:=h
 by_cases hill:Go.Conc.illMade w' c=true
 ·exfalso
  rw [Go.Conc.runT_crowd_comm hi h'] at hs'
  have hany:(#[(c:CommCase)]).any (Go.Conc.illMade w')=true:=by simp [hill]
  have hcomm:∀ rest gs,communicate P rest gs 0 g #[c] true sh w'=(.ended (.stuck "a communication at a channel whose block is no channel's" (g.frame.pos P)) w',#[]):=fun rest gs=>by
   unfold communicate
   exact if_pos hany
  rw [hcomm] at hs'
  cases hs'
 ·have hno:∀ cc∈#[(c:CommCase)],Go.Conc.NoWays w' ((#[G fr cs]:Array Goroutine).setIfInBounds 0 Go.Conc.ph) cc:=by
   intro cc hcc
   simp only [List.mem_toArray,List.mem_singleton] at hcc
   have hf:Go.Conc.illMade w' c=false:=by simpa using hill
   rw [hcc]
   refine ⟨hf,?_⟩
   unfold ways
   unfold Go.Conc.illMade at hf
   cases hch:c.chan with
   | chan r =>
    rw [hch] at hf
    cases r with
    | none=>rfl
    | some r =>
     dsimp only at hf ⊢
     cases ho:w'.heap[r]? with
     | none=>rfl
     | some o =>
      rw [ho] at hf
      cases o with
      | chan cap buf closed st rc tm =>
       obtain ⟨rfl,rfl,rfl⟩:=hw r _ ho
       have hp:∀ b,partners #[Go.Conc.ph] r b=[]:=by
        intro b
        refine Go.Conc.partners_nil fun j y hy=>?_
        have hj:j=0:=by have:j < 1:=(Array.getElem?_eq_some_iff.1 hy).1;omega
        subst hj
        cases hy
        exact Go.Conc.offersAt_ph _ _
       cases c.send <;> simp [hp]
      | _=>cases hf
   | _=>rfl
  rw [Go.Conc.crowd_waits hi h' hno] at hs'
  cases hs'
  exact ⟨_,rfl,rfl⟩
inductive Term (P:Program) (Stop:Frame→List Frame→World→Prop):Frame→List Frame→World→Prop
 | stop {fr mine w}:Stop fr mine w→Term P Stop fr mine w
 | step {fr mine w} (fr':Nat→Frame) (mine':Nat→List Frame) (w':Nat→World) (es:Nat→Array Event):(∀ d,∀ e∈es d,ND e)→(∀ d,w.heap.size≤(w' d).heap.size) →
   (∀ d main cs,stepG P main (G fr (mine ++ cs)) (w.at d)=.go (G (fr' d) (mine' d ++ cs)) (w' d) (es d))→(∀ d,Term P Stop (fr' d) (mine' d) (w' d))→Term P Stop fr mine w
theorem Term.step' {Stop:Frame→List Frame→World→Prop} {fr:Frame} {mine:List Frame} {w:World}
  (h:∀ d,∃ fr' mine' w' es,(∀ e∈es,ND e)∧w.heap.size≤w'.heap.size∧(∀ main cs,stepG P main (G fr (mine ++ cs)) (w.at d)=.go (G fr' (mine' ++ cs)) w' es)∧Term P Stop fr' mine' w'):Term P Stop fr mine w:=by
 have a:=fun d=>Classical.choose_spec (h d)
 have b:=fun d=>Classical.choose_spec (a d)
 have c:=fun d=>Classical.choose_spec (b d)
 have e:=fun d=>Classical.choose_spec (c d)
 exact .step _ _ _ _ (fun d=>(e d).1) (fun d=>(e d).2.1) (fun d=>(e d).2.2.1) (fun d=>(e d).2.2.2)
structure Cfg (P:Program) (f0:FuncId) (Stop:Frame→List Frame→World→Prop) (T:Nat→Question→Nat) where
 fr:Frame
 mine:List Frame
 w:World
 stk:Stk f0 fr mine
 heap:HeapOk OC w
 not:¬ Term P Stop fr mine w
 tape:w.tape=T
def SH (f0:FuncId) (Stop:Frame→List Frame→World→Prop):Frame→List Frame→World→Prop:=fun fr mine w=>Stop fr mine w∧HeapOk OC w∧Stk f0 fr mine
end
end Go.Tm
namespace Go.Tm
open Go
open Go.Conc
def noShun:Go.Loc→Prop:=fun _=>False
theorem low_ex (x:MemAct):∃ B,x.low B:=by
 cases x with
 | access e =>
  obtain ⟨l,wr,sy⟩:=e
  cases l with
  | cell a=>exact ⟨a.block+1,Nat.lt_succ_self _⟩
  | obj r=>exact ⟨r+1,Nat.lt_succ_self _⟩
  | _=>exact ⟨0,trivial⟩
 | mark m=>cases m with
  | acquire a | release a | releaseMerge a | read a | write a=>exact ⟨a.block+1,Nat.lt_succ_self _⟩
  | _=>exact ⟨0,trivial⟩
 | go _ | start=>exact ⟨0,trivial⟩
 | send c _ | sendDone c _ | recv c _ _ | recvDone c _ | close c | recvClosed c=>exact ⟨c+1,Nat.lt_succ_self _⟩
theorem low_all (es:Array Event):∃ B,∀ e∈es,(MemAct.ofEvent e).low B:=by
 obtain ⟨l⟩:=es
 induction l with
 | nil=>exact ⟨0,by simp⟩
 | cons e l ih =>
  obtain ⟨B,hB⟩:=ih
  obtain ⟨B',hB'⟩:=low_ex (MemAct.ofEvent e)
  refine ⟨B+B',fun x hx=>?_⟩
  simp only [List.mem_toArray,List.mem_cons] at hx
  rcases hx with rfl | hx
  ·exact MemAct.low_mono (by omega) hB'
  ·exact MemAct.low_mono (by omega) (hB x (by simpa using hx))
def Past' (t:Trace):Prop:=∃ B,Past noShun B t
theorem Past'.own {t:Trace} (h:Past' t) {fn:FuncId} {pos:String} {es:Array Event} (hes:∀ e∈es,ND e):Past' (t ++ MemOp.ofEvents 0 fn pos es):=by
 obtain ⟨B,h⟩:=h
 obtain ⟨B',hB'⟩:=low_all es
 refine ⟨B+B',(h.mono (by omega)).own fun e he=>⟨fun x hx hs=>hs.elim,(hes e he).1,(hes e he).2,MemAct.low_mono (by omega) (hB' e he)⟩⟩
theorem Past'.mute {t:Trace} (h:Past' t) {g:Nat} (hg:g≠0) {fn:FuncId} {pos:String} {es:Array Event} (hm:∀ e∈es,e.mute=true):Past' (t ++ MemOp.ofEvents g fn pos es):=by
 obtain ⟨B,h⟩:=h
 exact ⟨B,h.mute hg hm⟩
structure Com (P:Program) (gs:Array Goroutine) (a:Goroutine) (t:Trace):Prop where
 zero:gs[0]? = some a
 old:∃ q,Leavers P t gs q
 past:Past' t
def ToB (P:Program) (a:Goroutine) (w:World) (Q:Goroutine→World→Prop):Prop :=
 ∀ gs sl t d,Com P gs a t→∃ N gs' a' w' sl' t',runNT P N (crowd gs (w.at d) sl) t=(.next (crowd gs' w' sl'),t')∧Com P gs' a' t'∧Q a' w'
section
variable {P:Program}
theorem runNT_add (N M:Nat) (m:Machine) (t:Trace) (m':Machine) (t':Trace) (h:runNT P N m t=(.next m',t')):runNT P (N+M) m t=runNT P M m' t':=by
 induction N generalizing m t with
 | zero=>cases h;rw [Nat.zero_add]
 | succ N ih =>
  rw [show N+1+M=(N+M)+1 from by omega]
  simp only [runNT] at h ⊢
  cases hs:stepT P m with
  | mk s ops =>
   rw [hs] at h
   cases s with
   | next m1=>exact ih _ _ h
   | ended o w=>cases h
theorem ToB.mono {a:Goroutine} {w:World} {Q Q':Goroutine→World→Prop} (h:ToB P a w Q) (hq:∀ a w,Q a w→Q' a w):ToB P a w Q' :=
 fun gs sl t d hc=>let ⟨N,gs',a',w',sl',t',h1,h2,h3⟩:=h gs sl t d hc;⟨N,gs',a',w',sl',t',h1,h2,hq _ _ h3⟩
theorem ToB.bind {a:Goroutine} {w:World} {Q Q':Goroutine→World→Prop} (h:ToB P a w Q) (hq:∀ a w,Q a w→ToB P a w Q'):ToB P a w Q':=by
 intro gs sl t d hc
 obtain ⟨N,gs',a',w',sl',t',h1,h2,h3⟩:=h gs sl t d hc
 obtain ⟨M,gs2,a2,w2,sl2,t2,h4,h5,h6⟩:=hq a' w' h3 gs' sl' t' w'.drawn h2
 refine ⟨N+M,gs2,a2,w2,sl2,t2,?_,h5,h6⟩
 rw [runNT_add N M _ _ _ _ h1]
 exact h4
theorem ToB.at {a:Goroutine} {w:World} {Q:Goroutine→World→Prop} {d:Nat} (h:ToB P a w Q):ToB P a (w.at d) Q:=fun gs sl t d' hc=>h gs sl t d' hc
theorem toB_step {a:Goroutine} {w:World} {Q:Goroutine→World→Prop} (ha:a.status=.running)
  (h:∀ d,∃ a' w' es,stepG P true a (w.at d)=.go a' w' es∧(∀ e∈es,ND e)∧ToB P a' w' Q):ToB P a w Q:=by
 intro gs sl t d hc
 obtain ⟨h0,⟨q,hL⟩,hP⟩:=hc
 have key:∀ (M:Nat) (gs:Array Goroutine) (sl:Option (Nat × Nat)) (t:Trace) (d:Nat) (q:Nat→Nat),Go.ConcN.sumTo gs.size q≤M→gs[0]? = some a→Leavers P t gs q→Past' t →
   ∃ N gs' a' w' sl' t',runNT P N (crowd gs (w.at d) sl) t=(.next (crowd gs' w' sl'),t')∧Com P gs' a' t'∧Q a' w':=by
  intro M
  induction M using Nat.strongRecOn with
  | _ M ih =>
   intro gs sl t d q hM h0 hL hP
   have haw:∀ g∈gs,awake g:=by
    intro g hg
    obtain ⟨i,hi,rfl⟩:=Array.mem_iff_getElem.1 hg
    rcases Nat.eq_zero_or_pos i with rfl | hpos
    ·have:gs[0]=a:=by simpa [Array.getElem?_eq_getElem hi] using h0
     rw [this];exact awake_of (.inl ha)
    ·exact awake_of ((hL.old i _ hpos (Array.getElem?_eq_getElem hi)).status.elim .inl fun x=>.inr (.inr x))
   obtain ⟨i,g,d',sl',hi,hg,hst⟩:=crowd_pick (P:=P) (w:=w.at d) (sl:=sl) haw ⟨0,a,h0,ha⟩
   rcases Nat.eq_zero_or_pos i with rfl | hpos
   ·obtain rfl:g=a:=by rw [h0] at hi;exact (Option.some.inj hi).symm
    obtain ⟨a',w',es,hgo,hnd,hrest⟩:=h d'
    have hrunT:=runT_crowd_go (P:=P) (sl:=sl') (i:=0) hi (show stepG P (0 == 0) g (w.at d')=_ from hgo)
    have hlt:0 < gs.size:=(Array.getElem?_eq_some_iff.1 h0).1
    obtain ⟨N,gs',a'',w'',sl'',t',hr,hC,hQ⟩:=hrest ((gs.map (woken P g a' w')).setIfInBounds 0 a') sl' (t ++ MemOp.ofEvents 0 g.frame.fn g.frame.place es) w'.drawn
     ⟨by simp [hlt],⟨q,⟨fun j x hj hx=>by
      have hne:0≠j:=by omega
      rw [Array.getElem?_setIfInBounds_ne hne,Array.getElem?_map] at hx
      obtain ⟨y,hy,rfl⟩:=Option.map_eq_some_iff.1 hx
      have hq:=hL.old j y hj hy
      rw [woken_quitsD hq,Deaf_other t (by omega) _ (fun op hop=>by obtain ⟨e,_,rfl⟩:=Go.Conc.mem_ofEvents hop;rfl)]
      exact hq,fun j hj=>by
      rw [Deaf_other t (g':=0) (by simp at hj;omega) _ (fun op hop=>by obtain ⟨e,_,rfl⟩:=Go.Conc.mem_ofEvents hop;rfl)]
      exact hL.above j (by simpa using hj)⟩⟩,hP.own hnd⟩
    refine ⟨N+1,gs',a'',w'',sl'',t',?_,hC,hQ⟩
    simp only [runNT,hst]
    rw [show ((w.at d).at d')=w.at d' from rfl,hrunT]
    exact hr
   ·have hq:=hL.old i g hpos hi
    have hi0:(i == 0)=false:=by simp;omega
    have hlt:i < gs.size:=(Array.getElem?_eq_some_iff.1 hi).1
    cases hqi:q i with
    | zero=>rw [hqi] at hq;rw [hq.1] at hg;cases hg
    | succ k =>
     rw [hqi] at hq
     rcases hq with ⟨hf,_⟩ | ⟨_,g',es,hm,hstp,hq'⟩
     ·rw [hf] at hg;cases hg
     have hsum:Go.ConcN.sumTo gs.size (Go.ConcN.upd q i k)+(k+1)=Go.ConcN.sumTo gs.size q+k:=by
      have:=Go.ConcN.sumTo_upd q k id hlt
      simpa [hqi] using this
     have hrunT:=runT_crowd_go (P:=P) (sl:=sl') (i:=i) hi (by rw [hi0];exact hstp (w.at d'))
     have hsz:((gs.map (woken P g g' (w.at d'))).setIfInBounds i g').size=gs.size:=by simp
     obtain ⟨N,gs',a'',w'',sl'',t',hr,hC,hQ⟩:=ih (M - 1) (by omega) ((gs.map (woken P g g' (w.at d'))).setIfInBounds i g') sl' (t ++ MemOp.ofEvents i g.frame.fn g.frame.place es) d' (Go.ConcN.upd q i k) (by rw [hsz];omega)
      (by
       have hne:i≠0:=by omega
       rw [Array.getElem?_setIfInBounds_ne hne,Array.getElem?_map,h0]
       simp [woken_run ha])
      ⟨fun j x hj hx=>by
       by_cases hji:i=j
       ·subst hji
        rw [Array.getElem?_setIfInBounds_self_of_lt (by simpa using hlt)] at hx
        obtain rfl:=Option.some.inj hx
        rw [Go.ConcN.upd_same,Deaf_own]
        exact hq'
       ·rw [Array.getElem?_setIfInBounds_ne hji,Array.getElem?_map] at hx
        obtain ⟨y,hy,rfl⟩:=Option.map_eq_some_iff.1 hx
        have hqj:=hL.old j y hj hy
        rw [woken_quitsD hqj,Go.ConcN.upd_ne q k (Ne.symm hji),Deaf_other t hji _ (fun op hop=>by obtain ⟨e,_,rfl⟩:=Go.Conc.mem_ofEvents hop;rfl)]
        exact hqj,fun j hj=>by
       rw [Deaf_other t (g':=i) (by simp at hj;omega) _ (fun op hop=>by obtain ⟨e,_,rfl⟩:=Go.Conc.mem_ofEvents hop;rfl)]
       exact hL.above j (by simpa using hj)⟩
      (hP.mute (by omega) hm)
     refine ⟨N+1,gs',a'',w'',sl'',t',?_,hC,hQ⟩
     simp only [runNT,hst]
     rw [show ((w.at d).at d')=w.at d' from rfl,hrunT]
     exact hr
 exact key _ gs sl t d q (Nat.le_refl _) h0 hL hP
theorem toB_here {a:Goroutine} {w:World} {Q:Goroutine→World→Prop} (h:∀ d,Q a (w.at d)):ToB P a w Q :=
 fun gs sl t d hc=>⟨0,gs,a,w.at d,sl,t,rfl,hc,h d⟩
theorem toB_of_term {Stop:Frame→List Frame→World→Prop} (hstop:∀ fr mine w d,Stop fr mine w→Stop fr mine (w.at d)) {fr:Frame} {mine:List Frame} {w:World} (h:Term P Stop fr mine w) (cs:List Frame) :
  ToB P (G fr (mine ++ cs)) w (fun a' w'=>∃ fr' mine',a'=G fr' (mine' ++ cs)∧Stop fr' mine' w'):=by
 induction h with
 | stop hs=>exact toB_here fun d=>⟨_,_,rfl,hstop _ _ _ _ hs⟩
 | step fr' mine' w' es hnd hsz hstep _ ih=>exact toB_step rfl fun d=>⟨_,_,_,hstep d true cs,hnd d,ih d⟩
end
end Go.Tm
