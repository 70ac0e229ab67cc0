/- A part of the proof: U5, U6, U7, U8, U9. -/
import Derived.Test.YtjjmefieegcddaaDoorA09
import Derived.Conc.Crowd
set_option linter.unusedVariables false
set_option linter.unusedSimpArgs false
namespace Go.Tm
open Go
section
variable {P:Program} {w0 w w1:World} {E:Nat→Prop} {fr:Frame} {callers:List Frame} {dy:Option Dying} {main:Bool}
theorem lock_ite {c:Prop} [Decidable c] {a b a1 b1:GStep} (h:c→LockG w0 E a a1) (h':¬c→LockG w0 E b b1):LockG w0 E (if c then a else b) (if c then a1 else b1):=by
 by_cases x:c
 ·rw [if_pos x,if_pos x]
  exact h x
 ·rw [if_neg x,if_neg x]
  exact h' x
theorem apply_lock (hP:Prg P) (hf:FrI fr) (hc:∀ c∈callers,FrI c) {s:Sem Next} (hs:Shy true OC P (NextSh OC fr.roundOf.isNone) s) (ha:Alike w0 E w w1) (hw:HeapOk OC w1) :
  LockG w0 E (stepG.apply P true fr callers dy s w) (stepG.apply P true fr callers dy s w1):=by
 have hno:∀ d wr rs sv k,fr.todo=.call d wr rs sv :: k→False:=fun d wr rs sv k h=>by
  have:=hf.todo
  rw [h] at this
  exact this (.call d wr rs sv) (by simp)
 have hcs:=cons_frI hf hc
 have ev:∀ {es es1:Array Event},EvR es es1→EvR (if (fr.kind == CallKind.early)=true then #[] else es) (if (fr.kind == CallKind.early)=true then #[] else es1):=fun h=>by
  split
  ·exact EvR.refl _
  ·exact h
 unfold stepG.apply
 dsimp only
 simp only [if_true]
 rcases runT_both s hs w w1 #[] #[] ha hw (EvR.refl _) with ⟨h,w',e,hb⟩ | ⟨a,w',w1',es,es1,e1,e2,hφ,ha',hw',hv⟩ | ⟨h,w',w1',es,es1,e1,e2,hn,ha',hw',hv⟩
 ·rw [e]
  cases h <;> first
   | exact hb.elim
   | exact .lost bad_stuck
   | (rename_i u;cases u <;> first | exact hb.elim | exact .lost bad_uns)
 ·rw [e1,e2]
  have hv':=seen_evR hP.norace fr.fn (ev hv)
  cases a <;> first | (exact hφ.elim) | skip
  case value v=>exact lock_after (lock_go ⟨frI_finish hf v,hc⟩ ha' hw') hv'
  case skip=>exact lock_after (lock_go ⟨frI_finish hf _,hc⟩ ha' hw') hv'
  case enter f args=>exact lock_after (lock_go ⟨frI_enter hP f args _,hcs⟩ ha' hw') hv'
  case round l f tmps assign body=>exact lock_after (lock_go ⟨frI_round hφ.1 hφ.2 _,hcs⟩ ha' hw') hv'
  next d =>
   exact lock_after (lock_go ⟨frI_finish (fr:={ fr with defers:=d :: fr.defers }) ⟨hf.todo,fun x hx=>(List.mem_cons.1 hx).elim (fun e=>e ▸ hφ) (hf.defers x)⟩ undef,hc⟩ ha' hw') hv'
  case recover =>
   have hro:fr.roundOf=none:=by
    have:fr.roundOf.isNone=true:=hφ
    simpa using this
   refine lock_after ?_ hv'
   simp only [hro]
   cases ht:tryRecover fr callers with
   | none=>exact lock_go ⟨frI_finish hf _,hc⟩ ha' hw'
   | some x =>
    obtain ⟨v,cs⟩:=x
    exact lock_go ⟨frI_finish hf v,frI_recover callers fr v cs hc ht⟩ ha' hw'
  case comm c b sh=>exact lock_after (.comm ⟨hf,hc⟩ rfl ha' hw' (EvR.refl _)) hv'
  case spawn d =>
   refine lock_after ?_ hv'
   dsimp only
   refine lock_ite (fun _=>dieOf_lock hf ha' hw') (fun _=>?_)
   ·refine .spawn ⟨frI_finish hf _,hc⟩ rfl ⟨⟨fun x hx=>(nomatch hx),fun x hx=>?_⟩,fun _ h=>nomatch h⟩ rfl ha' hw' (EvR.refl _)
    rcases List.mem_singleton.1 hx with rfl
    exact hφ
 ·rw [e1,e2]
  have hv':=seen_evR hP.norace fr.fn (ev hv)
  have hv0:=seen_evR hP.norace fr.fn (ev (EvR.refl #[]))
  cases h <;> first
   | exact lock_after (lock_end ha') hv'
   | skip
  case panic v=>exact lock_after (lock_go ⟨frI_raise hf _,hc⟩ ha' hw') hv'
  case goexit=>exact lock_after (lock_go ⟨frI_raise hf _,hc⟩ ha' hw') hv'
  case blocked=>exact lock_after (lock_go ⟨hf,hc⟩ ha' hw') hv0
  case waiting=>exact lock_after (lock_go ⟨hf,hc⟩ ha' hw') hv0
  case fatal m=>exact lock_after (endFatal_lock hf ha' hw') hv'
  case throw m=>exact lock_after (dieOf_lock hf ha' hw') hv'
  case unsupported u=>cases u <;> first | exact hn.elim | exact lock_after (lock_end ha') hv'
theorem doReturn_lock (hP:Prg P) (hf:FrI fr) (hc:∀ c∈callers,FrI c) {v:Value} (ha:Alike w0 E w w1) (hw:HeapOk OC w1) :
  LockG w0 E (doReturn P main fr callers dy v w) (doReturn P main fr callers dy v w1):=by
 unfold doReturn
 cases callers with
 | cons c rest =>
  have h0:FrI c:=hc c (by simp)
  have hr:∀ x∈rest,FrI x:=fun x hx=>hc x (by simp [hx])
  dsimp only
  split
  ·exact lock_go ⟨frI_finish h0 v,hr⟩ ha hw
  ·exact lock_go ⟨frI_finish h0 v,hr⟩ ha hw
  ·exact lock_go ⟨h0,hr⟩ ha hw
  ·refine lock_go ⟨?_,hr⟩ ha hw
   split
   ·split
    ·exact frI_mode h0 _
    ·exact frI_mode h0 _
   ·exact h0
 | nil =>
  dsimp only
  split
  ·exact lock_go ⟨hf,fun _ h=>nomatch h⟩ ha hw
  ·exact lock_end ha
  ·split
   ·exact lock_go ⟨hf,fun _ h=>nomatch h⟩ ha hw
   ·split
    ·exact lock_go ⟨frI_enter hP _ _ _,fun _ h=>nomatch h⟩ ha hw
    ·exact lock_end ha
theorem leave_lock (hP:Prg P) (hf:FrI fr) (hc:∀ c∈callers,FrI c) {jump:Option Code} (hj:∀ c,jump=some c→OC c) {F:World→GStep} (ha:Alike w0 E w w1) (hw:HeapOk OC w1)
  (hF:∀ w,F w=(match fr.roundOf with
   | none=>if plainJump jump then .go { frame:={ fr with mode:=.returning },callers,status:=.running,dying:=dy } w else .ended (.stuck "exit, goto: no such block or label" (fr.pos P)) w
   | some l =>
    let (r,es):=(Instr.endRound l jump).runT P w #[]
    GStep.after (seen P fr.fn es) <| match r with
    | .ok v w=>doReturn P main fr callers dy v w
    | .halt _ w=>.ended (.stuck "range over a function: no such loop" (fr.pos P)) w)):LockG w0 E (F w) (F w1):=by
 rw [hF,hF]
 have h0:FrI { fr with mode:=.returning }:=frI_mode hf _
 revert h0
 cases fr.roundOf with
 | none=>exact fun h0=>lock_ite (fun _=>lock_go ⟨h0,hc⟩ ha hw) (fun _=>lock_end ha)
 | some l =>
  intro _
  refine lock_piece hP (shy_endRound hj) ha hw (fun r=>match r with
    | .ok v w=>doReturn P main fr callers dy v w
    | .halt _ w=>.ended (.stuck "range over a function: no such loop" (fr.pos P)) w) ?_ ?_ ?_
  ·exact fun h w _=>⟨_,_,_,rfl,bad_stuck⟩
  ·exact fun a w w1 _ ha hw=>doReturn_lock hP hf hc ha hw
  ·exact fun h w w1 _ ha hw=>lock_end ha
theorem exec_lock (hP:Prg P) (hf:FrI fr) (hc:∀ c∈callers,FrI c) (ha:Alike w0 E w w1) (hw:HeapOk OC w1) :
  LockG w0 E (stepG.exec P main true fr callers dy w) (stepG.exec P main true fr callers dy w1):=by
 have to:∀ {todo:List Item} (_:∀ w,stepG.exec P main true fr callers dy w=.go { frame:={ fr with todo },callers,status:=.running,dying:=dy } w) (_:∀ x∈todo,ItemOk fr.roundOf.isNone x),
   LockG w0 E (stepG.exec P main true fr callers dy w) (stepG.exec P main true fr callers dy w1):=fun h ht=>by
  rw [h,h]
  exact lock_go ⟨frI_todo hf ht,hc⟩ ha hw
 have lost:∀ (o:Outcome),bad o→(∀ w,stepG.exec P main true fr callers dy w=.ended o w)→LockG w0 E (stepG.exec P main true fr callers dy w) (stepG.exec P main true fr callers dy w1):=fun o ho h=>by
  rw [h w1]
  exact .lost ho
 cases htd:fr.todo with
 | nil=>exact leave_lock (main:=main) (jump:=none) hP hf hc (by simp) ha hw fun w=>by simp only [stepG.exec,htd];cases fr.roundOf <;> rfl
 | cons x k =>
  have hx:ItemOk fr.roundOf.isNone x:=hf.todo x (by simp [htd])
  have hkk:∀ y∈k,ItemOk fr.roundOf.isNone y:=fun y hy=>hf.todo y (by simp [htd,hy])
  have two:∀ {a b:Item},ItemOk fr.roundOf.isNone a→ItemOk fr.roundOf.isNone b→∀ y∈a :: b :: k,ItemOk fr.roundOf.isNone y:=fun h1 h2 y hy=>by
   rcases List.mem_cons.1 hy with rfl | hy
   ·exact h1
   ·rcases List.mem_cons.1 hy with rfl | hy
    ·exact h2
    ·exact hkk y hy
  have one:∀ {a:Item},ItemOk fr.roundOf.isNone a→∀ y∈a :: k,ItemOk fr.roundOf.isNone y:=fun h1 y hy=>by
   rcases List.mem_cons.1 hy with rfl | hy
   ·exact h1
   ·exact hkk y hy
  cases x with
  | call d wr res sv=>exact hx.elim
  | extern row args=>exact hx.elim
  | inScope c=>exact to (todo:=k) (fun w=>by simp only [stepG.exec,htd]) hkk
  | inBlock id=>exact to (todo:=k) (fun w=>by simp only [stepG.exec,htd]) hkk
  | inLoop body=>exact to (todo:=.code body :: .inLoop body :: k) (fun w=>by simp only [stepG.exec,htd]) (two hx hx)
  | beginRound =>
   have e:∀ w,stepG.exec P main true fr callers dy w=stepG.apply P true fr callers dy (do fr.roundOf.elim (stuck "beginRound: no round") Instr.beginRound;pure .skip) w:=fun w=>by simp only [stepG.exec,htd]
   rw [e,e]
   refine apply_lock hP hf hc ?_ ha hw
   cases fr.roundOf with
   | none=>exact Shy.bind (φ:=fun _=>True) (fun _ _=>shy_pureφ trivial) (by exact shy_stuckφ)
   | some l=>exact Shy.bind (fun _ _=>shy_pureφ trivial) (shy_beginRound (l:=l))
  | inRangeFunc l=>exact lost (.unsupported (.noEntry "a range function without a Go body that blocks") (fr.pos P)) bad_uns fun w=>by simp only [stepG.exec,htd]
  | endRangeFunc l =>
   have e:∀ w,stepG.exec P main true fr callers dy w=GStep.after (seen P fr.fn ((Instr.endLoop l).runT P w #[]).2) (match ((Instr.endLoop l).runT P w #[]).1 with
    | .ok jump w=>.go { frame:={ fr with todo:=(jump.map Item.code).toList ++ k },callers,status:=.running,dying:=dy } w
    | .halt (.panic v) w=>.go { frame:=fr.raise [{ v,recovered:=false }],callers,status:=.running,dying:=dy } w
    | .halt _ w=>.ended (.stuck "range over a function: no such loop" (fr.pos P)) w):=fun w=>by simp only [stepG.exec,htd];rfl
   rw [e,e]
   refine lock_piece hP shy_endLoop ha hw (fun r=>match r with
    | .ok jump w=>.go { frame:={ fr with todo:=(jump.map Item.code).toList ++ k },callers,status:=.running,dying:=dy } w
    | .halt (.panic v) w=>.go { frame:=fr.raise [{ v,recovered:=false }],callers,status:=.running,dying:=dy } w
    | .halt _ w=>.ended (.stuck "range over a function: no such loop" (fr.pos P)) w) ?_ ?_ ?_
   ·intro h w hb
    cases h <;> first | exact hb.elim | exact ⟨_,_,_,rfl,bad_stuck⟩
   ·intro jump w w1 hr ha hw
    refine lock_go ⟨frI_todo hf fun y hy=>?_,hc⟩ ha hw
    rcases List.mem_append.1 hy with hy | hy
    ·cases jump with
     | none=>simp at hy
     | some c =>
      simp only [Option.map_some,Option.toList_some,List.mem_singleton] at hy
      subst hy
      exact okCode_mono (hr c rfl)
    ·exact hkk y hy
   ·intro h w w1 hn ha hw
    cases h <;> first
     | exact lock_end ha
     | exact lock_go ⟨frI_raise hf _,hc⟩ ha hw
  | inRegion ops todo =>
   cases todo with
   | nil=>exact to (todo:=k) (fun w=>by simp only [stepG.exec,htd]) hkk
   | cons i rest =>
    by_cases hwt:(((ops[i]?).map (Region.wanted · (yielded ops fr.tmps))).getD false)=true
    ·cases hop:ops[i]? with
     | none=>rw [hop] at hwt;cases hwt
     | some o =>
      have hoo:okOp fr.roundOf.isNone o.op=true:=by
       have hx':(ops.all fun o=>okOp fr.roundOf.isNone o.op)=true:=hx
       rw [Array.all_eq_true] at hx'
       obtain ⟨hi,rfl⟩:=Array.getElem?_eq_some_iff.1 hop
       exact hx' i hi
      have hfo:fr.oper? = some o:=by unfold Frame.oper?;rw [htd];exact hop
      by_cases hdf:∃ l c,fr.roundOf=some l∧o.op=.defer c
      ·obtain ⟨l,c,hro,hoc⟩:=hdf
       have hoc':okCall false c=true:=by rw [hoc] at hoo;exact hoo
       have e:∀ w,stepG.exec P main true fr callers dy w=stepG.apply P true fr callers dy (do Instr.deferInRound l (← resolve fr.eval c o.type);pure .skip) w:=fun w=>by
        simp only [stepG.exec,htd,hwt,if_true,stepG.oper,hfo,hro,hoc]
       rw [e,e]
       refine apply_lock hP hf hc ?_ ha hw
       refine Shy.bind (fun d hd=>?_) (shy_resolve hoc')
       exact Shy.bind (fun _ _=>shy_pureφ trivial) (shy_deferInRound (tgt_okDef hd))
      ·have e:∀ w,stepG.exec P main true fr callers dy w=stepG.apply P true fr callers dy (execOp fr.eval o) w:=fun w=>by
        simp only [stepG.exec,htd,hwt,if_true,stepG.oper,hfo]
        split
        ·rename_i l c h1 h2
         exact (hdf ⟨l,c,h1,h2⟩).elim
        ·rfl
       rw [e,e]
       exact apply_lock hP hf hc (shy_execOp hP (fun _=>rfl) hoo) ha hw
    ·have e:∀ w,stepG.exec P main true fr callers dy w=.go { frame:=fr.finish undef,callers,status:=.running,dying:=dy } w:=fun w=>by
      simp only [stepG.exec,htd,hwt]
      rfl
     rw [e,e]
     exact lock_go ⟨frI_finish hf _,hc⟩ ha hw
  | code c =>
   have hcd:okCode fr.roundOf.isNone c=true:=hx
   cases c with
   | ret=>exact leave_lock (main:=main) (jump:=some .ret) hP hf hc (by rintro c h;cases h;rfl) ha hw fun w=>by simp only [stepG.exec,htd];cases fr.roundOf <;> rfl
   | skip=>exact to (todo:=k) (fun w=>by simp only [stepG.exec,htd]) hkk
   | label l=>exact to (todo:=k) (fun w=>by simp only [stepG.exec,htd]) hkk
   | seq a b =>
    simp only [okCode,Bool.and_eq_true] at hcd
    exact to (todo:=.code a :: .code b :: k) (fun w=>by simp only [stepG.exec,htd]) (two hcd.1 hcd.2)
   | cond e a b =>
    simp only [okCode,Bool.and_eq_true] at hcd
    by_cases hb:∃ b,fr.eval e=.bool b
    ·obtain ⟨t,ht⟩:=hb
     refine to (todo:=.code (if t then a else b) :: k) (fun w=>by simp only [stepG.exec,htd,ht]) (one ?_)
     show okCode _ _=true
     cases t
     ·exact hcd.2
     ·exact hcd.1
    ·refine lost (.stuck "cond: bool expected" (fr.pos P)) bad_stuck fun w=>?_
     simp only [stepG.exec,htd]
     split
     ·rename_i b' h';exact (hb ⟨b',h'⟩).elim
     ·rfl
   | block id body=>exact to (todo:=.code body :: .inBlock id :: k) (fun w=>by simp only [stepG.exec,htd]) (two hcd trivial)
   | loop body=>exact to (todo:=.code body :: .inLoop body :: k) (fun w=>by simp only [stepG.exec,htd]) (two hcd hcd)
   | scope body=>exact to (todo:=.code body :: .inScope body :: k) (fun w=>by simp only [stepG.exec,htd]) (two hcd trivial)
   | goto l=>cases hcd
   | exit id =>
    cases he:exitTo id k with
    | some k'=>exact to (todo:=k') (fun w=>by simp only [stepG.exec,htd,he,Option.elim_some]) (ok_exitTo he hkk)
    | none=>exact leave_lock (main:=main) (jump:=some (.exit id)) hP hf hc (by rintro c h;cases h;rfl) ha hw fun w=>by simp only [stepG.exec,htd,he,Option.elim_none];cases fr.roundOf <;> rfl
   | refuse why=>exact lost (.unsupported (Unsupported.elab why) (fr.pos P)) bad_uns fun w=>by simp only [stepG.exec,htd]
   | region id ops draw =>
    have hops:(ops.all fun o=>okOp fr.roundOf.isNone o.op)=true:=hcd
    cases draw with
    | false=>exact to (todo:=.inRegion ops (List.range ops.size) :: k) (fun w=>by simp only [stepG.exec,htd];rfl) (one hops)
    | true =>
     have e:∀ w,stepG.exec P main true fr callers dy w=(match (choose (.order fr.fn id)).run P w with
      | .ok t w=>.go { frame:={ fr with todo:=.inRegion ops (Region.schedule (P.follows .mixedOrders) ops t) :: k },callers,status:=.running,dying:=dy } w
      | .halt _ w=>.ended (.stuck "order" (fr.pos P)) w):=fun w=>by simp only [stepG.exec,htd];rfl
     rw [e,e]
     refine lock_run (P:=P) (φ:=fun _=>True) (Shyc.t (s:=choose (.order fr.fn id)) _ _) ha hw (fun r=>match r with
      | .ok t w=>.go { frame:={ fr with todo:=.inRegion ops (Region.schedule (P.follows .mixedOrders) ops t) :: k },callers,status:=.running,dying:=dy } w
      | .halt _ w=>.ended (.stuck "order" (fr.pos P)) w) ?_ ?_ ?_
     ·exact fun h w _=>⟨_,_,_,rfl,bad_stuck⟩
     ·exact fun t w w1 _ ha hw=>lock_go ⟨frI_todo hf (one hops),hc⟩ ha hw
     ·exact fun h w w1 _ ha hw=>lock_end ha
   | rangeFunc f params assign body =>
    simp only [okCode,Bool.and_eq_true] at hcd
    have e:∀ w,stepG.exec P main true fr callers dy w=GStep.after (seen P fr.fn ((Instr.enterLoop fr.fn fr.tmps params assign body fr.roundOf).runT P w #[]).2) (match ((Instr.enterLoop fr.fn fr.tmps params assign body fr.roundOf).runT P w #[]).1 with
     | .ok (l,mark) w=>stepG.apply P true { fr with todo:=.inRangeFunc l :: k,defers:=mark ++ fr.defers } callers dy (do
       let d ← resolve ({ fr with todo:=.inRangeFunc l :: k,defers:=mark ++ fr.defers }:Frame).eval { callee:=.value f,args:=#[.const (.func (.yield l) #[] #[])],argTypes:=#[] } 0
       invoke d.target d.args) w
     | .halt _ w=>.ended (.stuck "range over a function: no such loop" (fr.pos P)) w):=fun w=>by simp only [stepG.exec,htd];rfl
    rw [e,e]
    refine lock_piece hP (shy_enterLoop hcd.1 hcd.2) ha hw (fun r=>match r with
     | .ok (l,mark) w=>stepG.apply P true { fr with todo:=.inRangeFunc l :: k,defers:=mark ++ fr.defers } callers dy (do
       let d ← resolve ({ fr with todo:=.inRangeFunc l :: k,defers:=mark ++ fr.defers }:Frame).eval { callee:=.value f,args:=#[.const (.func (.yield l) #[] #[])],argTypes:=#[] } 0
       invoke d.target d.args) w
     | .halt _ w=>.ended (.stuck "range over a function: no such loop" (fr.pos P)) w) ?_ ?_ ?_
    ·exact fun h w _=>⟨_,_,_,rfl,bad_stuck⟩
    ·rintro ⟨l,mark⟩ w w1 hr ha hw
     have hfr:FrI { fr with todo:=.inRangeFunc l :: k,defers:=mark ++ fr.defers }:=⟨one trivial,fun d hd=>(List.mem_append.1 hd).elim (hr d) (hf.defers d)⟩
     exact apply_lock hP hfr hc (Shy.bind (fun d hd=>shy_invoke hP hd) (shy_resolve (r:=fr.roundOf.isNone) rfl)) ha hw
    ·exact fun h w w1 _ ha hw=>lock_end ha
theorem callDeferred_lock (hP:Prg P) (hf:FrI fr) (hc:∀ c∈callers,FrI c) {d:Deferred} (hd:OkDef d) (ha:Alike w0 E w w1) (hw:HeapOk OC w1) :
  LockG w0 E (callDeferred P fr callers dy d w) (callDeferred P fr callers dy d w1):=by
 have hcs:=cons_frI hf hc
 have hbl:FrI { fr with defers:=d :: fr.defers }:=⟨hf.todo,fun x hx=>(List.mem_cons.1 hx).elim (fun e=>e ▸ hd) (hf.defers x)⟩
 unfold callDeferred
 dsimp only
 refine lock_ite (fun _=>lock_end ha) (fun _=>?_)
 have hs:Shy true OC P (NextSh OC false) (invoke d.target d.args):=shy_invoke hP (okDef_tgt hd)
 rcases runT_both _ hs w w1 #[] #[] ha hw (EvR.refl _) with ⟨h,w',e,hb⟩ | ⟨a,w',w1',es,es1,e1,e2,hφ,ha',hw',hv⟩ | ⟨h,w',w1',es,es1,e1,e2,hn,ha',hw',hv⟩
 ·rw [e]
  cases h <;> first
   | exact hb.elim
   | exact .lost bad_stuck
   | exact .lost bad_uns
 ·rw [e1,e2]
  have hv':=seen_evR hP.norace fr.fn hv
  cases a <;> first | (exact hφ.elim) | skip
  case recover=>cases (show false=true from hφ)
  case enter f args=>exact lock_after (lock_go ⟨frI_enter hP f args _,hcs⟩ ha' hw') hv'
  case round l f tmps assign body=>exact lock_after (lock_go ⟨frI_round hφ.1 hφ.2 _,hcs⟩ ha' hw') hv'
  all_goals exact lock_after (lock_go ⟨hf,hc⟩ ha' hw') hv'
 ·rw [e1,e2]
  have hv':=seen_evR hP.norace fr.fn hv
  have hv0:=seen_evR hP.norace fr.fn (EvR.refl #[])
  cases h <;> first
   | exact lock_after (lock_end ha') hv'
   | skip
  case panic v=>exact lock_after (lock_go ⟨frI_raise hf _,hc⟩ ha' hw') hv'
  case goexit=>exact lock_after (lock_go ⟨frI_raise hf _,hc⟩ ha' hw') hv'
  case blocked=>exact lock_after (lock_go ⟨hbl,hc⟩ ha' hw') hv0
  case waiting=>exact lock_after (lock_go ⟨hbl,hc⟩ ha' hw') hv0
  case fatal m=>exact lock_after (endFatal_lock hf ha' hw') hv'
  case throw m=>exact lock_after (dieOf_lock hf ha' hw') hv'
instance shy_results (fn:Func) (tmps:Array Value):Shyc (results fn tmps):=by
 unfold results
 refine shy_bind (shy_mapM _ (fun c=>?_) _) fun vs=>inferInstance
 split
 ·infer_instance
 ·infer_instance
theorem unwind_lock (hP:Prg P) (hf:FrI fr) (hc:∀ c∈callers,FrI c) (ha:Alike w0 E w w1) (hw:HeapOk OC w1) :
  LockG w0 E (unwind P main fr callers dy w) (unwind P main fr callers dy w1):=by
 cases hds:fr.defers with
 | cons d ds =>
  have hdd:OkDef d:=hf.defers d (by simp [hds])
  have hds':FrI { fr with defers:=ds }:=⟨hf.todo,fun x hx=>hf.defers x (by simp [hds,hx])⟩
  by_cases hcol:∃ b,d.target=.collected b
  ·obtain ⟨b,hb⟩:=hcol
   obtain ⟨tg,args⟩:=d
   dsimp only at hb
   subst hb
   have e:∀ w,unwind P main fr callers dy w=GStep.after (seen P fr.fn ((Instr.takeDeferred b).runT P w #[]).2) (match ((Instr.takeDeferred b).runT P w #[]).1 with
    | .ok calls w=>.go { frame:={ fr with defers:=calls ++ ds },callers,status:=.running,dying:=dy } w
    | .halt _ w=>.ended (.stuck "the deferred calls of a range-over-func loop have been taken" (fr.pos P)) w):=fun w=>by simp only [unwind,hds];rfl
   rw [e,e]
   refine lock_piece hP shy_takeDeferred ha hw (fun r=>match r with
    | .ok calls w=>.go { frame:={ fr with defers:=calls ++ ds },callers,status:=.running,dying:=dy } w
    | .halt _ w=>.ended (.stuck "the deferred calls of a range-over-func loop have been taken" (fr.pos P)) w) ?_ ?_ ?_
   ·exact fun h w _=>⟨_,_,_,rfl,bad_stuck⟩
   ·exact fun calls w w1 hr ha hw=>lock_go ⟨⟨hf.todo,fun x hx=>(List.mem_append.1 hx).elim (hr x) (hds'.defers x)⟩,hc⟩ ha hw
   ·exact fun h w w1 _ ha hw=>lock_end ha
  ·have e:∀ w,unwind P main fr callers dy w=callDeferred P { fr with defers:=ds } callers dy d w:=fun w=>by
    unfold unwind
    obtain ⟨tg,args⟩:=d
    simp only [hds]
    cases tg <;> first | rfl | exact (hcol ⟨_,rfl⟩).elim
   rw [e,e]
   exact callDeferred_lock hP hds' hc hdd ha hw
 | nil =>
  unfold unwind
  simp only [hds]
  cases hm:fr.mode with
  | run=>exact lock_end ha
  | panicking chain =>
   dsimp only
   split
   ·exact lock_end ha
   ·cases callers with
    | cons c rest=>exact lock_go ⟨frI_raise (hc c (by simp)) chain,fun x hx=>hc x (by simp [hx])⟩ ha hw
    | nil =>
     cases dy with
     | none =>
      dsimp only
      split
      ·exact lock_go ⟨hf,fun _ h=>nomatch h⟩ ha hw
      ·refine lock_run (φ:=fun _=>True) (Shyc.t _ _) ha hw (fun r=>match r with
        | .ok todo w=>.go { frame:=fr,callers:=[],status:=.running,dying:=some { todo,texts:=[],calling:=false,pending := "", runtimeError:=isRuntimeError P (chain.head?.map (·.v)) } } w
        | .halt (.unsupported u) w=>.ended (.unsupported u "") w
        | .halt _ w=>.ended (.stuck "the report of a panic" "") w) ?_ ?_ ?_
       ·intro h w hb
        cases h <;> first | exact hb.elim | exact ⟨_,_,_,rfl,bad_uns⟩ | exact ⟨_,_,_,rfl,bad_stuck⟩
       ·exact fun todo w w1 _ ha hw=>lock_go ⟨hf,fun _ h=>nomatch h⟩ ha hw
       ·intro h w w1 hn ha hw
        cases h <;> exact lock_end ha
     | some d =>
      dsimp only
      split
      ·exact endPrinting_lock hf ha hw
      ·exact lock_end ha
  | returning =>
   cases hfn:P.funcs[fr.fn]? with
   | none=>exact doReturn_lock hP hf hc ha hw
   | some fn =>
    refine lock_piece hP (φ:=fun _=>True) (Shyc.t (s:=results fn fr.tmps) _ _) ha hw (fun r=>match r with
     | .ok v w=>doReturn P main fr callers dy v w
     | .halt (.stuck s) w=>.ended (.stuck s (fr.pos P)) w
     | .halt _ w=>.ended (.stuck "return: the result variables cannot be read" (fr.pos P)) w) ?_ ?_ ?_
    ·intro h w hb
     cases h <;> first | exact hb.elim | exact ⟨_,_,_,rfl,bad_stuck⟩
    ·exact fun v w w1 _ ha hw=>doReturn_lock hP hf hc ha hw
    ·intro h w w1 hn ha hw
     cases h <;> exact lock_end ha
class Shyd {α:Type} (s:Sem α):Prop where
 t:∀ (C:Code→Prop) (P:Program),Shy false C P (fun _=>True) s
theorem shyd_bind {α β:Type} {s:Sem α} {f:α→Sem β} (h:Shyd s) (hf:∀ a,Shyd (f a)):Shyd (s >>= f):=⟨fun C P=>Shy.bind (fun a _=>(hf a).t C P) (h.t C P)⟩
theorem shyd_ite {α:Type} {c:Prop} [Decidable c] {a b:Sem α} (ha:Shyd a) (hb:Shyd b):Shyd (if c then a else b):=by split <;> assumption
instance {α:Type} {a:α}:Shyd (pure a:Sem α):=⟨fun _ _=>trivial⟩
instance {α:Type} {a:α}:Shyd (Sem.pure a:Sem α):=⟨fun _ _=>trivial⟩
instance {m:Mark}:Shyd (mark m):=⟨fun _ _=>⟨fun h=>(nomatch h),trivial⟩⟩
instance {c:Sys}:Shyd (sys c):=⟨fun _ _=>⟨fun h=>(nomatch h),fun _=>trivial⟩⟩
instance:Shyd program:=⟨fun _ _=>trivial⟩
instance {a:Addr} {m:Mode}:Shyd (load a m):=⟨fun _ _ _=>trivial⟩
instance {a:Addr} {v:Value} {m:Mode}:Shyd (store a v m):=⟨fun _ _=>trivial⟩
instance {α:Type} {s:String}:Shyd (unsupported (.noEntry s):Sem α):=⟨fun _ _=>⟨fun h=>(nomatch h),trivial⟩⟩
instance {α:Type} {s:String}:Shyd (stuck s:Sem α):=⟨fun _ _=>⟨fun h=>(nomatch h),trivial⟩⟩
instance {α:Type}:Shyd (Sem.halt .blocked:Sem α):=⟨fun _ _=>⟨fun h=>(nomatch h),trivial⟩⟩
instance:Shyd Extern.PrintPieces.held:=by
 unfold Extern.PrintPieces.held
 repeat' (first | infer_instance | apply shyd_ite | apply shyd_bind | intro _ | dsimp only | split)
theorem writeOn_lock (hP:Prg P) (hf:FrI fr) {d:Dying} {f:Fatal} (ha:Alike w0 E w w1) (hw:HeapOk OC w1):LockG w0 E (writeOn P fr d f w) (writeOn P fr d f w1):=by
 unfold writeOn
 dsimp only
 split
 ·exact lock_end ha
 ·rename_i piece rest _
  generalize hws:(if (!(f.whole && f.begun))=true then (_:Sem Unit) else _)=write
  have hs:Shyd write:=by
   rw [← hws]
   repeat' (first | infer_instance | apply shyd_ite | apply shyd_bind | intro _ | dsimp only | split)
  rcases runT_both (C:=OC) (P:=P) (φ:=fun _=>True) write (hs.t _ _) w w1 #[] #[] ha hw (EvR.refl _) with ⟨h,w',e,hb⟩ | ⟨a,w',w1',es,es1,e1,e2,hφ,ha',hw',hv⟩ | ⟨h,w',w1',es,es1,e1,e2,hn,ha',hw',hv⟩
  ·generalize write.runT P w1 #[]=x at e
   obtain ⟨r,es⟩:=x
   dsimp only at e
   subst e
   cases h <;> first | exact hb.elim | exact .lost bad_uns | exact .lost bad_stuck
  ·rw [e1,e2]
   exact .go ⟨hf,fun _ h=>nomatch h⟩ rfl ha' hw' hv
  ·rw [e1,e2]
   cases h <;> first | exact lock_end ha' | exact lock_go ⟨hf,fun _ h=>nomatch h⟩ ha' hw'
theorem die_lock (hP:Prg P) (hf:FrI fr) {d:Dying} (ha:Alike w0 E w w1) (hw:HeapOk OC w1):LockG w0 E (die P fr d w) (die P fr d w1):=by
 have hn0:∀ c∈([]:List Frame),FrI c:=fun _ h=>nomatch h
 unfold die
 split
 ·exact writeOn_lock hP hf ha hw
 split
 ·have:printLockHeld P w1=printLockHeld P w:=by unfold printLockHeld;rw [ha.cell]
  rw [this]
  split
  ·exact lock_go ⟨hf,hn0⟩ ha hw
  ·exact endWith_lock ha
 ·dsimp only
  split
  ·exact lock_go ⟨hf,hn0⟩ ha hw
  ·rename_i v mark rest _ _ s _
   refine lock_run (P:=P) (φ:=fun _=>True) (Shyc.t (s:=withAddress s) _ _) ha hw (fun r=>match r with
    | .ok s w=>.go { frame:=fr,callers:=[],status:=.running,dying:=some { { d with todo:=rest,pending:=mark } with texts:=(s,mark) :: d.texts } } w
    | .halt _ w=>.ended (.stuck "report: an address" "") w) ?_ ?_ ?_
   ·exact fun h w _=>⟨_,_,_,rfl,bad_stuck⟩
   ·exact fun s w w1 _ ha hw=>lock_go ⟨hf,hn0⟩ ha hw
   ·exact fun h w w1 _ ha hw=>lock_end ha
  ·rename_i v mark rest _ _ t recv name _
   have hs:Shy true OC P (NextSh OC false) (invoke (.fn (.method name) #[]) #[.iface t recv]):=shy_invoke hP trivial
   rcases runT_both _ hs w w1 #[] #[] ha hw (EvR.refl _) with ⟨h,w',e,hb⟩ | ⟨a,w',w1',es,es1,e1,e2,hφ,ha',hw',hv⟩ | ⟨h,w',w1',es,es1,e1,e2,hn,ha',hw',hv⟩
   ·rw [e]
    cases h <;> first
     | exact hb.elim
     | exact .lost bad_stuck
     | exact .lost bad_uns
   ·rw [e1,e2]
    have hv':=seen_evR hP.norace fr.fn hv
    cases a <;> first | (exact hφ.elim) | skip
    case enter f args=>exact lock_after (lock_go ⟨frI_enter hP f args _,hn0⟩ ha' hw') hv'
    case value v =>
     refine lock_after ?_ hv'
     cases v <;> first | exact lock_end ha | exact lock_go ⟨hf,hn0⟩ ha' hw'
    all_goals exact lock_after (lock_end ha) hv'
   ·rw [e1,e2]
    have hv':=seen_evR hP.norace fr.fn hv
    cases h <;> first
     | exact lock_after (lock_end ha') hv'
     | exact lock_after (lock_end ha) hv'
     | exact lock_after (endPrinting_lock hf ha' hw') hv'
  ·exact lock_end ha
theorem stepG_lock (hP:Prg P) {g:Goroutine} (hg:GI g) (ha:Alike w0 E w w1) (hw:HeapOk OC w1):LockG w0 E (stepG P main g w) (stepG P main g w1):=by
 obtain ⟨fr,callers,st,dy,off⟩:=g
 obtain ⟨hf,hc⟩:=hg
 dsimp only at hf hc
 unfold stepG
 dsimp only
 split
 ·exact die_lock hP hf ha hw
 ·exact exec_lock hP hf hc ha hw
 ·exact unwind_lock hP hf hc ha hw
end
end Go.Tm
namespace Go.Tm
open Go
open Go.Conc
def ActA (a a1:MemAct):Prop:=a1=a∨∃ r s,a=.access ⟨.obj r,false,s⟩∧a1=.access ⟨.obj r,false,false⟩
def OpA (o o1:MemOp):Prop:=o1.g=o.g∧ActA o.act o1.act
def TrR (t t1:Trace):Prop:=t1.size=t.size∧∀ (i:Nat) (o o1:MemOp),t[i]? = some o→t1[i]? = some o1→OpA o o1
theorem OpA.refl (o:MemOp):OpA o o:=⟨rfl,.inl rfl⟩
theorem TrR.refl (t:Trace):TrR t t:=⟨rfl,fun i o o1 h h1=>by rw [h] at h1;cases h1;exact OpA.refl _⟩
theorem TrR.append {t t1 u u1:Trace} (h:TrR t t1) (k:TrR u u1):TrR (t ++ u) (t1 ++ u1):=by
 refine ⟨by simp [h.1,k.1],fun i o o1 ho ho1=>?_⟩
 simp only [Array.getElem?_append,h.1] at ho ho1
 split at ho
 ·next c =>
  rw [if_pos c] at ho1
  exact h.2 i o o1 ho ho1
 ·next c =>
  rw [if_neg c] at ho1
  exact k.2 _ o o1 ho ho1
theorem act_of {e e1:Event} (h:EvA e e1):ActA (.ofEvent e) (.ofEvent e1):=by
 rcases h with rfl | ⟨r,h1,rfl,h2⟩
 ·exact .inl rfl
 ·obtain ⟨l,wr,sy⟩:=e
  dsimp only at h1 h2
  subst h1
  subst h2
  exact .inr ⟨r,sy,rfl,rfl⟩
theorem EvL.at {l l1:List Event} (h:EvL l l1):l1.length=l.length∧∀ (i:Nat) (e e1:Event),l[i]? = some e→l1[i]? = some e1→EvA e e1:=by
 induction h with
 | nil=>exact ⟨rfl,fun i e e1 h=>by simp at h⟩
 | cons a _ ih =>
  refine ⟨by simp [ih.1],fun i e e1 h h1=>?_⟩
  cases i with
  | zero =>
   simp only [List.getElem?_cons_zero,Option.some.injEq] at h h1
   subst h
   subst h1
   exact a
  | succ i =>
   simp only [List.getElem?_cons_succ] at h h1
   exact ih.2 i e e1 h h1
theorem TrR.ofEvents {es es1:Array Event} (h:EvR es es1) (g:Nat) (fn:FuncId) (pos:String):TrR (MemOp.ofEvents g fn pos es) (MemOp.ofEvents g fn pos es1):=by
 obtain ⟨hl,ha⟩:=EvL.at h
 have e:∀ es:Array Event,MemOp.ofEvents g fn pos es=es.map fun e=>{ g,fn,pos,act:=.ofEvent e }:=by
  intro es
  unfold MemOp.ofEvents
  split
  ·next h=>rw [Array.isEmpty_iff.1 h];simp
  ·rfl
 rw [e,e]
 refine ⟨by simpa using hl,fun i o o1 ho ho1=>?_⟩
 simp only [Array.getElem?_map,Option.map_eq_some_iff] at ho ho1
 obtain ⟨x,hx,rfl⟩:=ho
 obtain ⟨x1,hx1,rfl⟩:=ho1
 exact ⟨rfl,act_of (ha i x x1 (by simpa using hx) (by simpa using hx1))⟩
def OffOk (w w1:World) (g:Goroutine):Prop:=∀ cs sh,g.offers=some (cs,sh)→∀ c∈cs,∀ r,c.chan=.chan (some r)→w1.heap[r]? = w.heap[r]?
structure GA (w0:World) (gs:Array Goroutine) (w w1:World):Prop where
 alike:Alike w0 (fun _=>False) w w1
 heap:HeapOk OC w1
 gi:∀ g∈gs,GI g
 off:∀ g∈gs,OffOk w w1 g
inductive LockM (w0:World):Stepped × Array MemOp→Stepped × Array MemOp→Prop
 | lost {s:Stepped × Array MemOp} {o:Outcome} {w:World} {ops:Array MemOp}:bad o→LockM w0 s (.ended o w,ops)
 | next {gs:Array Goroutine} {sl:Option (Nat × Nat)} {w w1:World} {ops ops1:Array MemOp}:GA w0 gs w w1→TrR ops ops1→LockM w0 (.next (crowd gs w sl),ops) (.next (crowd gs w1 sl),ops1)
 | ended {o:Outcome} {w w1:World} {ops ops1:Array MemOp}:Alike w0 (fun _=>False) w w1→TrR ops ops1→LockM w0 (.ended o w,ops) (.ended o w1,ops1)
section
variable {P:Program} {w0 w w1:World} {gs:Array Goroutine} {sl:Option (Nat × Nat)}
def Eq2 (w w1:World):Nat→Prop:=fun i=>w1.heap[i]? = w.heap[i]?
theorem Alike.now {E:Nat→Prop} (h:Alike w0 E w w1):Alike w0 (Eq2 w w1) w w1:={ h with same:=fun _ h=>h }
theorem Alike.any {E:Nat→Prop} (h:Alike w0 E w w1):Alike w0 (fun _=>False) w w1:={ h with same:=fun _ h=>h.elim }
theorem OffOk.step {w' w1':World} {g:Goroutine} (h:OffOk w w1 g) (ha:Alike w0 (Eq2 w w1) w' w1'):OffOk w' w1' g:=fun cs sh he c hc r hr=>ha.same r (h cs sh he c hc r hr)
def shutAt (w:World) (c:CommCase):Bool:=match c.chan with
 | .chan (some r)=>(w.heap[r]? matches some (.chan _ _ true ..))
 | _=>false
theorem again_both {g:Goroutine} (h:OffOk w w1 g):g.again w1=g.again w:=by
 unfold Goroutine.again
 split
 ·rename_i cs sh hs ho
  have e:∀ c∈cs,shutAt w1 c=shutAt w c:=by
   intro c hc
   unfold shutAt
   split
   ·rename_i r hr
    rw [h _ _ ho c hc r hr]
   ·rfl
  have:cs.any (shutAt w1)=cs.any (shutAt w):=by
   rw [Bool.eq_iff_iff,Array.any_eq_true',Array.any_eq_true']
   constructor
   ·rintro ⟨c,hc,hx⟩
    exact ⟨c,hc,(e c hc) ▸ hx⟩
   ·rintro ⟨c,hc,hx⟩
    exact ⟨c,hc,(e c hc) ▸ hx⟩
  show (if cs.any (shutAt w1) then { g with status:=.running } else g)=if cs.any (shutAt w) then { g with status:=.running } else g
  rw [this]
 all_goals rfl
theorem again_parts (g:Goroutine) (w:World):(g.again w).frame=g.frame∧(g.again w).callers=g.callers∧(g.again w).offers=g.offers:=by
 unfold Goroutine.again
 split
 ·dsimp only
  split <;> exact ⟨rfl,rfl,rfl⟩
 all_goals exact ⟨rfl,rfl,rfl⟩
theorem GI.again {g:Goroutine} (h:GI g) (w:World):GI (g.again w):=by
 obtain ⟨e1,e2,_⟩:=again_parts g w
 exact ⟨by rw [e1];exact h.fr,by rw [e2];exact h.callers⟩
theorem OffOk.again {g:Goroutine} {v:World} (h:OffOk w w1 g):OffOk w w1 (g.again v):=by
 unfold OffOk
 rw [(again_parts g v).2.2]
 exact h
theorem OffOk.none {g:Goroutine} (h:g.offers=none):OffOk w w1 g:=fun cs sh he=>by rw [h] at he;cases he
theorem mem_setIf {α:Type} {a:Array α} {i:Nat} {x y:α} (h:y∈a.setIfInBounds i x):y=x∨y∈a:=by
 obtain ⟨j,hj⟩:=Array.mem_iff_getElem?.1 h
 rw [Array.getElem?_setIfInBounds] at hj
 split at hj
 ·split at hj
  ·exact .inl (Option.some.inj hj).symm
  ·cases hj
 ·exact .inr (Array.mem_of_getElem? hj)
theorem GA.set {g:Goroutine} {i:Nat} (h:GA w0 gs w w1) (hg:GI g) (ho:OffOk w w1 g):GA w0 (gs.setIfInBounds i g) w w1 :=
 ⟨h.alike,h.heap,fun x hx=>(mem_setIf hx).elim (fun e=>e ▸ hg) (h.gi x),fun x hx=>(mem_setIf hx).elim (fun e=>e ▸ ho) (h.off x)⟩
theorem GA.push {g:Goroutine} (h:GA w0 gs w w1) (hg:GI g) (ho:OffOk w w1 g):GA w0 (gs.push g) w w1 :=
 ⟨h.alike,h.heap,fun x hx=>(Array.mem_push.1 hx).elim (h.gi x) (fun e=>e ▸ hg),fun x hx=>(Array.mem_push.1 hx).elim (h.off x) (fun e=>e ▸ ho)⟩
theorem GA.again {v:World} (h:GA w0 gs w w1):GA w0 (gs.map (·.again v)) w w1:=by
 refine ⟨h.alike,h.heap,fun x hx=>?_,fun x hx=>?_⟩
 ·obtain ⟨y,hy,rfl⟩:=Array.mem_map.1 hx
  exact (h.gi y hy).again v
 ·obtain ⟨y,hy,rfl⟩:=Array.mem_map.1 hx
  exact (h.off y hy).again
theorem GA.step {w' w1':World} (h:GA w0 gs w w1) (ha:Alike w0 (Eq2 w w1) w' w1') (hw:HeapOk OC w1'):GA w0 gs w' w1' :=
 ⟨ha.any,hw,h.gi,fun x hx=>(h.off x hx).step ha⟩
theorem map_again (h:GA w0 gs w w1):gs.map (·.again w1)=gs.map (·.again w):=by
 apply Array.map_congr_left
 exact fun g hg=>again_both (h.off g hg)
def wayOk (w:World) (gs:Array Goroutine) (cases:Array CommCase) (x:Nat × CommCase × Way):Prop:=(x.2.1∈cases∧x.2.2∈ways w gs x.2.1)∨x.2.2=.closed
theorem shy_pickWay {C:Code→Prop} {cases:Array CommCase} {ready:List (Nat × CommCase × List Way)} (h:∀ x∈ready,x.2.1∈cases∧x.2.2=ways w gs x.2.1) :
  Shy true C P (wayOk w gs cases) (do
   let a ← choose (.select ready.length)
   let (k,c,ws):=ready.getD a (0,default,[])
   let b ← choose (.extern "which waiting goroutine is the partner" ws.length)
   pure (k,c,ws.getD b .closed)):=by
 intro a
 show Shy true C P (wayOk w gs cases) (match ready.getD a (0,default,[]) with | (k,c,ws)=>choose (.extern "which waiting goroutine is the partner" ws.length) >>= fun b=>pure (k,c,ws.getD b .closed))
 generalize hx:ready.getD a (0,default,[])=x
 obtain ⟨k,c,ws⟩:=x
 intro b
 show wayOk w gs cases (k,c,ws.getD b .closed)
 by_cases hb:b < ws.length
 ·refine .inl ?_
  by_cases ha:a < ready.length
  ·have:ready.getD a (0,default,[])=ready[a]:=by simp [List.getD,ha]
   rw [this] at hx
   have hm:=h _ (List.getElem_mem ha)
   rw [hx] at hm
   refine ⟨hm.1,?_⟩
   have e:ws.getD b .closed=ws[b]:=by simp [List.getD,hb]
   show ws.getD b .closed∈_
   rw [e,← hm.2]
   exact List.getElem_mem hb
  ·have:ready.getD a (0,default,[])=(0,default,[]):=by simp [List.getD,Nat.le_of_not_lt ha]
   rw [this] at hx
   cases hx
   simp at hb
 ·refine .inr ?_
  show ws.getD b .closed=.closed
  simp [List.getD,Nat.le_of_not_lt hb]
theorem finishPartner_ga (h:GA w0 gs w w1) (k j:Nat) (v:Value):GA w0 (finishPartner P gs k j v) w w1:=by
 unfold finishPartner
 have key:∀ g∈gs.modify k (fun g=>match g.offers with | some (cs,shape)=>g.finishComm P cs shape j v (((cs[j]?).map (·.send.isNone)).getD false) | none=>g),GI g∧OffOk w w1 g:=by
  intro g hg
  obtain ⟨i,hi,rfl⟩:=Array.mem_iff_getElem.1 hg
  simp only [Array.size_modify] at hi
  rw [Array.getElem_modify]
  have h1:=h.gi _ (Array.getElem_mem hi)
  have h2:=h.off _ (Array.getElem_mem hi)
  split
  ·split
   ·exact ⟨⟨frI_finish h1.fr _,h1.callers⟩,OffOk.none rfl⟩
   ·exact ⟨h1,h2⟩
  ·exact ⟨h1,h2⟩
 exact ⟨h.alike,h.heap,fun g hg=>(key g hg).1,fun g hg=>(key g hg).2⟩
theorem GA.chan (h:GA w0 gs w w1) {r cap:Nat} {buf:Array Value} {cl:Bool} {s t:Nat} {tm:Bool} (ho:OkObj OC (.chan cap buf cl s t tm)):GA w0 gs { w with heap:=w.heap.setIfInBounds r (.chan cap buf cl s t tm) } { w1 with heap:=w1.heap.setIfInBounds r (.chan cap buf cl s t tm) } :=
 h.step (h.alike.now.set r _ (by simp)) (heapOk_set h.heap ho)
end
end Go.Tm
namespace Go.Tm
open Go
open Go.Conc
section
variable {P:Program} {w0 w w1:World} {gs:Array Goroutine} {sl:Option (Nat × Nat)} {g:Goroutine} {i:Nat}
theorem lockM_ite {c c1:Prop} [Decidable c] [Decidable c1] {a b a1 b1:Stepped × Array MemOp} (hc:¬c1→¬c) (h1:c1→∀ s,LockM w0 s a1) (h2:¬c1→LockM w0 b b1):LockM w0 (if c then a else b) (if c1 then a1 else b1):=by
 by_cases x:c1
 ·rw [if_pos x]
  exact h1 x _
 ·rw [if_neg x,if_neg (hc x)]
  exact h2 x
theorem lockM_ite2 {c:Prop} [Decidable c] {a b a1 b1:Stepped × Array MemOp} (h1:c→LockM w0 a a1) (h2:¬c→LockM w0 b b1):LockM w0 (if c then a else b) (if c then a1 else b1):=by
 by_cases x:c
 ·rw [if_pos x,if_pos x]
  exact h1 x
 ·rw [if_neg x,if_neg x]
  exact h2 x
abbrev restOf (sl:Option (Nat × Nat)):Rest:={ timers:=#[],alone:=none,slice:=sl }
theorem lockM_put {ops:Array MemOp} (h:GA w0 gs w w1) (hg:GI g) (ho:OffOk w w1 g):LockM w0 (.next { world:=w,gs:=gs.setIfInBounds i g,rest:=restOf sl },ops) (.next { world:=w1,gs:=gs.setIfInBounds i g,rest:=restOf sl },ops) :=
 .next (h.set hg ho) (TrR.refl _)
theorem waiting_some (cases:Array CommCase) (w:World):waitingAt (restOf sl) cases w=some w:=by
 have:timerAhead (restOf sl) w.os.mono cases=false:=by
  unfold timerAhead
  rw [Array.any_eq_false]
  intro k hk
  split <;> simp
 unfold waitingAt
 rw [this]
 rfl
theorem comm_lock {cases:Array CommCase} {b:Bool} {sh:CommShape} (h:GA w0 gs w w1) (hg:GI g) :
  LockM w0 (communicate P (restOf sl) gs i g cases b sh w) (communicate P (restOf sl) gs i g cases b sh w1):=by
 have same:∀ (r cap:Nat) (buf:Array Value) (cl:Bool) (s t:Nat) (tm:Bool),w1.heap[r]? = some (.chan cap buf cl s t tm)→w.heap[r]? = w1.heap[r]?:=by
  intro r cap buf cl s t tm hr
  rcases h.alike.at r with e | ⟨o,_,_,e2⟩
  ·exact e.symm
  ·rw [hr] at e2
   cases e2
 unfold communicate
 dsimp only
 refine lockM_ite (fun hn=>?_) (fun _ s=>.lost bad_stuck) (fun hn=>?_)
 all_goals
  have hch:∀ c∈cases,c.chan=.chan none∨∃ (r cap:Nat) (buf:Array Value) (cl:Bool) (s t:Nat) (tm:Bool),c.chan=.chan (some r)∧w1.heap[r]? = some (.chan cap buf cl s t tm):=by
   intro c hc
   have hx:=fun y=>hn (Array.any_eq_true'.2 ⟨c,hc,y⟩)
   revert hx
   cases hcc:c.chan <;> first | (intro hx;exact absurd rfl hx) | skip
   rename_i v
   cases v with
   | none=>exact fun _=>.inl rfl
   | some r =>
    intro hx
    refine .inr ⟨r,?_⟩
    cases hr:w1.heap[r]? with
    | none=>exact absurd (by dsimp only;rw [hr];rfl) hx
    | some o =>
     cases o <;> first
      | exact absurd (by dsimp only;rw [hr];rfl) hx
      | exact ⟨_,_,_,_,_,_,rfl,rfl⟩
 ·intro hy
  obtain ⟨c,hc,hx⟩:=Array.any_eq_true'.1 hy
  rcases hch c hc with e | ⟨r,cap,buf,cl,s,t,tm,e,hr⟩
  ·rw [e] at hx
   cases hx
  ·rw [e] at hx
   dsimp only at hx
   rw [same r _ _ _ _ _ _ hr,hr] at hx
   cases hx
 have hE:∀ c∈cases,∀ r,c.chan=.chan (some r)→w1.heap[r]? = w.heap[r]?:=by
  intro c hc r hr
  rcases hch c hc with e | ⟨r',cap,buf,cl,s,t,tm,e,hr'⟩
  ·rw [e] at hr
   cases hr
  ·rw [e] at hr
   cases hr
   exact (same _ _ _ _ _ _ _ hr').symm
 have hw:∀ c∈cases,ways w1 gs c=ways w gs c:=by
  intro c hc
  unfold ways
  split
  ·rename_i r hr
   rw [hE c hc r hr]
  ·rfl
 obtain ⟨R,hR⟩:∃ R,R=cases.zipIdx.toList.map fun x=>(x.2,x.1,ways w gs x.1):=⟨_,rfl⟩
 have mem:∀ x∈cases.zipIdx.toList,x.1∈cases:=by
  intro x hx
  rw [Array.toList_zipIdx] at hx
  simpa using List.fst_mem_of_mem_zipIdx hx
 have key:∀ (f:CommCase × Nat→Nat × CommCase × List Way),(∀ x∈cases.zipIdx.toList,f x=(x.2,x.1,ways w gs x.1))→cases.zipIdx.toList.map f=R:=by
  intro f hf
  rw [hR]
  exact List.map_congr_left hf
 rw [key _ (fun x hx=>?_),key _ (fun x hx=>?_)]
 rotate_left
 ·exact Prod.ext rfl (Prod.ext rfl (hw _ (mem x hx)))
 ·rfl
 have hready:∀ x∈R,x.2.1∈cases∧x.2.2=ways w gs x.2.1:=by
  intro x hx
  rw [hR] at hx
  obtain ⟨y,hy,rfl⟩:=List.mem_map.1 hx
  exact ⟨mem y hy,rfl⟩
 refine lockM_ite2 (fun _=>?_) (fun _=>?_)
 ·refine lockM_ite2 (fun _=>?_) (fun _=>lockM_put h ⟨frI_finish hg.fr _,hg.callers⟩ (OffOk.none rfl))
  rw [waiting_some,waiting_some]
  refine lockM_put h ⟨hg.fr,hg.callers⟩ fun cs sh e c hc r hr=>?_
  cases e
  exact hE c hc r hr
 generalize hf:R.filter _=R'
 have hready':∀ x∈R',x.2.1∈cases∧x.2.2=ways w gs x.2.1:=by
  intro x hx
  rw [← hf] at hx
  exact hready x (List.mem_filter.1 hx).1
 generalize hp:(bind (choose (.select R'.length)) _:Sem _)=pick
 have hs:Shy true OC P (wayOk w gs cases) pick:=by
  rw [← hp]
  exact shy_pickWay hready'
 rcases runT_both pick hs w w1 #[] #[] h.alike.now h.heap (EvR.refl _) with ⟨h',w',e,hb⟩ | ⟨⟨k,c,way⟩,w',w1',es,es1,e1,e2,hφ,ha',hw',hv⟩ | ⟨h',w',w1',es,es1,e1,e2,hn',ha',hw',hv⟩
 ·have:pick.run P w1=.halt h' w':=by
   rw [← e,Sem.runT_eq]
  rw [this]
  exact .lost bad_stuck
 ·rw [runT_run e1,runT_run e2]
  have h2:GA w0 gs w' w1':=h.step ha' hw'
  dsimp only
  have fin:∀ v ok,GI (g.finishComm P cases sh k v ok):=fun v ok=>⟨frI_finish hg.fr _,hg.callers⟩
  rcases hφ with ⟨hc,hway⟩ | hcl
  ·dsimp only at hc hway
   rcases hch c hc with e | ⟨r,cap,buf,cl,s,t,tm,e,hr⟩
   ·unfold ways at hway
    rw [e] at hway
    cases hway
   ·have ho:=h.heap r _ hr
    obtain ⟨hcap,hbuf,hclo⟩:=ho
    subst hcap
    subst hbuf
    subst hclo
    have hpt:∃ a b,way=.partner a b:=by
     unfold ways at hway
     rw [e] at hway
     dsimp only at hway
     rw [same _ _ _ _ _ _ _ hr,hr] at hway
     cases hsd:c.send with
     | some v =>
      rw [hsd] at hway
      dsimp only at hway
      rw [if_neg (by simp)] at hway
      split at hway
      ·simp at hway
      ·obtain ⟨x,_,hx⟩:=List.mem_map.1 hway
       exact ⟨_,_,hx.symm⟩
     | none =>
      rw [hsd] at hway
      dsimp only at hway
      rw [if_neg (by simp)] at hway
      split at hway
      ·simp at hway
      ·obtain ⟨x,_,hx⟩:=List.mem_map.1 hway
       exact ⟨_,_,hx.symm⟩
    obtain ⟨pa,pb,rfl⟩:=hpt
    have hsame:=ha'.same r (hE c hc r e)
    rw [e]
    dsimp only
    rw [← hsame]
    cases hr':w1'.heap[r]? with
    | none=>exact .ended h2.alike (TrR.refl _)
    | some o =>
     cases o <;> first
      | exact .ended h2.alike (TrR.refl _)
      | skip
     have ho':=h2.heap r _ hr'
     cases hsd:c.send with
     | some v=>exact lockM_put (finishPartner_ga (P:=P) h2 pa pb v |>.chan ho') (fin _ _) (OffOk.none rfl)
     | none=>exact lockM_put (finishPartner_ga (P:=P) h2 pa pb undef |>.chan ho') (fin _ _) (OffOk.none rfl)
  ·dsimp only at hcl
   subst hcl
   exact lockM_put h2 (fin _ _) (OffOk.none rfl)
 ·rw [runT_run e1,runT_run e2]
  exact .ended ha'.any (TrR.refl _)
end
end Go.Tm
namespace Go.Tm
open Go
open Go.Conc
section
variable {P:Program} {w0 w w1:World} {gs:Array Goroutine} {sl:Option (Nat × Nat)}
theorem LockM.pre {s s1:Stepped} {more more1 ops ops1:Array MemOp} (h:LockM w0 (s,more) (s1,more1)) (ho:TrR ops ops1):LockM w0 (s,ops ++ more) (s1,ops1 ++ more1):=by
 cases h with
 | lost h=>exact .lost h
 | next h k=>exact .next h (ho.append k)
 | ended h k=>exact .ended h (ho.append k)
theorem ph_gi:GI { (default:Goroutine) with status:=.finished } :=
 ⟨⟨fun x hx=>(nomatch (show x∈([]:List Item) from hx)),fun x hx=>(nomatch (show x∈([]:List Deferred) from hx))⟩,fun x hx=>(nomatch (show x∈([]:List Frame) from hx))⟩
theorem TrR.push {t t1:Trace} (h:TrR t t1) (o:MemOp):TrR (t.push o) (t1.push o):=by
 rw [Array.push_eq_append,Array.push_eq_append]
 exact h.append (TrR.refl _)
theorem GA.ph (h:GA w0 gs w w1) {i:Nat} (hi:i < gs.size):GA w0 (gs.set i { (default:Goroutine) with status:=.finished } hi) w w1:=by
 have key:∀ x∈gs.set i { (default:Goroutine) with status:=.finished } hi,x={ (default:Goroutine) with status:=.finished }∨x∈gs:=by
  intro x hx
  obtain ⟨j,hj⟩:=Array.mem_iff_getElem?.1 hx
  rw [Array.getElem?_set] at hj
  split at hj
  ·exact .inl (Option.some.inj hj).symm
  ·exact .inr (Array.mem_of_getElem? hj)
 exact ⟨h.alike,h.heap,fun x hx=>(key x hx).elim (fun e=>e ▸ ph_gi) (h.gi x),fun x hx=>(key x hx).elim (fun e=>by subst e;exact OffOk.none rfl) (h.off x)⟩
theorem runT_lock (hP:Prg P) (h:GA w0 gs w w1) {i:Nat} (hi:i < gs.size):LockM w0 (runT P (crowd gs w sl) i) (runT P (crowd gs w1 sl) i):=by
 have hg:=h.gi _ (Array.getElem_mem hi)
 have hs:=stepG_lock (main:=i == 0) hP hg h.alike.now h.heap
 unfold runT
 dsimp only [crowd]
 rw [swapAt_of_lt hi]
 dsimp only
 have hph:=h.ph hi
 generalize gs.set i { (default:Goroutine) with status:=.finished } hi=gs2 at hph ⊢
 generalize stepG P (i == 0) gs[i] w=s at hs ⊢
 generalize stepG P (i == 0) gs[i] w1=s1 at hs ⊢
 cases hs with
 | lost hb=>exact .lost hb
 | go hg ho ha hw hv =>
  have h2:=hph.step ha hw
  dsimp only
  have er:∀ (b:Bool) (X Y:Rest),(if (b && (none:Option Nat) == some i)=true then X else Y)=Y:=by intro b X Y;cases b <;> rfl
  rw [map_again h2,er]
  refine .next (GA.set ?_ hg (OffOk.none ho)) (TrR.ofEvents hv _ _ _)
  split
  ·exact h2.again
  ·exact h2
 | comm hg ho ha hw hv=>exact (comm_lock (hph.step ha hw) hg).pre (TrR.ofEvents hv _ _ _)
 | spawn hg ho hc hco ha hw hv =>
  exact .next (((hph.step ha hw).set hg (OffOk.none ho)).push hc (OffOk.none hco)) (((TrR.ofEvents hv _ _ _).push _).push _)
 | ended ha hv=>exact .ended ha.any (TrR.ofEvents hv _ _ _)
end
end Go.Tm
namespace Go.Tm
open Go
open Go.Conc
section
variable {P:Program} {w0 w w1:World} {gs:Array Goroutine} {sl:Option (Nat × Nat)}
theorem GA.at {d:Nat} (h:GA w0 gs w w1):GA w0 gs (w.at d) (w1.at d) :=
 ⟨h.alike.other rfl rfl h.alike.tape rfl h.alike.os h.alike.output,h.heap,h.gi,fun g hg=>h.off g hg⟩
theorem choose_at (q:Question) (h:Alike w0 (fun _=>False) w w1):∃ k d,(choose q).run P w=.ok k (w.at d)∧(choose q).run P w1=.ok k (w1.at d)∧(∀ n,(q=.sched n∨∃ s,q=.extern s n)→0 < n→k < n):=by
 have run:∀ v:World,(choose q).run P v=if q.forced=true then .ok 0 v else .ok (q.cut (v.tape v.drawn q)) { v with drawn:=v.drawn+1 }:=fun _=>rfl
 by_cases hq:q.forced=true
 ·refine ⟨0,w.drawn,?_,?_,fun n _ h=>h⟩
  ·rw [run,if_pos hq]
   rfl
  ·rw [run,if_pos hq,← h.drawn]
   rfl
 ·refine ⟨q.cut (w.tape w.drawn q),w.drawn+1,?_,?_,?_⟩
  ·rw [run,if_neg hq]
   rfl
  ·have e:w1.tape w1.drawn q=w.tape w.drawn q:=by rw [h.tape,h.drawn]
   rw [run,if_neg hq,e,h.drawn]
   rfl
  ·rintro n (rfl | ⟨s,rfl⟩) hn
   ·exact Nat.mod_lt _ hn
   ·show (if n=0 then _ else _) < n
    rw [if_neg (by omega)]
    exact Nat.mod_lt _ hn
theorem GA.os (h:GA w0 gs w w1) (os:Os):GA w0 gs { w with os:=os } { w1 with os:=os } :=
 ⟨h.alike.other rfl rfl h.alike.tape h.alike.drawn rfl h.alike.output,h.heap,h.gi,fun g hg=>h.off g hg⟩
theorem GA.adv (h:GA w0 gs w w1) (t:Nat):GA w0 gs { w with os:=w.os.advanceTo t } { w1 with os:=w1.os.advanceTo t }:=by
 rw [h.alike.os]
 exact h.os _
def doMove (P:Program):Move→Stepped × Array MemOp
 | .goroutine m i=>runT P m i
 | .machine s ops=>(s,ops)
theorem endW_lock (h:Alike w0 (fun _=>False) w w1) (t:ByteArray) (o:Outcome):LockM w0 (doMove P (match endWith w 2 t o with | .ended o w _=>.machine (.ended o w) | _=>.machine (.ended (.stuck "" "") default))) (doMove P (match endWith w1 2 t o with | .ended o w _=>.machine (.ended o w) | _=>.machine (.ended (.stuck "" "") default))):=by
 have hew:=endWith_lock (n:=2) (t:=t) (o:=o) h
 generalize endWith w 2 t o=s at hew ⊢
 generalize endWith w1 2 t o=s1 at hew ⊢
 cases hew with
 | lost hb=>exact .lost hb
 | ended ha hv=>exact .ended ha (TrR.refl _)
 | _=>exact .lost bad_stuck
theorem askOn_lock (hP:Prg P) (h:GA w0 gs w w1):LockM w0 (doMove P (askOn P (crowd gs w sl))) (doMove P (askOn P (crowd gs w1 sl))):=by
 have hd:∀ mono,due #[] mono=[]:=fun _=>rfl
 have hah:∀ b,ahead (crowd gs w1 sl) b=ahead (crowd gs w sl) b:=fun b=>by
  unfold ahead
  dsimp only [crowd]
  rw [h.alike.os]
  rfl
 have hin:∀ i∈runnable gs w.os.mono,i < gs.size:=by
  intro i hi
  have:=mem_runnable.1 hi
  cases hx:gs[i]? with
  | none=>rw [hx] at this;cases this
  | some g=>exact (Array.getElem?_eq_some_iff.1 hx).1
 have hx0:∀ (w:World),(pure 0:Sem Nat).run P w=.ok 0 w:=fun _=>rfl
 have adv:∀ t,LockM w0 (.next ((crowd gs w sl).advanceTo t),#[]) (.next ((crowd gs w1 sl).advanceTo t),#[]):=fun t=>by
  unfold Machine.advanceTo
  show LockM w0 (.next (crowd gs { w with os:=w.os.advanceTo t } sl),#[]) (.next (crowd gs { w1 with os:=w1.os.advanceTo t } sl),#[])
  rw [h.alike.os]
  exact .next (h.os _) (TrR.refl _)
 unfold askOn
 dsimp only
 rw [show (crowd gs w1 sl).world.os=w.os from h.alike.os]
 have e1:(crowd gs w1 sl).world=w1:=rfl
 have e2:(crowd gs w sl).world=w:=rfl
 have e3:(crowd gs w1 sl).gs=gs:=rfl
 have e4:(crowd gs w sl).gs=gs:=rfl
 have e5:(crowd gs w1 sl).rest.timers=#[]:=rfl
 have e6:(crowd gs w sl).rest.timers=#[]:=rfl
 have e7:∀ w:World,({ crowd gs w1 sl with world:=w }:Machine)=crowd gs w sl:=fun _=>rfl
 have e8:∀ v:World,({ crowd gs w sl with world:=v }:Machine)=crowd gs v sl:=fun _=>rfl
 simp only [e1,e2,e3,e4,e5,e6,hd,List.isEmpty_nil,if_true,hx0,List.length_nil,Nat.not_lt_zero,if_false,e7,e8,hah]
 have hah2:∀ b,ahead { world:=w1,gs:=gs,rest:=(crowd gs w1 sl).rest } b=ahead { world:=w,gs:=gs,rest:=(crowd gs w sl).rest } b:=hah
 simp only [hah2]
 generalize hrs:runnable gs w.os.mono=rs at hin ⊢
 cases rs with
 | nil =>
  dsimp only
  cases ahead { world:=w,gs:=gs,rest:=(crowd gs w sl).rest } false with
  | some t=>exact adv t
  | none =>
   dsimp only
   split
   ·exact .next h (TrR.refl _)
   ·exact endW_lock h.alike _ _
 | cons r rs =>
  dsimp only
  have pick:∀ {v v1:World},GA w0 gs v v1→∀ k,k < (r :: rs).length→∀ sl,LockM w0 (runT P (crowd gs v sl) ((r :: rs).getD k 0)) (runT P (crowd gs v1 sl) ((r :: rs).getD k 0)):=by
   intro v v1 hv k hk sl
   refine runT_lock hP hv (hin _ ?_)
   rw [List.getD_eq_getElem?_getD,List.getElem?_eq_getElem hk]
   exact List.getElem_mem hk
  cases ahead { world:=w,gs:=gs,rest:=(crowd gs w sl).rest } true with
  | none =>
   dsimp only
   obtain ⟨k,d,c1,c2,hk⟩:=choose_at (P:=P) (.sched (r :: rs).length) h.alike
   rw [c1,c2]
   dsimp only
   split
   ·exact pick h.at k (hk _ (.inl rfl) (by simp)) _
   ·obtain ⟨k',d',c1',c2',hk'⟩:=choose_at (P:=P) (.extern "sched.slice" 65536) (h.at (d:=d)).alike
    rw [c1',c2']
    exact pick h.at.at k (hk _ (.inl rfl) (by simp)) _
  | some t =>
   dsimp only
   obtain ⟨k0,d0,c10,c20,hk0⟩:=choose_at (P:=P) (.extern "clock.wait" (t - w.os.mono+1)) h.alike
   rw [c10,c20]
   have h0:=h.at (d:=d0)
   match k0,hk0 with
   | 0,_ =>
    dsimp only
    obtain ⟨k,d,c1,c2,hk⟩:=choose_at (P:=P) (.sched (r :: rs).length) h0.alike
    rw [c1,c2]
    dsimp only
    split
    ·exact pick h0.at k (hk _ (.inl rfl) (by simp)) _
    ·obtain ⟨k',d',c1',c2',hk'⟩:=choose_at (P:=P) (.extern "sched.slice" 65536) (h0.at (d:=d)).alike
     rw [c1',c2']
     exact pick h0.at.at k (hk _ (.inl rfl) (by simp)) _
   | 1,_=>exact .next (h0.adv t) (TrR.refl _)
   | k0+2,_ =>
    dsimp only
    have h2:=h0.adv (t - (k0+1))
    obtain ⟨k,d,c1,c2,hk⟩:=choose_at (P:=P) (.sched (r :: rs).length) h2.alike
    unfold Machine.advanceTo
    dsimp only
    rw [c1,c2]
    dsimp only
    split
    ·exact pick h2.at k (hk _ (.inl rfl) (by simp)) _
    ·obtain ⟨k',d',c1',c2',hk'⟩:=choose_at (P:=P) (.extern "sched.slice" 65536) (h2.at (d:=d)).alike
     rw [c1',c2']
     exact pick h2.at.at k (hk _ (.inl rfl) (by simp)) _
end
end Go.Tm
