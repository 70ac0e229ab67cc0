/- A part of the proof: V5, T13, T14. -/
import Derived.Test.YtjjmefieegcddaaDoorA03
import Derived.DyingOn
import Derived.Test.YtjjmefieegcddaaDoorA07
set_option linter.unusedVariables false
set_option linter.unusedSimpArgs false
namespace Go.Tm
open Go
open Go.Conc (G solo stepT_solo)
def floor (P:Program):Frame:={ fn:=P.funcs.size,tmps:=#[],todo:=[.call default false "fmt's door" #[]],defers:=[],mode:=.run,kind:=.normal }
section
variable {P:Program} {S:FuncId→Prop} {f0:FuncId}
def Gone (P:Program) (m:Machine):Prop:=∀ fr mine w,¬ Steps P m (lone fr (mine ++ [floor P]) w)
theorem next_door:Extern.next "fmt's door" = none:=by kernel_rfl
theorem steps_size' {m m':Machine} (h:Steps P m m'):m.gs.size≤m'.gs.size:=steps_size (stepsIn_wide.2 h)
theorem dying_gone {g:Goroutine} {w:World} (h:g.dyingOn P):Gone P (oneG g w):=by
 intro fr mine w1 hs
 have hs:=stepsIn_wide.2 hs
 have key:∀ m m',StepsIn (Machine.fenced P Fence.wide) P m m'→∀ g w,m=oneG g w→g.dyingOn P→∃ g' w',m'=oneG g' w'∧g'.dyingOn P:=by
  intro m m' h
  induction h with
  | refl=>exact fun g w e h=>⟨g,w,e,h⟩
  | head _ hst _ ih =>
   intro g w e h
   subst e
   rcases step_dyingOn (w:=w) h with ⟨g',w',h1,h2⟩ | ⟨o,w',h1,_⟩
   ·rw [h1] at hst
    cases hst
    exact ih g' w' rfl h2
   ·rw [h1] at hst
    cases hst
 obtain ⟨g',w',e,h2⟩:=key _ _ hs g w rfl h
 obtain ⟨_,d,hd,_⟩:=h2
 simp only [lone,oneG,Machine.mk.injEq,Array.mk.injEq,List.cons.injEq,and_true] at e
 rw [← e.2] at hd
 cases hd
theorem stuck_gone {m:Machine} (h:∀ m',step P m≠.next m') (hne:∀ fr mine w,m≠lone fr (mine ++ [floor P]) w):Gone P m:=by
 intro fr mine w hs
 have hs:=stepsIn_wide.2 hs
 cases hs with
 | refl=>exact hne _ _ _ rfl
 | head _ hst _=>exact h _ hst
theorem gone_of_bad {fr:Frame} {cs:List Frame} {w:World} (h:GBad (stepG P true (G fr cs) w)) {m1:Machine} (hs:step P (lone fr cs w)=.next m1):Gone P m1:=by
 cases hg:stepG P true (G fr cs) w with
 | ended o w' es=>rw [step_ended hg] at hs;cases hs
 | go g w' es =>
  rw [hg] at h
  rw [step_go hg] at hs
  cases hs
  obtain ⟨h0,d,hd,hc,ht⟩:=h
  exact dying_gone (g:=g) (w:=w') ⟨.inl h0,d,hd,hc,by rw [ht];exact NoEnter.nil P⟩
 | spawn g ch w' es =>
  have hs':(stepT P (solo (G fr cs) w)).1=.next m1:=hs
  rw [stepT_solo rfl] at hs'
  have e0:solo (G fr cs) w=Go.Conc.crowd #[G fr cs] w none:=rfl
  rw [e0,Go.Conc.runT_crowd_spawn (i:=0) (g:=G fr cs) rfl (show stepG P (0 == 0) (G fr cs) w=_ from hg)] at hs'
  cases hs'
  intro fr' mine' w2 hst
  have:=steps_size' hst
  simp [Go.Conc.crowd,lone] at this
 | comm g cases b sh w' es =>
  rw [hg] at h
  obtain ⟨⟨rfl,c,rfl⟩,hw⟩:=h
  obtain ⟨a,ha,rfl⟩:=send_blocks hg hw hs
  refine stuck_gone (blocked_ends ha) fun fr' cs' w2 e=>?_
  have e2:a=G fr' (cs' ++ [floor P]):=by
   simp only [solo,lone,Machine.mk.injEq,Array.mk.injEq,List.cons.injEq,and_true] at e
   exact e.2
  rw [e2] at ha
  cases ha
 | _=>rw [hg] at h;exact h.elim
theorem nil_ne {mine:List Frame} {c:Frame}:([]:List Frame)≠mine ++ [c]:=by cases mine <;> simp
theorem floor_gone (fr:Frame) (w:World) (h:(∃ v,fr=(floor P).finish v)∨∃ ch,fr=(floor P).raise ch):Gone P (lone fr [] w):=by
 refine stuck_gone (fun m' hs=>?_) fun fr' mine w' e=>?_
 ·rcases h with ⟨v,rfl⟩ | ⟨ch,rfl⟩
  ·have hst:∃ o w' es,stepG P true (G ((floor P).finish v) []) w=.ended o w' es:=by
    refine ⟨.stuck "no extern row fmt's door" (((floor P).finish v).pos P),w,#[],?_⟩
    simp only [stepG,G,floor,Frame.finish,stepG.exec,next_door,Option.elim_none]
    rfl
   obtain ⟨o,w1,es,hst⟩:=hst
   rw [step_ended hst] at hs
   cases hs
  ·have hcat:((floor P).raise ch).catches P=true:=by
    unfold Frame.catches floor Frame.raise
    have:P.funcs[P.funcs.size]? = none:=by simp
    simp only [this]
    have hst:("fmt's door".startsWith "fmt's door")=true:=by kernel_rfl
    exact hst
   have hst:∃ o w' es,stepG P true (G ((floor P).raise ch) []) w=.ended o w' es:=by
    refine ⟨.unsupported (.noEntry "a panic or Goexit out of a method that fmt calls behind a cut's door") (((floor P).raise ch).pos P),w,#[],?_⟩
    have hm:((floor P).raise ch).mode=.panicking ch:=rfl
    have hd:((floor P).raise ch).defers=[]:=rfl
    have h2:stepG P true (G ((floor P).raise ch) []) w=unwind P true ((floor P).raise ch) [] none w:=by simp only [stepG,G,hm]
    rw [h2]
    unfold unwind
    simp only [hd,hm,hcat,if_true]
   obtain ⟨o,w1,es,hst⟩:=hst
   rw [step_ended hst] at hs
   cases hs
 ·simp only [lone,Machine.mk.injEq,Array.mk.injEq,List.cons.injEq,Goroutine.mk.injEq,and_true] at e
  exact nil_ne e.2.2
theorem base_gone {fr:Frame} {w:World} (hst:Stk f0 fr []) (hm:fr.mode≠.run) (hd:fr.defers=[]) {m1:Machine} (hs:step P (lone fr [floor P] w)=.next m1):Gone P m1:=by
 obtain ⟨hk,hro,hkind,hfn⟩:=hst
 have hcat:fr.catches P=false:=by
  unfold Frame.catches
  split
  ·rename_i d wr resume sv k h1 h2
   exact (mem_todo hk h2).1.elim
  ·rfl
 have h2:stepG P true (G fr [floor P]) w=unwind P true fr [floor P] none w:=by
  cases hmm:fr.mode with
  | run=>exact (hm hmm).elim
  | _=>simp only [stepG,G,hmm]
 cases hmm:fr.mode with
 | run=>exact (hm hmm).elim
 | panicking chain =>
  have h3:stepG P true (G fr [floor P]) w=.go (G ((floor P).raise chain) []) w #[]:=by
   rw [h2]
   unfold unwind
   simp only [hd,hmm,hcat,Bool.false_eq_true,if_false,G]
  rw [step_go h3] at hs
  cases hs
  exact floor_gone _ _ (.inr ⟨chain,rfl⟩)
 | returning =>
  cases hf:P.funcs[fr.fn]? with
  | none =>
   have h3:stepG P true (G fr [floor P]) w=.go (G ((floor P).finish (fr.tmps.getD 0 undef)) []) w #[]:=by
    rw [h2]
    unfold unwind
    simp only [hd,hmm,hf,doReturn,hkind,G]
   rw [step_go h3] at hs
   cases hs
   exact floor_gone _ _ (.inl ⟨_,rfl⟩)
  | some fn =>
   cases hr:(results fn fr.tmps).run P w with
   | ok v w1 =>
    have h3:stepG P true (G fr [floor P]) w=.go (G ((floor P).finish v) []) w1 (seen P fr.fn ((results fn fr.tmps).events P w #[])):=by
     rw [h2]
     unfold unwind
     simp only [hd,hmm,hf,Sem.runT_eq,hr,doReturn,hkind,GStep.after,Array.append_empty,G]
    rw [step_go h3] at hs
    cases hs
    exact floor_gone _ _ (.inl ⟨_,rfl⟩)
   | halt hh w1 =>
    have h3:∃ o w' es,stepG P true (G fr [floor P]) w=.ended o w' es:=by
     rw [h2]
     unfold unwind
     simp only [hd,hmm,hf,Sem.runT_eq,hr]
     cases hh <;> exact ⟨_,_,_,rfl⟩
    obtain ⟨o,w',es,h3⟩:=h3
    rw [step_ended h3] at hs
    cases hs
structure CfgV (P:Program) (f0:FuncId) (Stop:Frame→List Frame→World→Prop) (T:Nat→Question→Nat) where
 fr:Frame
 mine:List Frame
 w:World
 stk:Stk f0 fr mine
 heap:HeapOk OC w
 not:¬ Term P Stop fr mine w
 tape:w.tape=T
def NxV (P:Program) (f0:FuncId) {Stop:Frame→List Frame→World→Prop} {T:Nat→Question→Nat} (c:CfgV P f0 Stop T) (d j:Nat):Option (CfgV P f0 Stop T)→Prop
 | some c'=>∀ τ p,(∀ i,i < j→∀ q,τ (p+i) q=T (d+i) q)→step P (lone c.fr (c.mine ++ [floor P]) (c.w.re τ p))=.next (lone c'.fr (c'.mine ++ [floor P]) (c'.w.re τ (p+j)))
 | none=>∀ τ p,(∀ i,i < j→∀ q,τ (p+i) q=T (d+i) q)→∀ m1,step P (lone c.fr (c.mine ++ [floor P]) (c.w.re τ p))=.next m1→Gone P m1
theorem nextV (hS:Sok P fun _=>True) {Stop:Frame→List Frame→World→Prop} {T:Nat→Question→Nat} (c:CfgV P f0 Stop T):∃ d j o,NxV P f0 c d j o:=by
 obtain ⟨fr,mine,w,hst,hw,hn,htp⟩:=c
 have h1:∃ d,∀ fr' mine' w' es,(∀ e∈es,ND e)→w.heap.size≤w'.heap.size→(∀ main cs,stepG P main (G fr (mine ++ cs)) (w.at d)=.go (G fr' (mine' ++ cs)) w' es)→¬ Term P Stop fr' mine' w':=by
  apply Classical.byContradiction
  intro hc
  refine hn (.step' fun d=>?_)
  apply Classical.byContradiction
  intro hd
  exact hc ⟨d,fun fr' mine' w' es a b c' t=>hd ⟨fr',mine',w',es,a,b,c',t⟩⟩
 obtain ⟨d,hd⟩:=h1
 refine ⟨d,?_⟩
 have hag:∀ {j τ p},(∀ i,i < j→∀ q,τ (p+i) q=T (d+i) q)→Agree (w.at d) j τ p:=fun h i hi q=>by
  rw [h i hi q,← htp]
  rfl
 by_cases hb:mine=[]∧fr.mode≠.run∧fr.defers=[]
 ·obtain ⟨rfl,hm,hds⟩:=hb
  exact ⟨0,none,fun τ p _ m1 hs=>base_gone hst hm hds hs⟩
 obtain ⟨j,hm⟩:=moves (S:=fun _=>True) hS hst (w:=w.at d) hw (fun h=>by
   by_cases hm:fr.mode=.run
   ·exact .inl hm
   ·exact .inr fun hds=>hb ⟨h,hm,hds⟩) (fun _ _=>trivial)
 rcases hm with ⟨fr',mine',w',es,h1,h2,h3,h4,h5,h6,h7⟩ | hbad
 ·have hstep:∀ main cs,stepG P main (G fr (mine ++ cs)) (w.at d)=.go (G fr' (mine' ++ cs)) w' es:=by
   intro main cs
   have:=h7 main cs (w.at d).tape (w.at d).drawn (fun i hi q=>rfl)
   rw [re_self] at this
   exact this.trans (by rw [← h5,← h6,re_self])
  refine ⟨j,some ⟨fr',mine',w',h1,h2,hd fr' mine' w' es h3 h4 hstep,h6.trans htp⟩,fun τ p ha=>?_⟩
  exact step_go (h7 true [floor P] τ p (hag ha))
 ·refine ⟨j,none,fun τ p ha m1 hs=>?_⟩
  exact gone_of_bad (hbad [floor P] τ p (hag ha)) hs
theorem term_of_plain (hS:Sok P fun _=>True) {Stop:Frame→List Frame→World→Prop} (hstop:∀ fr mine w τ d,HeapOk OC w→Stop fr mine w→Stop fr mine (w.re τ d))
  {fr:Frame} {mine:List Frame} {w:World} (hst:Stk f0 fr mine) (hw:HeapOk OC w)
  (hrun:∀ τ d,∃ fr' mine' w',Stop fr' mine' w'∧Steps P (lone fr (mine ++ [floor P]) (w.re τ d)) (lone fr' (mine' ++ [floor P]) w')):Term P (SH f0 Stop) fr mine w:=by
 apply Classical.byContradiction
 intro hn
 let T:=w.tape
 let c0:CfgV P f0 (SH f0 Stop) T:=⟨fr,mine,w,hst,hw,hn,rfl⟩
 let D:CfgV P f0 (SH f0 Stop) T→Nat:=fun c=>Classical.choose (nextV hS c)
 let J:CfgV P f0 (SH f0 Stop) T→Nat:=fun c=>Classical.choose (Classical.choose_spec (nextV hS c))
 let O:CfgV P f0 (SH f0 Stop) T→Option (CfgV P f0 (SH f0 Stop) T):=fun c=>Classical.choose (Classical.choose_spec (Classical.choose_spec (nextV hS c)))
 have hO:∀ c,NxV P f0 c (D c) (J c) (O c):=fun c=>Classical.choose_spec (Classical.choose_spec (Classical.choose_spec (nextV hS c)))
 let seq:Nat→CfgV P f0 (SH f0 Stop) T:=fun n=>Nat.rec c0 (fun _ c=>(O c).getD c) n
 let pos:Nat→Nat:=fun n=>Nat.rec 0 (fun n p=>p+J (seq n)) n
 have hseq:∀ n,seq (n+1)=(O (seq n)).getD (seq n):=fun n=>rfl
 have hpos:∀ n,pos (n+1)=pos n+J (seq n):=fun n=>rfl
 have hmono:∀ n k,pos n≤pos (n+k):=by
  intro n k
  induction k with
  | zero=>exact Nat.le_refl _
  | succ k ih=>rw [← Nat.add_assoc,hpos];omega
 have huniq:∀ n m k,pos n≤k→k < pos n+J (seq n)→pos m≤k→k < pos m+J (seq m)→n=m:=by
  intro n m k h1 h2 h3 h4
  rcases Nat.lt_trichotomy n m with h | h | h
  ·have:=hmono (n+1) (m - (n+1))
   rw [show n+1+(m - (n+1))=m from by omega,hpos] at this
   omega
  ·exact h
  ·have:=hmono (m+1) (n - (m+1))
   rw [show m+1+(n - (m+1))=n from by omega,hpos] at this
   omega
 let τ:Nat→Question→Nat:=fun k q =>
  open Classical in if h:∃ n,pos n≤k∧k < pos n+J (seq n) then T (D (seq (Classical.choose h))+(k - pos (Classical.choose h))) q else 0
 have hτ:∀ n i,i < J (seq n)→∀ q,τ (pos n+i) q=T (D (seq n)+i) q:=by
  intro n i hi q
  have hex:∃ m,pos m≤pos n+i∧pos n+i < pos m+J (seq m):=⟨n,by omega,by omega⟩
  have hch:=Classical.choose_spec hex
  have he:Classical.choose hex=n:=huniq _ _ _ hch.1 hch.2 (by omega) (by omega)
  show (open Classical in if h:∃ m,pos m≤pos n+i∧pos n+i < pos m+J (seq m) then _ else _)=_
  rw [dif_pos hex,he,show pos n+i - pos n=i from by omega]
 obtain ⟨fr',mine',w',hS',hsteps⟩:=hrun τ 0
 have hsteps:=stepsIn_wide.2 hsteps
 have key:∀ m,StepsIn (Machine.fenced P Fence.wide) P m (lone fr' (mine' ++ [floor P]) w')→∀ n,m=lone (seq n).fr ((seq n).mine ++ [floor P]) ((seq n).w.re τ (pos n))→False:=by
  intro m hm
  generalize hend:lone fr' (mine' ++ [floor P]) w'=mend at hm
  induction hm with
  | refl =>
   intro n hn
   subst hend
   simp only [lone,Machine.mk.injEq,Array.mk.injEq,List.cons.injEq,Goroutine.mk.injEq,and_true] at hn
   obtain ⟨hw,hf,hc⟩:=hn
   have hc':=List.append_cancel_right hc
   subst hw hf hc'
   have:=hstop _ _ _ (seq n).w.tape (seq n).w.drawn (show HeapOk OC ((seq n).w.re τ (pos n)) from (seq n).heap) hS'
   rw [re_re,re_self] at this
   exact (seq n).not (.stop ⟨this,(seq n).heap,(seq n).stk⟩)
  | head hI hst' hrest ih =>
   intro n hn
   subst hn
   have hx:=hO (seq n)
   cases ho:O (seq n) with
   | none =>
    rw [ho] at hx
    refine hx τ (pos n) (hτ n) _ hst' fr' mine' w' ?_
    rw [hend];exact stepsIn_wide.1 hrest
   | some c' =>
    rw [ho] at hx
    have h1:=hx τ (pos n) (hτ n)
    rw [h1] at hst'
    cases hst'
    refine ih hend (n+1) ?_
    rw [hseq,ho,hpos]
    rfl
 exact key _ hsteps 0 rfl
end
end Go.Tm
namespace Go.Sr
open Go
open Go.Tm
open Go.Conc (G solo)
section
variable {P:Program} {K:CallKind} {D:Nat→Prop} {R:BR} {csl:List Frame}
theorem sim_ret [Fns] {R1:BR} {wl wa wl1 wa1:World} {fr fr' c c':Frame} {rest rest':List Frame} {v v':Value} (h:StkR P K R1 c rest c' rest') (hv:VR R1 v v') (hk:fr.kind=.normal) (hk':fr'.kind=.normal)
  (hw:WR P.globals.size R1 D wl1 wa1) (hg:Grow R R1 D wl wa) (hgu:Guar R D wa wa1) (hs:wl.heap.size≤wl1.heap.size) {fl:GStep} {fa:Bool→List Frame→GStep} {es es':Array Event}
  (hev:∀ e∈es',EvR R1 D e)
  (hl:fl=GStep.after es (doReturn P true fr (c :: (rest ++ csl)) none v wl1)) (ha:∀ main cs,fa main cs=GStep.after es' (doReturn P main fr' (c' :: (rest' ++ cs)) none v' wa1)):Sim P K csl D R wl wa fl fa:=by
 have hf:=frR_finish h.top hv
 refine .inl ⟨c.finish v,rest,wl1,es,c'.finish v',rest',wa1,es',R1,?_,fun main cs=>?_,h.set hf.1 hf.2,hw,hg,hgu,hev,hs⟩
 ·rw [hl]
  simp only [doReturn,hk,GStep.after,Array.append_empty,G]
 ·rw [ha]
  simp only [doReturn,hk',GStep.after,Array.append_empty,G]
theorem sim_unwind [Fns] {wl wa:World} {fr fr' c c':Frame} {rest rest':List Frame} (h:StkR P K R fr (c :: rest) fr' (c' :: rest')) (hw:WR P.globals.size R D wl wa) (hm:fr.mode=.returning) :
  Sim P K csl D R wl wa (stepG P true (G fr ((c :: rest) ++ csl)) wl) (fun main cs=>stepG P main (G fr' ((c' :: rest') ++ cs)) wa):=by
 obtain ⟨ht,⟨hk,hk'⟩,hr⟩:=h
 have hm':fr'.mode=.returning:=ht.mode.trans hm
 have e1:stepG P true (G fr ((c :: rest) ++ csl)) wl=unwind P true fr (c :: (rest ++ csl)) none wl:=by simp only [stepG,G,hm,List.cons_append]
 have e2:∀ main cs,stepG P main (G fr' ((c' :: rest') ++ cs)) wa=unwind P main fr' (c' :: (rest' ++ cs)) none wa:=fun main cs=>by simp only [stepG,G,hm',List.cons_append]
 rw [e1]
 simp only [e2]
 cases hf:P.funcs[fr.fn]? with
 | none =>
  have hf':P.funcs[fr'.fn]? = none:=by rw [ht.fn];exact hf
  refine sim_ret (es:=#[]) (es':=#[]) hr (ht.tmps.get (d:=undef) (.of_flat rfl) 0) hk hk' hw ⟨le_refl R,fun _ _ h=>.inl h⟩ (.refl R D wa) (Nat.le_refl _) (by simp) ?_ fun main cs=>?_
  ·unfold unwind
   simp only [ht.defers,hm,hf]
   simp only [doReturn,hk,GStep.after,Array.append_empty]
  ·unfold unwind
   simp only [ht.defers',hm',hf']
   simp only [doReturn,hk',GStep.after,Array.append_empty]
 | some fn =>
  have hf':P.funcs[fr'.fn]? = some fn:=by rw [ht.fn];exact hf
  have hres:=RunR.results (P:=P) (D:=D) (R:=R) (ht.res fn hf) ht.tmps
  cases hrun:(results fn fr.tmps).run P wl with
  | ok v w1 =>
   obtain ⟨v',wa1,es',R1,k1,k2,k3,k4,k5,k6,k7⟩:=hres wl wa #[] hw v w1 hrun
   have hev:∀ e∈seen P fr'.fn es',EvR R1 D e:=fun e he=>(k2 e (mem_seen he)).elim (fun h=>by simp at h) id
   refine sim_ret (es:=seen P fr.fn ((results fn fr.tmps).events P wl #[])) (es':=seen P fr'.fn es') (hr.mono k4.le) k7 hk hk' k3 k4 k5 k6 hev ?_ fun main cs=>?_
   ·unfold unwind
    simp only [ht.defers,hm,hf,Sem.runT_eq,hrun]
   ·unfold unwind
    simp only [ht.defers',hm',hf',k1]
  | halt hh w1 =>
   refine .inr (.inl ?_)
   unfold unwind
   simp only [ht.defers,hm,hf,Sem.runT_eq,hrun]
   cases hh <;> exact bad_after trivial
theorem sim [Fns] (hS:SokC P) (hT:Sok P fun _=>True) {wl wa:World} {fr fr':Frame} {mine mine':List Frame} (h:StkR P K R fr mine fr' mine') (hw:WR P.globals.size R D wl wa) (hh:HeapOk OC wl)
  (hb:mine=[]→fr.mode=.run):Sim P K csl D R wl wa (stepG P true (G fr (mine ++ csl)) wl) (fun main cs=>stepG P main (G fr' (mine' ++ cs)) wa):=by
 rcases h.top.runs with hm | hm
 ·exact sim_exec hS hT h hw hh hm
 ·cases mine with
  | nil=>rw [hb rfl] at hm;cases hm
  | cons c rest =>
   cases mine' with
   | nil=>exact h.elim
   | cons c' rest'=>exact sim_unwind h hw hm
theorem raise_panicking (fr:Frame) (l:List PanicEntry):(∃ ch,(fr.raise l).mode=.panicking ch)∧(fr.raise l).defers=fr.defers∧(fr.raise l).todo=fr.todo:=by
 unfold Frame.raise
 split
 ·exact ⟨⟨_,rfl⟩,rfl,rfl⟩
 ·exact ⟨⟨_,rfl⟩,rfl,rfl⟩
def GoneM (P:Program) (m:Machine):Prop:=∀ fr mine w,(fr.mode=.run∨fr.mode=.returning)→¬ Steps P m (lone fr (mine ++ [floor P]) w)
theorem GoneM.of {m:Machine} (h:Gone P m):GoneM P m:=fun fr mine w _=>h fr mine w
theorem panicking_gone [Fns]:∀ (cs:List Frame) (fr:Frame) (w:World),(∃ ch,fr.mode=.panicking ch)→(∀ c∈fr :: cs,c.defers=[]∧∀ x∈c.todo,ItemW P x)→GoneM P (lone fr (cs ++ [floor P]) w):=by
 intro cs
 have hcat:∀ {fr:Frame},(∀ x∈fr.todo,ItemW P x)→fr.catches P=false:=by
  intro fr hi
  unfold Frame.catches
  split
  ·rename_i d wr resume sv k h1 h2
   have:ItemW P (.call d wr resume sv):=hi (.call d wr resume sv) (by rw [h2];exact List.mem_cons_self)
   exact this.elim
  ·rfl
 induction cs with
 | nil =>
  rintro fr w ⟨ch,hm⟩ hall fr' mine' w' hm' hs
  obtain ⟨hd,hi⟩:=hall fr (by simp)
  have hs:=stepsIn_wide.2 hs
  generalize hend:lone fr' (mine' ++ [floor P]) w'=mend at hs
  generalize hst:lone fr ([] ++ [floor P]) w=mst at hs
  cases hs with
  | refl =>
   subst hst
   simp only [lone,Machine.mk.injEq,Array.mk.injEq,List.cons.injEq,Goroutine.mk.injEq,and_true] at hend
   obtain ⟨_,hf,_⟩:=hend
   subst hf
   rcases hm' with h | h <;> rw [h] at hm <;> cases hm
  | head hI h h' =>
   subst hst
   subst hend
   have h2:stepG P true (G fr [floor P]) w=.go (G ((floor P).raise ch) []) w #[]:=by
    simp only [stepG,G,hm]
    unfold unwind
    simp only [hd,hm,hcat hi,Bool.false_eq_true,if_false]
   rw [show ([]:List Frame) ++ [floor P]=[floor P] from rfl,step_go h2] at h
   cases h
   exact floor_gone _ _ (.inr ⟨ch,rfl⟩) fr' mine' w' (stepsIn_wide.1 h')
 | cons c cs ih =>
  rintro fr w ⟨ch,hm⟩ hall fr' mine' w' hm' hs
  obtain ⟨hd,hi⟩:=hall fr (by simp)
  have hs:=stepsIn_wide.2 hs
  generalize hend:lone fr' (mine' ++ [floor P]) w'=mend at hs
  generalize hst:lone fr (c :: cs ++ [floor P]) w=mst at hs
  cases hs with
  | refl =>
   subst hst
   simp only [lone,Machine.mk.injEq,Array.mk.injEq,List.cons.injEq,Goroutine.mk.injEq,and_true] at hend
   obtain ⟨_,hf,_⟩:=hend
   subst hf
   rcases hm' with h | h <;> rw [h] at hm <;> cases hm
  | head hI h h' =>
   subst hst
   subst hend
   have h2:stepG P true (G fr (c :: cs ++ [floor P])) w=.go (G (c.raise ch) (cs ++ [floor P])) w #[]:=by
    simp only [stepG,G,hm]
    unfold unwind
    simp only [hd,hm,hcat hi,Bool.false_eq_true,if_false,List.cons_append]
   rw [step_go h2] at h
   cases h
   obtain ⟨hp,hpd,hpt⟩:=raise_panicking c ch
   refine ih (c.raise ch) w hp (fun x hx=>?_) fr' mine' w' hm' (stepsIn_wide.1 h')
   rcases List.mem_cons.1 hx with rfl | hx
   ·rw [hpd,hpt];exact hall c (by simp)
   ·exact hall x (by simp [hx])
end
end Go.Sr
namespace Go.Ph
open Go
open Go.Tm
open Go.Sr
open Go.Conc (G solo)
def SameO (ch:Nat) (w w':World) (b:Nat):Prop:=w'.heap[b]? = w.heap[b]?∨b=ch∧∃ o o',w.heap[b]? = some o∧w'.heap[b]? = some o'∧isCh o=true∧isCh o'=true
structure RelyW (ch:Nat) (rd:Nat→Prop) (w w':World):Prop where
 size:w.heap.size≤w'.heap.size
 keep:∀ b,rd b→SameO ch w w' b
 tape:w'.tape=w.tape
 os:w'.os=w.os
 output:w'.output=w.output
def orS (D wr:Nat→Prop):Nat→Prop:=fun b=>D b∨wr b
def EvOk (D wr:Nat→Prop) (e:Event):Prop :=
 match e.loc with
 | .cell a=>e.sync=false∧(wr a.block∨(D a.block∧e.write=false))
 | .obj r=>e.write=false∧(wr r∨D r)
 | .mark m=>m=.noRoom
 | _=>False
structure GuarW (wr:Nat→Prop) (w w':World):Prop where
 size:w.heap.size≤w'.heap.size
 keep:∀ b,b < w.heap.size→¬ wr b→w'.heap[b]? = w.heap[b]?
 os:w'.os=w.os
 output:w'.output=w.output
 tape:w'.tape=w.tape
 okh:∀ C:Code→Prop,HeapOk C w→HeapOk C w'
theorem GuarW.refl (wr:Nat→Prop) (w:World):GuarW wr w w:=⟨Nat.le_refl _,fun _ _ _=>rfl,rfl,rfl,rfl,fun _ h=>h⟩
structure GrowW (wr wr':Nat→Prop) (w w':World):Prop where
 le:∀ b,wr b→wr' b
 fresh:∀ b,wr' b→wr b∨(w.heap.size≤b∧b < w'.heap.size)
theorem GrowW.refl (wr:Nat→Prop) (w:World):GrowW wr wr w w:=⟨fun _ h=>h,fun _ h=>.inl h⟩
inductive Tr:Type
 | leaf
 | node (f:World→Tr)
abbrev StopW:=(Nat→Prop)→Frame→List Frame→World→Prop
def StepW (P:Program) (D wr:Nat→Prop) (K:StopW) (fr:Frame) (mine:List Frame) (w:World):Prop :=
 ∃ fr' mine' w' es wr',(∀ main cs,stepG P main (G fr (mine ++ cs)) w=.go (G fr' (mine' ++ cs)) w' es)∧(∀ e∈es,EvOk D wr' e)∧GuarW wr w w'∧GrowW wr wr' w w'∧K wr' fr' mine' w'
def WTr (P:Program) (ch:Nat) (D:Nat→Prop) (Stop:StopW):Tr→StopW
 | .leaf=>fun wr fr mine w=>∀ w',RelyW ch (orS D wr) w w'→Stop wr fr mine w'
 | .node f=>fun wr fr mine w=>∀ w',RelyW ch (orS D wr) w w'→Stop wr fr mine w'∨StepW P D wr (WTr P ch D Stop (f w')) fr mine w'
def WT (P:Program) (ch:Nat) (D:Nat→Prop) (Stop:StopW) (wr:Nat→Prop) (fr:Frame) (mine:List Frame) (w:World):Prop:=∃ τ,WTr P ch D Stop τ wr fr mine w
variable {ch:Nat}
theorem SameO.refl (w:World) (b:Nat):SameO ch w w b:=.inl rfl
theorem SameO.trans {w w' w'':World} {b:Nat} (h:SameO ch w w' b) (h':SameO ch w' w'' b):SameO ch w w'' b:=by
 rcases h with h | ⟨e,o,o',h1,h2,h3,h4⟩
 ·rcases h' with h' | ⟨e,o,o',k1,k2,k3,k4⟩
  ·exact .inl (h'.trans h)
  ·exact .inr ⟨e,o,o',h ▸ k1,k2,k3,k4⟩
 ·rcases h' with h' | ⟨_,p,p',k1,k2,k3,k4⟩
  ·exact .inr ⟨e,o,o',h1,h'.trans h2,h3,h4⟩
  ·exact .inr ⟨e,o,p',h1,k2,h3,k4⟩
theorem RelyW.refl (rd:Nat→Prop) (w:World):RelyW ch rd w w:=⟨Nat.le_refl _,fun b _=>.refl w b,rfl,rfl,rfl⟩
theorem RelyW.trans {rd:Nat→Prop} {w w' w'':World} (h:RelyW ch rd w w') (h':RelyW ch rd w' w''):RelyW ch rd w w'' :=
 ⟨Nat.le_trans h.size h'.size,fun b hb=>(h.keep b hb).trans (h'.keep b hb),h'.tape.trans h.tape,h'.os.trans h.os,h'.output.trans h.output⟩
theorem RelyW.sub {rd rd':Nat→Prop} {w w':World} (h:RelyW ch rd w w') (hs:∀ b,rd' b→rd b):RelyW ch rd' w w':=⟨h.size,fun b hb=>h.keep b (hs b hb),h.tape,h.os,h.output⟩
theorem RelyW.at (rd:Nat→Prop) (w:World) (d:Nat):RelyW ch rd w (w.at d):=⟨Nat.le_refl _,fun _ _=>.inl rfl,rfl,rfl,rfl⟩
section
variable {P:Program} {D:Nat→Prop} {Stop Stop':StopW} {wr:Nat→Prop} {fr:Frame} {mine:List Frame} {w w':World}
theorem WTr.rely {τ:Tr} (h:WTr P ch D Stop τ wr fr mine w) (hr:RelyW ch (orS D wr) w w'):WTr P ch D Stop τ wr fr mine w':=by
 cases τ with
 | leaf=>exact fun w2 h2=>h w2 (hr.trans h2)
 | node f=>exact fun w2 h2=>h w2 (hr.trans h2)
theorem WT.rely (h:WT P ch D Stop wr fr mine w) (hr:RelyW ch (orS D wr) w w'):WT P ch D Stop wr fr mine w':=let ⟨τ,h⟩:=h;⟨τ,h.rely hr⟩
theorem WT.stop (h:∀ w',RelyW ch (orS D wr) w w'→Stop wr fr mine w'):WT P ch D Stop wr fr mine w:=⟨.leaf,h⟩
theorem WT.mk (h:∀ w',RelyW ch (orS D wr) w w'→Stop wr fr mine w'∨StepW P D wr (WT P ch D Stop) fr mine w'):WT P ch D Stop wr fr mine w:=by
 have key:∀ w',∃ τ,RelyW ch (orS D wr) w w'→Stop wr fr mine w'∨StepW P D wr (WTr P ch D Stop τ) fr mine w':=by
  intro w'
  by_cases hr:RelyW ch (orS D wr) w w'
  ·rcases h w' hr with h | ⟨fr',mine',w2,es,wr',h1,h2,h3,h4,τ,h5⟩
   ·exact ⟨.leaf,fun _=>.inl h⟩
   ·exact ⟨τ,fun _=>.inr ⟨fr',mine',w2,es,wr',h1,h2,h3,h4,h5⟩⟩
  ·exact ⟨.leaf,fun h=>absurd h hr⟩
 exact ⟨.node fun w'=>Classical.choose (key w'),fun w'=>Classical.choose_spec (key w')⟩
theorem WT.step (h:∀ w',RelyW ch (orS D wr) w w'→StepW P D wr (WT P ch D Stop) fr mine w'):WT P ch D Stop wr fr mine w:=.mk fun w' hr=>.inr (h w' hr)
theorem WTr.out {τ:Tr} (h:WTr P ch D Stop τ wr fr mine w):Stop wr fr mine w∨StepW P D wr (WT P ch D Stop) fr mine w:=by
 cases τ with
 | leaf=>exact .inl (h w (.refl _ w))
 | node f =>
  rcases h w (.refl _ w) with h | ⟨fr',mine',w2,es,wr',h1,h2,h3,h4,h5⟩
  ·exact .inl h
  ·exact .inr ⟨fr',mine',w2,es,wr',h1,h2,h3,h4,_,h5⟩
theorem WT.out (h:WT P ch D Stop wr fr mine w):Stop wr fr mine w∨StepW P D wr (WT P ch D Stop) fr mine w:=let ⟨_,h⟩:=h;h.out
theorem WT.bind (h:WT P ch D Stop wr fr mine w) (hb:∀ wr fr mine w,Stop wr fr mine w→WT P ch D Stop' wr fr mine w):WT P ch D Stop' wr fr mine w:=by
 obtain ⟨τ,h⟩:=h
 induction τ generalizing wr fr mine w with
 | leaf=>exact .mk fun w' hr=>(hb _ _ _ _ (h w' hr)).out
 | node f ih =>
  refine .mk fun w' hr=>?_
  rcases h w' hr with h | ⟨fr',mine',w2,es,wr',h1,h2,h3,h4,h5⟩
  ·exact (hb _ _ _ _ h).out
  ·exact .inr ⟨fr',mine',w2,es,wr',h1,h2,h3,h4,ih w' h5⟩
theorem WT.mono (h:WT P ch D Stop wr fr mine w) (hb:∀ wr fr mine w,Stop wr fr mine w→Stop' wr fr mine w):WT P ch D Stop' wr fr mine w:=by
 obtain ⟨τ,h⟩:=h
 induction τ generalizing wr fr mine w with
 | leaf=>exact .stop fun w' hr=>hb _ _ _ _ (h w' hr)
 | node f ih =>
  refine .mk fun w' hr=>?_
  rcases h w' hr with h | ⟨fr',mine',w2,es,wr',h1,h2,h3,h4,h5⟩
  ·exact .inl (hb _ _ _ _ h)
  ·exact .inr ⟨fr',mine',w2,es,wr',h1,h2,h3,h4,ih w' h5⟩
theorem WT.below (h:WT P ch D Stop wr fr mine w) (cs:List Frame):WT P ch D (fun wr fr mine w=>∃ m,mine=m ++ cs∧Stop wr fr m w) wr fr (mine ++ cs) w:=by
 obtain ⟨τ,h⟩:=h
 induction τ generalizing wr fr mine w with
 | leaf=>exact .stop fun w' hr=>⟨mine,rfl,h w' hr⟩
 | node f ih =>
  refine .mk fun w' hr=>?_
  rcases h w' hr with h | ⟨fr',mine',w2,es,wr',h1,h2,h3,h4,h5⟩
  ·exact .inl ⟨mine,rfl,h⟩
  ·exact .inr ⟨fr',mine' ++ cs,w2,es,wr',fun main cs'=>by rw [List.append_assoc,List.append_assoc];exact h1 main (cs ++ cs'),h2,h3,h4,ih w' h5⟩
theorem WT.move {fr':Frame} {mine':List Frame} (h:∀ main cs w,stepG P main (G fr (mine ++ cs)) w=.go (G fr' (mine' ++ cs)) w) (hk:WT P ch D Stop wr fr' mine' w):WT P ch D Stop wr fr mine w :=
 .step fun w' hr=>⟨fr',mine',w',#[],wr,fun main cs=>h main cs w',by simp,.refl wr w',.refl wr w',hk.rely hr⟩
end
def own (D:Nat→Prop) (R:BR):Nat→Prop:=fun b'=>∃ b,R b b'∧¬ D b
section
variable {P:Program} {K:CallKind} {D:Nat→Prop} {R:BR} {f0:FuncId}
theorem wr_rely [Fns] {G:Nat} {wl wa wa':World} (h:WR G R D wl wa) (hr:RelyW ch (orS D (own D R)) wa wa'):WR G R D (wl.re wl.tape wa'.drawn) wa':=by
 refine ⟨fun b b' hb=>?_,h.fn,h.inj,h.old,h.new,hr.tape.trans h.tape,rfl,h.dom,h.gl,Nat.le_trans h.ga hr.size⟩
 obtain ⟨o,o',h1,h2,h3⟩:=h.obj b b' hb
 have hk:SameO ch wa wa' b':=by
  by_cases hD:D b
  ·have:=h.old b b' hb hD
   subst this
   exact hr.keep _ (.inl hD)
  ·exact hr.keep _ (.inr ⟨b,hb,hD⟩)
 rcases hk with hk | ⟨_,x,x',k1,k2,k3,k4⟩
 ·exact ⟨o,o',h1,hk.trans h2,h3⟩
 ·rw [h2] at k1
  cases k1
  refine ⟨o,x',h1,k2,?_⟩
  rcases h3 with ⟨c,c',e,f,f',rfl,rfl,_⟩ | ⟨a,a',l,rfl,rfl,_⟩ | ⟨h4,h5,h6⟩
  ·cases k3
  ·cases k3
  ·exact .inr (.inr ⟨h4,h5,k4⟩)
theorem evOk_of [Fns] {R:BR} {G:Nat} {wl wa:World} (h:WR G R D wl wa) {e:Event} (he:EvR R D e):EvOk D (own D R) e:=by
 obtain ⟨loc,wrt,sy⟩:=e
 cases loc with
 | cell a =>
  obtain ⟨h1,b,h2,h3⟩:=he
  refine ⟨h1,?_⟩
  by_cases hD:D b
  ·have:=h.old _ _ h2 hD
   refine .inr ⟨this ▸ hD,?_⟩
   cases hw:wrt with
   | false=>rfl
   | true=>exact (h3 hw hD).elim
  ·exact .inl ⟨b,h2,hD⟩
 | obj r =>
  obtain ⟨h1,b,h3⟩:=he
  refine ⟨h1,?_⟩
  by_cases hD:D b
  ·exact .inr (h.old _ _ h3 hD ▸ hD)
  ·exact .inl ⟨b,h3,hD⟩
 | mark m=>exact he
 | _=>exact he.elim
theorem guarW_of [Fns] {G:Nat} {wl wa wa':World} (h:WR G R D wl wa) (hg:Guar R D wa wa'):GuarW (own D R) wa wa' :=
 ⟨hg.size,fun b' hb hn=>hg.keep b' hb fun b hb'=>Classical.byContradiction fun hD=>hn ⟨b,hb',hD⟩,hg.os,hg.output,hg.tape,hg.okh⟩
theorem growW_of [Fns] {G:Nat} {R':BR} {wl wl' wa wa':World} (h':WR G R' D wl' wa') (hg:Grow R R' D wl wa):GrowW (own D R) (own D R') wa wa':=by
 refine ⟨fun b ⟨x,h1,h2⟩=>⟨x,hg.le _ _ h1,h2⟩,fun b ⟨x,h1,h2⟩=>?_⟩
 rcases hg.fresh x b h1 with h3 | ⟨_,h3,_⟩
 ·exact .inl ⟨x,h3,h2⟩
 ·obtain ⟨o,o',_,h4,_⟩:=h'.obj x b h1
  exact .inr ⟨h3,(Array.getElem?_eq_some_iff.1 h4).1⟩
def StopR [Fns] (P:Program) (K:CallKind) (D:Nat→Prop) (R:BR) (Stop:Frame→List Frame→World→Prop):StopW:=fun wr fr mine w =>
 ∃ R' frl minel wl,wr=own D R'∧le R R'∧Stop frl minel wl∧HeapOk OC wl∧StkR P K R' frl minel fr mine∧WR P.globals.size R' D wl w
structure Cfg2 [Fns] (P:Program) (K:CallKind) (ch:Nat) (D:Nat→Prop) (R0:BR) (f0:FuncId) (Stop:Frame→List Frame→World→Prop) (T:Nat→Question→Nat) where
 fr:Frame
 mine:List Frame
 wl:World
 R:BR
 fra:Frame
 minea:List Frame
 wa:World
 stk:Stk f0 fr mine
 stkr:StkR P K R fr mine fra minea
 rel:WR P.globals.size R D wl wa
 heap:HeapOk OC wl
 le:Sr.le R0 R
 not:¬ WT P ch D (StopR P K D R0 Stop) (own D R) fra minea wa
 tape:wl.tape=T
def Nx2 [Fns] (P:Program) {K:CallKind} {ch:Nat} {D:Nat→Prop} {R0:BR} {Stop:Frame→List Frame→World→Prop} {T:Nat→Question→Nat} (c:Cfg2 P K ch D R0 f0 Stop T) (d j:Nat):Option (Cfg2 P K ch D R0 f0 Stop T)→Prop
 | some c'=>∀ τ p,(∀ i,i < j→∀ q,τ (p+i) q=T (d+i) q)→step P (lone c.fr (c.mine ++ [floor P]) (c.wl.re τ p))=.next (lone c'.fr (c'.mine ++ [floor P]) (c'.wl.re τ (p+j)))
 | none=>∀ τ p,(∀ i,i < j→∀ q,τ (p+i) q=T (d+i) q)→∀ m1,step P (lone c.fr (c.mine ++ [floor P]) (c.wl.re τ p))=.next m1→GoneM P m1
theorem next2 [Fns] (hC:SokC P) (hS:Sok P fun _=>True) {R0:BR} {Stop:Frame→List Frame→World→Prop} {T:Nat→Question→Nat} (c:Cfg2 P K ch D R0 f0 Stop T) :
  ∃ d j o,Nx2 P c d j o:=by
 obtain ⟨fr,mine,wl,R,fra,minea,wa,hst,hsr,hw,hh,hle,hn,htp⟩:=c
 have h1:∃ w',RelyW ch (orS D (own D R)) wa w'∧¬ StepW P D (own D R) (WT P ch D (StopR P K D R0 Stop)) fra minea w':=by
  apply Classical.byContradiction
  intro hc
  refine hn (.step fun w' hr=>?_)
  apply Classical.byContradiction
  intro hd
  exact hc ⟨w',hr,hd⟩
 obtain ⟨wa1,hr,hno⟩:=h1
 have hw1:=wr_rely hw hr
 refine ⟨wa1.drawn,?_⟩
 have hag:∀ {j τ p},(∀ i,i < j→∀ q,τ (p+i) q=T (wa1.drawn+i) q)→Agree (wl.re wl.tape wa1.drawn) j τ p:=fun h i hi q=>by
  rw [h i hi q,← htp]
  rfl
 have hh1:HeapOk OC (wl.re wl.tape wa1.drawn):=hh
 by_cases hb:mine=[]∧fr.mode≠.run
 ·obtain ⟨rfl,hm⟩:=hb
  have hds:fr.defers=[]:=hsr.top.defers
  exact ⟨0,none,fun τ p _ m1 hs=>.of (base_gone hst hm hds hs)⟩
 obtain ⟨j,hm⟩:=moves (S:=fun _=>True) hS hst (w:=wl.re wl.tape wa1.drawn) hh1 (fun h=>by
   by_cases hm:fr.mode=.run
   ·exact .inl hm
   ·exact (hb ⟨h,hm⟩).elim) (fun _ _=>trivial)
 rcases hm with ⟨fr',mine',w',es,k1,k2,k3,k4,k5,k6,k7⟩ | hbad
 ·have hs0:stepG P true (G fr (mine ++ [floor P])) (wl.re wl.tape wa1.drawn)=.go (G fr' (mine' ++ [floor P])) w' es:=by
   have:=k7 true [floor P] wl.tape wa1.drawn (fun i hi q=>rfl)
   rw [re_re] at this
   refine this.trans ?_
   have e:w'.re wl.tape (wa1.drawn+j)=w':=by
    have h5:w'.drawn=wa1.drawn+j:=k5
    have h6:w'.tape=wl.tape:=k6
    rw [← h5,← h6,re_self]
   rw [e]
  have hsim:=sim (csl:=[floor P]) hC hS hsr hw1 hh1 (fun h=>by
   by_cases hm:fr.mode=.run
   ·exact hm
   ·exact (hb ⟨h,hm⟩).elim)
  rcases hsim with ⟨fr1,mine1,wl1,es1,fr1',mine1',wa2,es2,R1,s1,s2,s3,s4,s5,s6,s7,s8⟩ | hno'
  ·rw [hs0] at s1
   simp only [GStep.go.injEq,G,Goroutine.mk.injEq,and_true,true_and] at s1
   obtain ⟨⟨rfl,e1⟩,rfl,rfl⟩:=s1
   obtain rfl:=List.append_cancel_right e1
   refine ⟨j,some ⟨fr',mine',w',R1,fr1',mine1',wa2,k1,s3,s4,k2,le_trans hle s5.le,fun hwt=>hno ⟨fr1',mine1',wa2,es2,own D R1,s2,fun e he=>evOk_of s4 (s7 e he),guarW_of hw1 s6,growW_of s4 s5,hwt⟩,k6.trans htp⟩,fun τ p ha=>?_⟩
   have:=k7 true [floor P] τ p (hag ha)
   rw [re_re] at this
   exact step_go this
  ·refine ⟨j,none,fun τ p ha m1 hs=>?_⟩
   rw [hs0] at hno'
   rcases hno' with hbad | ⟨fr1,cs1,w1,es1,e1,hp,hall⟩
   ·obtain ⟨_,d,hd,_⟩:=hbad
    cases hd
   ·simp only [GStep.go.injEq,G,Goroutine.mk.injEq,and_true,true_and] at e1
    obtain ⟨⟨rfl,e2⟩,rfl,rfl⟩:=e1
    obtain rfl:=List.append_cancel_right e2
    have:=k7 true [floor P] τ p (hag ha)
    rw [re_re] at this
    have h2:=step_go this
    rw [h2] at hs
    cases hs
    exact panicking_gone _ _ _ hp hall
 ·refine ⟨j,none,fun τ p ha m1 hs=>?_⟩
  have:=hbad [floor P] τ p (hag ha)
  rw [re_re] at this
  exact .of (gone_of_bad this hs)
theorem wt_of_lone [Fns] (hC:SokC P) (hS:Sok P fun _=>True) {Stop:Frame→List Frame→World→Prop}
  (hstop:∀ fr mine w τ d,HeapOk OC w→Stop fr mine w→Stop fr mine (w.re τ d)) (hmode:∀ fr mine w,Stop fr mine w→fr.mode=.run∨fr.mode=.returning)
  {fr fra:Frame} {mine minea:List Frame} {wl wa:World} (hst:Stk f0 fr mine) (hsr:StkR P K R fr mine fra minea) (hw:WR P.globals.size R D wl wa) (hh:HeapOk OC wl)
  (hrun:∀ τ d,∃ fr' mine' w',Stop fr' mine' w'∧Steps P (lone fr (mine ++ [floor P]) (wl.re τ d)) (lone fr' (mine' ++ [floor P]) w')):WT P ch D (StopR P K D R Stop) (own D R) fra minea wa:=by
 apply Classical.byContradiction
 intro hn
 let T:=wl.tape
 let c0:Cfg2 P K ch D R f0 Stop T:=⟨fr,mine,wl,R,fra,minea,wa,hst,hsr,hw,hh,le_refl R,hn,rfl⟩
 let DD:Cfg2 P K ch D R f0 Stop T→Nat:=fun c=>Classical.choose (next2 hC hS c)
 let J:Cfg2 P K ch D R f0 Stop T→Nat:=fun c=>Classical.choose (Classical.choose_spec (next2 hC hS c))
 let O:Cfg2 P K ch D R f0 Stop T→Option (Cfg2 P K ch D R f0 Stop T):=fun c=>Classical.choose (Classical.choose_spec (Classical.choose_spec (next2 hC hS c)))
 have hO:∀ c,Nx2 P c (DD c) (J c) (O c):=fun c=>Classical.choose_spec (Classical.choose_spec (Classical.choose_spec (next2 hC hS c)))
 let seq:Nat→Cfg2 P K ch D R f0 Stop T:=fun n=>Nat.rec c0 (fun _ c=>(O c).getD c) n
 let pos:Nat→Nat:=fun n=>Nat.rec 0 (fun n p=>p+J (seq n)) n
 have hseq:∀ n,seq (n+1)=(O (seq n)).getD (seq n):=fun n=>rfl
 have hpos:∀ n,pos (n+1)=pos n+J (seq n):=fun n=>rfl
 have hmono:∀ n k,pos n≤pos (n+k):=by
  intro n k
  induction k with
  | zero=>exact Nat.le_refl _
  | succ k ih=>rw [← Nat.add_assoc,hpos];omega
 have huniq:∀ n m k,pos n≤k→k < pos n+J (seq n)→pos m≤k→k < pos m+J (seq m)→n=m:=by
  intro n m k h1 h2 h3 h4
  rcases Nat.lt_trichotomy n m with h | h | h
  ·have:=hmono (n+1) (m - (n+1))
   rw [show n+1+(m - (n+1))=m from by omega,hpos] at this
   omega
  ·exact h
  ·have:=hmono (m+1) (n - (m+1))
   rw [show m+1+(n - (m+1))=n from by omega,hpos] at this
   omega
 let τ:Nat→Question→Nat:=fun k q =>
  open Classical in if h:∃ n,pos n≤k∧k < pos n+J (seq n) then T (DD (seq (Classical.choose h))+(k - pos (Classical.choose h))) q else 0
 have hτ:∀ n i,i < J (seq n)→∀ q,τ (pos n+i) q=T (DD (seq n)+i) q:=by
  intro n i hi q
  have hex:∃ m,pos m≤pos n+i∧pos n+i < pos m+J (seq m):=⟨n,by omega,by omega⟩
  have hch:=Classical.choose_spec hex
  have he:Classical.choose hex=n:=huniq _ _ _ hch.1 hch.2 (by omega) (by omega)
  show (open Classical in if h:∃ m,pos m≤pos n+i∧pos n+i < pos m+J (seq m) then _ else _)=_
  rw [dif_pos hex,he,show pos n+i - pos n=i from by omega]
 obtain ⟨fr',mine',w',hS',hsteps⟩:=hrun τ 0
 have hsteps:=stepsIn_wide.2 hsteps
 have key:∀ m,StepsIn (Machine.fenced P Fence.wide) P m (lone fr' (mine' ++ [floor P]) w')→∀ n,m=lone (seq n).fr ((seq n).mine ++ [floor P]) ((seq n).wl.re τ (pos n))→False:=by
  intro m hm
  generalize hend:lone fr' (mine' ++ [floor P]) w'=mend at hm
  induction hm with
  | refl =>
   intro n hn
   subst hend
   simp only [lone,Machine.mk.injEq,Array.mk.injEq,List.cons.injEq,Goroutine.mk.injEq,and_true] at hn
   obtain ⟨hw,hf,hc⟩:=hn
   have hc':=List.append_cancel_right hc
   subst hw hf hc'
   refine (seq n).not (.stop fun wa' hr=>?_)
   have:=hstop _ _ _ (seq n).wl.tape wa'.drawn (show HeapOk OC ((seq n).wl.re τ (pos n)) from (seq n).heap) hS'
   rw [re_re] at this
   exact ⟨(seq n).R,_,_,_,rfl,(seq n).le,this,(seq n).heap,(seq n).stkr,wr_rely (seq n).rel hr⟩
  | head hI hst' hrest ih =>
   intro n hn
   subst hn
   have hx:=hO (seq n)
   cases ho:O (seq n) with
   | none =>
    rw [ho] at hx
    refine hx τ (pos n) (hτ n) _ hst' fr' mine' w' (hmode _ _ _ hS') ?_
    rw [hend];exact stepsIn_wide.1 hrest
   | some c' =>
    rw [ho] at hx
    have h1:=hx τ (pos n) (hτ n)
    rw [h1] at hst'
    cases hst'
    refine ih hend (n+1) ?_
    rw [hseq,ho,hpos]
    rfl
 exact key _ hsteps 0 rfl
end
end Go.Ph
