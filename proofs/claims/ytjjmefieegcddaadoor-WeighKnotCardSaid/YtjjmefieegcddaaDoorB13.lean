/- A part of the proof: T14, T15, T16, T17, T18, W30, T19, W31. -/
import Derived.Test.YtjjmefieegcddaaDoorB12
import Derived.Conc.TokenTrace
import Derived.Conc.CrowdComm
import Derived.Conc.Own2
import Derived.Test.YtjjmefieegcddaaDoorB04
set_option linter.unusedVariables false
set_option linter.unusedSimpArgs false
namespace Go.Ph
open Go
open Go.Tm
open Go.Sr
open Go.Conc (G solo)
def SameO (ch:Nat) (w w':World) (b:Nat):Prop:=w'.heap[b]? = w.heap[b]?∨b=ch∧∃ o o',w.heap[b]? = some o∧w'.heap[b]? = some o'∧isCh o=true∧isCh o'=true
structure RelyW (ch:Nat) (rd:Nat→Prop) (w w':World):Prop where
 size:w.heap.size≤w'.heap.size
 keep:∀ b,rd b→SameO ch w w' b
 tape:w'.tape=w.tape
 os:w'.os=w.os
 output:w'.output=w.output
def orS (D wr:Nat→Prop):Nat→Prop:=fun b=>D b∨wr b
def EvOk (D wr:Nat→Prop) (e:Event):Prop :=
 match e.loc with
 | .cell a=>e.sync=false∧(wr a.block∨(D a.block∧e.write=false))
 | .obj r=>e.write=false∧(wr r∨D r)
 | .mark m=>m=.noRoom
 | _=>False
structure GuarW (wr:Nat→Prop) (w w':World):Prop where
 size:w.heap.size≤w'.heap.size
 keep:∀ b,b < w.heap.size→¬ wr b→w'.heap[b]? = w.heap[b]?
 os:w'.os=w.os
 output:w'.output=w.output
 tape:w'.tape=w.tape
 okh:∀ C:Code→Prop,HeapOk C w→HeapOk C w'
theorem GuarW.refl (wr:Nat→Prop) (w:World):GuarW wr w w:=⟨Nat.le_refl _,fun _ _ _=>rfl,rfl,rfl,rfl,fun _ h=>h⟩
structure GrowW (wr wr':Nat→Prop) (w w':World):Prop where
 le:∀ b,wr b→wr' b
 fresh:∀ b,wr' b→wr b∨(w.heap.size≤b∧b < w'.heap.size)
theorem GrowW.refl (wr:Nat→Prop) (w:World):GrowW wr wr w w:=⟨fun _ h=>h,fun _ h=>.inl h⟩
inductive Tr:Type
 | leaf
 | node (f:World→Tr)
abbrev StopW:=(Nat→Prop)→Frame→List Frame→World→Prop
def StepW (P:Program) (D wr:Nat→Prop) (K:StopW) (fr:Frame) (mine:List Frame) (w:World):Prop :=
 ∃ fr' mine' w' es wr',(∀ main cs,stepG P main (G fr (mine ++ cs)) w=.go (G fr' (mine' ++ cs)) w' es)∧(∀ e∈es,EvOk D wr' e)∧GuarW wr w w'∧GrowW wr wr' w w'∧K wr' fr' mine' w'
def WTr (P:Program) (ch:Nat) (D:Nat→Prop) (Stop:StopW):Tr→StopW
 | .leaf=>fun wr fr mine w=>∀ w',RelyW ch (orS D wr) w w'→Stop wr fr mine w'
 | .node f=>fun wr fr mine w=>∀ w',RelyW ch (orS D wr) w w'→Stop wr fr mine w'∨StepW P D wr (WTr P ch D Stop (f w')) fr mine w'
def WT (P:Program) (ch:Nat) (D:Nat→Prop) (Stop:StopW) (wr:Nat→Prop) (fr:Frame) (mine:List Frame) (w:World):Prop:=∃ τ,WTr P ch D Stop τ wr fr mine w
variable {ch:Nat}
theorem SameO.refl (w:World) (b:Nat):SameO ch w w b:=.inl rfl
theorem SameO.trans {w w' w'':World} {b:Nat} (h:SameO ch w w' b) (h':SameO ch w' w'' b):SameO ch w w'' b:=by
 rcases h with h | ⟨e,o,o',h1,h2,h3,h4⟩
 ·rcases h' with h' | ⟨e,o,o',k1,k2,k3,k4⟩
  ·exact .inl (h'.trans h)
  ·exact .inr ⟨e,o,o',h ▸ k1,k2,k3,k4⟩
 ·rcases h' with h' | ⟨_,p,p',k1,k2,k3,k4⟩
  ·exact .inr ⟨e,o,o',h1,h'.trans h2,h3,h4⟩
  ·exact .inr ⟨e,o,p',h1,k2,h3,k4⟩
theorem RelyW.refl (rd:Nat→Prop) (w:World):RelyW ch rd w w:=⟨Nat.le_refl _,fun b _=>.refl w b,rfl,rfl,rfl⟩
theorem RelyW.trans {rd:Nat→Prop} {w w' w'':World} (h:RelyW ch rd w w') (h':RelyW ch rd w' w''):RelyW ch rd w w'' :=
 ⟨Nat.le_trans h.size h'.size,fun b hb=>(h.keep b hb).trans (h'.keep b hb),h'.tape.trans h.tape,h'.os.trans h.os,h'.output.trans h.output⟩
theorem RelyW.sub {rd rd':Nat→Prop} {w w':World} (h:RelyW ch rd w w') (hs:∀ b,rd' b→rd b):RelyW ch rd' w w':=⟨h.size,fun b hb=>h.keep b (hs b hb),h.tape,h.os,h.output⟩
theorem RelyW.at (rd:Nat→Prop) (w:World) (d:Nat):RelyW ch rd w (w.at d):=⟨Nat.le_refl _,fun _ _=>.inl rfl,rfl,rfl,rfl⟩
section
variable {P:Program} {D:Nat→Prop} {Stop Stop':StopW} {wr:Nat→Prop} {fr:Frame} {mine:List Frame} {w w':World}
theorem WTr.rely {τ:Tr} (h:WTr P ch D Stop τ wr fr mine w) (hr:RelyW ch (orS D wr) w w'):WTr P ch D Stop τ wr fr mine w':=by
 cases τ with
 | leaf=>exact fun w2 h2=>h w2 (hr.trans h2)
 | node f=>exact fun w2 h2=>h w2 (hr.trans h2)
theorem WT.rely (h:WT P ch D Stop wr fr mine w) (hr:RelyW ch (orS D wr) w w'):WT P ch D Stop wr fr mine w':=let ⟨τ,h⟩:=h;⟨τ,h.rely hr⟩
theorem WT.stop (h:∀ w',RelyW ch (orS D wr) w w'→Stop wr fr mine w'):WT P ch D Stop wr fr mine w:=⟨.leaf,h⟩
theorem WT.mk (h:∀ w',RelyW ch (orS D wr) w w'→Stop wr fr mine w'∨StepW P D wr (WT P ch D Stop) fr mine w'):WT P ch D Stop wr fr mine w:=by
 have key:∀ w',∃ τ,RelyW ch (orS D wr) w w'→Stop wr fr mine w'∨StepW P D wr (WTr P ch D Stop τ) fr mine w':=by
  intro w'
  by_cases hr:RelyW ch (orS D wr) w w'
  ·rcases h w' hr with h | ⟨fr',mine',w2,es,wr',h1,h2,h3,h4,τ,h5⟩
   ·exact ⟨.leaf,fun _=>.inl h⟩
   ·exact ⟨τ,fun _=>.inr ⟨fr',mine',w2,es,wr',h1,h2,h3,h4,h5⟩⟩
  ·exact ⟨.leaf,fun h=>absurd h hr⟩
 exact ⟨.node fun w'=>Classical.choose (key w'),fun w'=>Classical.choose_spec (key w')⟩
theorem WT.step (h:∀ w',RelyW ch (orS D wr) w w'→StepW P D wr (WT P ch D Stop) fr mine w'):WT P ch D Stop wr fr mine w:=.mk fun w' hr=>.inr (h w' hr)
theorem WTr.out {τ:Tr} (h:WTr P ch D Stop τ wr fr mine w):Stop wr fr mine w∨StepW P D wr (WT P ch D Stop) fr mine w:=by
 cases τ with
 | leaf=>exact .inl (h w (.refl _ w))
 | node f =>
  rcases h w (.refl _ w) with h | ⟨fr',mine',w2,es,wr',h1,h2,h3,h4,h5⟩
  ·exact .inl h
  ·exact .inr ⟨fr',mine',w2,es,wr',h1,h2,h3,h4,_,h5⟩
theorem WT.out (h:WT P ch D Stop wr fr mine w):Stop wr fr mine w∨StepW P D wr (WT P ch D Stop) fr mine w:=let ⟨_,h⟩:=h;h.out
theorem WT.bind (h:WT P ch D Stop wr fr mine w) (hb:∀ wr fr mine w,Stop wr fr mine w→WT P ch D Stop' wr fr mine w):WT P ch D Stop' wr fr mine w:=by
 obtain ⟨τ,h⟩:=h
 induction τ generalizing wr fr mine w with
 | leaf=>exact .mk fun w' hr=>(hb _ _ _ _ (h w' hr)).out
 | node f ih =>
  refine .mk fun w' hr=>?_
  rcases h w' hr with h | ⟨fr',mine',w2,es,wr',h1,h2,h3,h4,h5⟩
  ·exact (hb _ _ _ _ h).out
  ·exact .inr ⟨fr',mine',w2,es,wr',h1,h2,h3,h4,ih w' h5⟩
theorem WT.mono (h:WT P ch D Stop wr fr mine w) (hb:∀ wr fr mine w,Stop wr fr mine w→Stop' wr fr mine w):WT P ch D Stop' wr fr mine w:=by
 obtain ⟨τ,h⟩:=h
 induction τ generalizing wr fr mine w with
 | leaf=>exact .stop fun w' hr=>hb _ _ _ _ (h w' hr)
 | node f ih =>
  refine .mk fun w' hr=>?_
  rcases h w' hr with h | ⟨fr',mine',w2,es,wr',h1,h2,h3,h4,h5⟩
  ·exact .inl (hb _ _ _ _ h)
  ·exact .inr ⟨fr',mine',w2,es,wr',h1,h2,h3,h4,ih w' h5⟩
theorem WT.below (h:WT P ch D Stop wr fr mine w) (cs:List Frame):WT P ch D (fun wr fr mine w=>∃ m,mine=m ++ cs∧Stop wr fr m w) wr fr (mine ++ cs) w:=by
 obtain ⟨τ,h⟩:=h
 induction τ generalizing wr fr mine w with
 | leaf=>exact .stop fun w' hr=>⟨mine,rfl,h w' hr⟩
 | node f ih =>
  refine .mk fun w' hr=>?_
  rcases h w' hr with h | ⟨fr',mine',w2,es,wr',h1,h2,h3,h4,h5⟩
  ·exact .inl ⟨mine,rfl,h⟩
  ·exact .inr ⟨fr',mine' ++ cs,w2,es,wr',fun main cs'=>by rw [List.append_assoc,List.append_assoc];exact h1 main (cs ++ cs'),h2,h3,h4,ih w' h5⟩
theorem WT.move {fr':Frame} {mine':List Frame} (h:∀ main cs w,stepG P main (G fr (mine ++ cs)) w=.go (G fr' (mine' ++ cs)) w) (hk:WT P ch D Stop wr fr' mine' w):WT P ch D Stop wr fr mine w :=
 .step fun w' hr=>⟨fr',mine',w',#[],wr,fun main cs=>h main cs w',by simp,.refl wr w',.refl wr w',hk.rely hr⟩
end
def own (D:Nat→Prop) (R:BR):Nat→Prop:=fun b'=>∃ b,R b b'∧¬ D b
section
variable {P:Program} {K:CallKind} {D:Nat→Prop} {R:BR} {f0:FuncId}
theorem wr_rely [Fns] {G:Nat} {wl wa wa':World} (h:WR G R D wl wa) (hr:RelyW ch (orS D (own D R)) wa wa'):WR G R D (wl.re wl.tape wa'.drawn) wa':=by
 refine ⟨fun b b' hb=>?_,h.fn,h.inj,h.old,h.new,hr.tape.trans h.tape,rfl,h.dom,h.gl,Nat.le_trans h.ga hr.size⟩
 obtain ⟨o,o',h1,h2,h3⟩:=h.obj b b' hb
 have hk:SameO ch wa wa' b':=by
  by_cases hD:D b
  ·have:=h.old b b' hb hD
   subst this
   exact hr.keep _ (.inl hD)
  ·exact hr.keep _ (.inr ⟨b,hb,hD⟩)
 rcases hk with hk | ⟨_,x,x',k1,k2,k3,k4⟩
 ·exact ⟨o,o',h1,hk.trans h2,h3⟩
 ·rw [h2] at k1
  cases k1
  refine ⟨o,x',h1,k2,?_⟩
  rcases h3 with ⟨c,c',e,f,f',rfl,rfl,_⟩ | ⟨a,a',l,rfl,rfl,_⟩ | ⟨h4,h5,h6⟩
  ·cases k3
  ·cases k3
  ·exact .inr (.inr ⟨h4,h5,k4⟩)
theorem evOk_of [Fns] {R:BR} {G:Nat} {wl wa:World} (h:WR G R D wl wa) {e:Event} (he:EvR R D e):EvOk D (own D R) e:=by
 obtain ⟨loc,wrt,sy⟩:=e
 cases loc with
 | cell a =>
  obtain ⟨h1,b,h2,h3⟩:=he
  refine ⟨h1,?_⟩
  by_cases hD:D b
  ·have:=h.old _ _ h2 hD
   refine .inr ⟨this ▸ hD,?_⟩
   cases hw:wrt with
   | false=>rfl
   | true=>exact (h3 hw hD).elim
  ·exact .inl ⟨b,h2,hD⟩
 | obj r =>
  obtain ⟨h1,b,h3⟩:=he
  refine ⟨h1,?_⟩
  by_cases hD:D b
  ·exact .inr (h.old _ _ h3 hD ▸ hD)
  ·exact .inl ⟨b,h3,hD⟩
 | mark m=>exact he
 | _=>exact he.elim
theorem guarW_of [Fns] {G:Nat} {wl wa wa':World} (h:WR G R D wl wa) (hg:Guar R D wa wa'):GuarW (own D R) wa wa' :=
 ⟨hg.size,fun b' hb hn=>hg.keep b' hb fun b hb'=>Classical.byContradiction fun hD=>hn ⟨b,hb',hD⟩,hg.os,hg.output,hg.tape,hg.okh⟩
theorem growW_of [Fns] {G:Nat} {R':BR} {wl wl' wa wa':World} (h':WR G R' D wl' wa') (hg:Grow R R' D wl wa):GrowW (own D R) (own D R') wa wa':=by
 refine ⟨fun b ⟨x,h1,h2⟩=>⟨x,hg.le _ _ h1,h2⟩,fun b ⟨x,h1,h2⟩=>?_⟩
 rcases hg.fresh x b h1 with h3 | ⟨_,h3,_⟩
 ·exact .inl ⟨x,h3,h2⟩
 ·obtain ⟨o,o',_,h4,_⟩:=h'.obj x b h1
  exact .inr ⟨h3,(Array.getElem?_eq_some_iff.1 h4).1⟩
def StopR [Fns] (P:Program) (K:CallKind) (D:Nat→Prop) (R:BR) (Stop:Frame→List Frame→World→Prop):StopW:=fun wr fr mine w =>
 ∃ R' frl minel wl,wr=own D R'∧le R R'∧Stop frl minel wl∧HeapOk OC wl∧StkR P K R' frl minel fr mine∧WR P.globals.size R' D wl w
structure Cfg2 [Fns] (P:Program) (K:CallKind) (ch:Nat) (D:Nat→Prop) (R0:BR) (f0:FuncId) (Stop:Frame→List Frame→World→Prop) (T:Nat→Question→Nat) where
 fr:Frame
 mine:List Frame
 wl:World
 R:BR
 fra:Frame
 minea:List Frame
 wa:World
 stk:Stk f0 fr mine
 stkr:StkR P K R fr mine fra minea
 rel:WR P.globals.size R D wl wa
 heap:HeapOk OC wl
 le:Sr.le R0 R
 not:¬ WT P ch D (StopR P K D R0 Stop) (own D R) fra minea wa
 tape:wl.tape=T
def Nx2 [Fns] (P:Program) {K:CallKind} {ch:Nat} {D:Nat→Prop} {R0:BR} {Stop:Frame→List Frame→World→Prop} {T:Nat→Question→Nat} (c:Cfg2 P K ch D R0 f0 Stop T) (d j:Nat):Option (Cfg2 P K ch D R0 f0 Stop T)→Prop
 | some c'=>∀ τ p,(∀ i,i < j→∀ q,τ (p+i) q=T (d+i) q)→step P (lone c.fr (c.mine ++ [floor P]) (c.wl.re τ p))=.next (lone c'.fr (c'.mine ++ [floor P]) (c'.wl.re τ (p+j)))
 | none=>∀ τ p,(∀ i,i < j→∀ q,τ (p+i) q=T (d+i) q)→∀ m1,step P (lone c.fr (c.mine ++ [floor P]) (c.wl.re τ p))=.next m1→GoneM P m1
theorem next2 [Fns] (hC:SokC P) (hS:Sok P fun _=>True) {R0:BR} {Stop:Frame→List Frame→World→Prop} {T:Nat→Question→Nat} (c:Cfg2 P K ch D R0 f0 Stop T) :
  ∃ d j o,Nx2 P c d j o:=by
 obtain ⟨fr,mine,wl,R,fra,minea,wa,hst,hsr,hw,hh,hle,hn,htp⟩:=c
 have h1:∃ w',RelyW ch (orS D (own D R)) wa w'∧¬ StepW P D (own D R) (WT P ch D (StopR P K D R0 Stop)) fra minea w':=by
  apply Classical.byContradiction
  intro hc
  refine hn (.step fun w' hr=>?_)
  apply Classical.byContradiction
  intro hd
  exact hc ⟨w',hr,hd⟩
 obtain ⟨wa1,hr,hno⟩:=h1
 have hw1:=wr_rely hw hr
 refine ⟨wa1.drawn,?_⟩
 have hag:∀ {j τ p},(∀ i,i < j→∀ q,τ (p+i) q=T (wa1.drawn+i) q)→Agree (wl.re wl.tape wa1.drawn) j τ p:=fun h i hi q=>by
  rw [h i hi q,← htp]
  rfl
 have hh1:HeapOk OC (wl.re wl.tape wa1.drawn):=hh
 by_cases hb:mine=[]∧fr.mode≠.run
 ·obtain ⟨rfl,hm⟩:=hb
  have hds:fr.defers=[]:=hsr.top.defers
  exact ⟨0,none,fun τ p _ m1 hs=>.of (base_gone hst hm hds hs)⟩
 obtain ⟨j,hm⟩:=moves (S:=fun _=>True) hS hst (w:=wl.re wl.tape wa1.drawn) hh1 (fun h=>by
   by_cases hm:fr.mode=.run
   ·exact .inl hm
   ·exact (hb ⟨h,hm⟩).elim) (fun _ _=>trivial)
 rcases hm with ⟨fr',mine',w',es,k1,k2,k3,k4,k5,k6,k7⟩ | hbad
 ·have hs0:stepG P true (G fr (mine ++ [floor P])) (wl.re wl.tape wa1.drawn)=.go (G fr' (mine' ++ [floor P])) w' es:=by
   have:=k7 true [floor P] wl.tape wa1.drawn (fun i hi q=>rfl)
   rw [re_re] at this
   refine this.trans ?_
   have e:w'.re wl.tape (wa1.drawn+j)=w':=by
    have h5:w'.drawn=wa1.drawn+j:=k5
    have h6:w'.tape=wl.tape:=k6
    rw [← h5,← h6,re_self]
   rw [e]
  have hsim:=sim (csl:=[floor P]) hC hS hsr hw1 hh1 (fun h=>by
   by_cases hm:fr.mode=.run
   ·exact hm
   ·exact (hb ⟨h,hm⟩).elim)
  rcases hsim with ⟨fr1,mine1,wl1,es1,fr1',mine1',wa2,es2,R1,s1,s2,s3,s4,s5,s6,s7,s8⟩ | hno'
  ·rw [hs0] at s1
   simp only [GStep.go.injEq,G,Goroutine.mk.injEq,and_true,true_and] at s1
   obtain ⟨⟨rfl,e1⟩,rfl,rfl⟩:=s1
   obtain rfl:=List.append_cancel_right e1
   refine ⟨j,some ⟨fr',mine',w',R1,fr1',mine1',wa2,k1,s3,s4,k2,le_trans hle s5.le,fun hwt=>hno ⟨fr1',mine1',wa2,es2,own D R1,s2,fun e he=>evOk_of s4 (s7 e he),guarW_of hw1 s6,growW_of s4 s5,hwt⟩,k6.trans htp⟩,fun τ p ha=>?_⟩
   have:=k7 true [floor P] τ p (hag ha)
   rw [re_re] at this
   exact step_go this
  ·refine ⟨j,none,fun τ p ha m1 hs=>?_⟩
   rw [hs0] at hno'
   rcases hno' with hbad | ⟨fr1,cs1,w1,es1,e1,hp,hall⟩
   ·obtain ⟨_,d,hd,_⟩:=hbad
    cases hd
   ·simp only [GStep.go.injEq,G,Goroutine.mk.injEq,and_true,true_and] at e1
    obtain ⟨⟨rfl,e2⟩,rfl,rfl⟩:=e1
    obtain rfl:=List.append_cancel_right e2
    have:=k7 true [floor P] τ p (hag ha)
    rw [re_re] at this
    have h2:=step_go this
    rw [h2] at hs
    cases hs
    exact panicking_gone _ _ _ hp hall
 ·refine ⟨j,none,fun τ p ha m1 hs=>?_⟩
  have:=hbad [floor P] τ p (hag ha)
  rw [re_re] at this
  exact .of (gone_of_bad this hs)
theorem wt_of_lone [Fns] (hC:SokC P) (hS:Sok P fun _=>True) {Stop:Frame→List Frame→World→Prop}
  (hstop:∀ fr mine w τ d,HeapOk OC w→Stop fr mine w→Stop fr mine (w.re τ d)) (hmode:∀ fr mine w,Stop fr mine w→fr.mode=.run∨fr.mode=.returning)
  {fr fra:Frame} {mine minea:List Frame} {wl wa:World} (hst:Stk f0 fr mine) (hsr:StkR P K R fr mine fra minea) (hw:WR P.globals.size R D wl wa) (hh:HeapOk OC wl)
  (hrun:∀ τ d,∃ fr' mine' w',Stop fr' mine' w'∧Steps P (lone fr (mine ++ [floor P]) (wl.re τ d)) (lone fr' (mine' ++ [floor P]) w')):WT P ch D (StopR P K D R Stop) (own D R) fra minea wa:=by
 apply Classical.byContradiction
 intro hn
 let T:=wl.tape
 let c0:Cfg2 P K ch D R f0 Stop T:=⟨fr,mine,wl,R,fra,minea,wa,hst,hsr,hw,hh,le_refl R,hn,rfl⟩
 let DD:Cfg2 P K ch D R f0 Stop T→Nat:=fun c=>Classical.choose (next2 hC hS c)
 let J:Cfg2 P K ch D R f0 Stop T→Nat:=fun c=>Classical.choose (Classical.choose_spec (next2 hC hS c))
 let O:Cfg2 P K ch D R f0 Stop T→Option (Cfg2 P K ch D R f0 Stop T):=fun c=>Classical.choose (Classical.choose_spec (Classical.choose_spec (next2 hC hS c)))
 have hO:∀ c,Nx2 P c (DD c) (J c) (O c):=fun c=>Classical.choose_spec (Classical.choose_spec (Classical.choose_spec (next2 hC hS c)))
 let seq:Nat→Cfg2 P K ch D R f0 Stop T:=fun n=>Nat.rec c0 (fun _ c=>(O c).getD c) n
 let pos:Nat→Nat:=fun n=>Nat.rec 0 (fun n p=>p+J (seq n)) n
 have hseq:∀ n,seq (n+1)=(O (seq n)).getD (seq n):=fun n=>rfl
 have hpos:∀ n,pos (n+1)=pos n+J (seq n):=fun n=>rfl
 have hmono:∀ n k,pos n≤pos (n+k):=by
  intro n k
  induction k with
  | zero=>exact Nat.le_refl _
  | succ k ih=>rw [← Nat.add_assoc,hpos];omega
 have huniq:∀ n m k,pos n≤k→k < pos n+J (seq n)→pos m≤k→k < pos m+J (seq m)→n=m:=by
  intro n m k h1 h2 h3 h4
  rcases Nat.lt_trichotomy n m with h | h | h
  ·have:=hmono (n+1) (m - (n+1))
   rw [show n+1+(m - (n+1))=m from by omega,hpos] at this
   omega
  ·exact h
  ·have:=hmono (m+1) (n - (m+1))
   rw [show m+1+(n - (m+1))=n from by omega,hpos] at this
   omega
 let τ:Nat→Question→Nat:=fun k q =>
  open Classical in if h:∃ n,pos n≤k∧k < pos n+J (seq n) then T (DD (seq (Classical.choose h))+(k - pos (Classical.choose h))) q else 0
 have hτ:∀ n i,i < J (seq n)→∀ q,τ (pos n+i) q=T (DD (seq n)+i) q:=by
  intro n i hi q
  have hex:∃ m,pos m≤pos n+i∧pos n+i < pos m+J (seq m):=⟨n,by omega,by omega⟩
  have hch:=Classical.choose_spec hex
  have he:Classical.choose hex=n:=huniq _ _ _ hch.1 hch.2 (by omega) (by omega)
  show (open Classical in if h:∃ m,pos m≤pos n+i∧pos n+i < pos m+J (seq m) then _ else _)=_
  rw [dif_pos hex,he,show pos n+i - pos n=i from by omega]
 obtain ⟨fr',mine',w',hS',hsteps⟩:=hrun τ 0
 have hsteps:=stepsIn_wide.2 hsteps
 have key:∀ m,StepsIn (Machine.fenced P Fence.wide) P m (lone fr' (mine' ++ [floor P]) w')→∀ n,m=lone (seq n).fr ((seq n).mine ++ [floor P]) ((seq n).wl.re τ (pos n))→False:=by
  intro m hm
  generalize hend:lone fr' (mine' ++ [floor P]) w'=mend at hm
  induction hm with
  | refl =>
   intro n hn
   subst hend
   simp only [lone,Machine.mk.injEq,Array.mk.injEq,List.cons.injEq,Goroutine.mk.injEq,and_true] at hn
   obtain ⟨hw,hf,hc⟩:=hn
   have hc':=List.append_cancel_right hc
   subst hw hf hc'
   refine (seq n).not (.stop fun wa' hr=>?_)
   have:=hstop _ _ _ (seq n).wl.tape wa'.drawn (show HeapOk OC ((seq n).wl.re τ (pos n)) from (seq n).heap) hS'
   rw [re_re] at this
   exact ⟨(seq n).R,_,_,_,rfl,(seq n).le,this,(seq n).heap,(seq n).stkr,wr_rely (seq n).rel hr⟩
  | head hI hst' hrest ih =>
   intro n hn
   subst hn
   have hx:=hO (seq n)
   cases ho:O (seq n) with
   | none =>
    rw [ho] at hx
    refine hx τ (pos n) (hτ n) _ hst' fr' mine' w' (hmode _ _ _ hS') ?_
    rw [hend];exact stepsIn_wide.1 hrest
   | some c' =>
    rw [ho] at hx
    have h1:=hx τ (pos n) (hτ n)
    rw [h1] at hst'
    cases hst'
    refine ih hend (n+1) ?_
    rw [hseq,ho,hpos]
    rfl
 exact key _ hsteps 0 rfl
end
end Go.Ph
namespace Go.Ph
open Go
open Go.Tm
open Go.Sr
open Go.Conc
open Go.ConcN (upd upd_same upd_ne)
def blk:Go.Loc→Option Nat
 | .cell a=>some a.block
 | .obj r=>some r
 | _=>none
def Far (D wr:Nat→Prop) (n:Nat) (a:Touch):Prop:=∃ b,blk a.loc=some b∧b < n∧¬ wr b∧(D b→a.write=false)
structure PhT (A:Nat→Prop) (D wr:Nat→Nat→Prop) (n:Nat) (t:Trace):Prop where
 clean:∀ said,¬ Race said t
 unk:∀ g,(g=0∨A g)→∀ i a,touchAt t i=some a→a.loc.isMemory=true→Knows t g i∨Far (D g) (wr g) n a
 main:∀ i a,touchAt t i=some a→a.loc.isMemory=true→Knows t 0 i∨∃ g,A g∧t.g? i=some g
 hears:∀ g,(g=0∨A g)→Deaf t g=0
 seen:∃ B,∀ op∈t,op.act.low B
 sep:∀ g h b,(g=0∨A g)→(h=0∨A h)→g≠h→wr g b→¬ D h b∧¬ wr h b
 low:∀ g b,(g=0∨A g)→D g b∨wr g b→b < n
theorem touch_evOk {D wr:Nat→Prop} {e:Event} (h:EvOk D wr e) {x:Touch} (hx:(MemAct.ofEvent e).touch? = some x):∃ b,blk x.loc=some b∧(wr b∨(D b∧x.write=false)):=by
 obtain ⟨loc,w,sy⟩:=e
 cases loc with
 | cell a =>
  obtain ⟨hs,h⟩:=h
  dsimp only at hs h
  subst hs
  simp only [MemAct.ofEvent,MemAct.touch?,Option.some.injEq] at hx
  subst hx
  exact ⟨a.block,rfl,h⟩
 | obj r =>
  obtain ⟨hw,h⟩:=h
  dsimp only at hw h
  subst hw
  simp only [MemAct.ofEvent,MemAct.touch?,Option.some.injEq] at hx
  subst hx
  refine ⟨r,rfl,?_⟩
  rcases h with h | h
  ·exact .inl h
  ·exact .inr ⟨h,rfl⟩
 | mark m =>
  have hm:m=.noRoom:=h
  subst hm
  simp [MemAct.ofEvent,MemAct.touch?] at hx
 | _=>exact h.elim
theorem nd_evOk {D wr:Nat→Prop} {e:Event} (h:EvOk D wr e):ND e:=by
 obtain ⟨loc,w,sy⟩:=e
 cases loc with
 | mark m =>
  have hm:m=.noRoom:=h
  subst hm
  exact ⟨by simp,by simp⟩
 | _=>exact ⟨by simp,by simp⟩
section
variable {A:Nat→Prop} {D wr:Nat→Nat→Prop} {n n':Nat} {t:Trace}
theorem PhT.own (h:PhT A D wr n t) {g:Nat} (hg:g=0∨A g) {wr':Nat→Prop} {es:Array Event} (hev:∀ e∈es,EvOk (D g) wr' e) (hle:∀ b,wr g b→wr' b) (hfr:∀ b,wr' b→wr g b∨(n≤b∧b < n')) (hn:n≤n') (fn:FuncId) (pos:String) :
  PhT A D (upd wr g wr') n' (t ++ MemOp.ofEvents g fn pos es):=by
 have hu:∀ op∈MemOp.ofEvents g fn pos es,op.g=g:=fun op hop=>by obtain ⟨e,_,rfl⟩:=Go.Conc.mem_ofEvents hop;rfl
 have htch:∀ op∈MemOp.ofEvents g fn pos es,∀ x,op.act.touch? = some x→∃ b,blk x.loc=some b∧(wr' b∨(D g b∧x.write=false)):=fun op hop x hx=>by
  obtain ⟨e,he,rfl⟩:=Go.Conc.mem_ofEvents hop
  exact touch_evOk (hev e he) hx
 have hold:∀ h' a,(h'=0∨A h')→Far (D h') (wr h') n a→Far (D h') (upd wr g wr' h') n' a:=by
  rintro h' a hh ⟨b,h1,h2,h3,h4⟩
  refine ⟨b,h1,by omega,?_,h4⟩
  by_cases e:h'=g
  ·subst e
   rw [upd_same]
   intro hb
   rcases hfr b hb with h5 | h5
   ·exact h3 h5
   ·omega
  ·rw [upd_ne _ _ e];exact h3
 refine ⟨fun said=>noRace_append (h.clean said) hu fun i a ha op hop b hb hc=>?_,fun h' hh i a ha hm=>?_,fun i a ha hm=>?_,fun h' hh=>?_,?_,fun x y b hx hy hxy hw=>?_,fun x b hx hb=>?_⟩
 ·obtain ⟨hloc,hmem,hww,_⟩:=hc
  rcases h.unk g hg i a ha hmem with hk | ⟨bb,h1,h2,h3,h4⟩
  ·exact hk
  ·exfalso
   obtain ⟨b2,h5,h6⟩:=htch op hop b hb
   rw [← hloc,h1] at h5
   cases h5
   rcases h6 with h6 | ⟨h6,h7⟩
   ·rcases hfr _ h6 with h8 | h8
    ·exact h3 h8
    ·omega
   ·rcases hww with h8 | h8
    ·rw [h4 h6] at h8;cases h8
    ·rw [h7] at h8;cases h8
 ·obtain ⟨x,hx,hxa⟩:=touch_of ha
  rcases getElem?_append_cases hx with ⟨_,hx'⟩ | ⟨_,hxu⟩
  ·rcases h.unk h' hh i a (by rw [touchAt_of hx'];exact hxa) hm with hk | hf
   ·exact .inl (hk.app _)
   ·exact .inr (hold h' a hh hf)
  ·by_cases e:h'=g
   ·subst e
    have:=knows_own hx
    rw [hu x hxu] at this
    exact .inl this
   ·obtain ⟨b,h1,h2⟩:=htch x hxu a hxa
    have hbn:∀ b,D h' b∨wr h' b→b < n:=fun b hb=>h.low h' b hh hb
    refine .inr ⟨b,h1,?_,?_,fun hD=>?_⟩
    ·rcases h2 with h2 | ⟨h2,_⟩
     ·rcases hfr b h2 with h3 | h3
      ·have:=h.low g b hg (.inr h3);omega
      ·exact h3.2
     ·have:=h.low g b hg (.inl h2);omega
    ·rw [upd_ne _ _ e]
     intro hw
     have hs:=h.sep h' g b hh hg e hw
     rcases h2 with h2 | ⟨h2,_⟩
     ·rcases hfr b h2 with h3 | h3
      ·exact hs.2 h3
      ·have:=hbn b (.inr hw);omega
     ·exact hs.1 h2
    ·rcases h2 with h2 | ⟨_,h2⟩
     ·rcases hfr b h2 with h3 | h3
      ·exact ((h.sep g h' b hg hh (fun e'=>e e'.symm) h3).1 hD).elim
      ·have:=hbn b (.inl hD);omega
     ·exact h2
 ·obtain ⟨x,hx,hxa⟩:=touch_of ha
  rcases getElem?_append_cases hx with ⟨hi,hx'⟩ | ⟨_,hxu⟩
  ·rcases h.main i a (by rw [touchAt_of hx'];exact hxa) hm with hk | ⟨g',h1,h2⟩
   ·exact .inl (hk.app _)
   ·exact .inr ⟨g',h1,by rw [g?_old hi];exact h2⟩
  ·rcases hg with rfl | hg
   ·have:=knows_own hx
    rw [hu x hxu] at this
    exact .inl this
   ·exact .inr ⟨g,hg,by rw [g?_of hx,hu x hxu]⟩
 ·by_cases e:g=h'
  ·subst e
   rw [Deaf_own]
   exact (deafBehind_still (fun e he=>nd_evOk (hev e he)) _).trans (h.hears _ hh)
  ·exact (Deaf_other t e _ hu).trans (h.hears _ hh)
 ·obtain ⟨B,hB⟩:=h.seen
  obtain ⟨B',hB'⟩:=low_all es
  refine ⟨B+B',seen_app (fun op hop=>MemAct.low_mono (by omega) (hB op hop)) fun op hop=>?_⟩
  obtain ⟨e,he,rfl⟩:=Go.Conc.mem_ofEvents hop
  exact MemAct.low_mono (by omega) (hB' e he)
 ·by_cases e:x=g
  ·subst e
   rw [upd_same] at hw
   rw [upd_ne _ _ (Ne.symm hxy)]
   rcases hfr b hw with h3 | h3
   ·exact h.sep x y b hx hy hxy h3
   ·exact ⟨fun hb=>by have:=h.low y b hy (.inl hb);omega,fun hb=>by have:=h.low y b hy (.inr hb);omega⟩
  ·rw [upd_ne _ _ e] at hw
   have hs:=h.sep x y b hx hy hxy hw
   refine ⟨hs.1,?_⟩
   by_cases e':y=g
   ·subst e'
    rw [upd_same]
    intro hb
    rcases hfr b hb with h3 | h3
    ·exact hs.2 h3
    ·have:=h.low x b hx (.inr hw);omega
   ·rw [upd_ne _ _ e'];exact hs.2
 ·by_cases e:x=g
  ·subst e
   rw [upd_same] at hb
   rcases hb with hb | hb
   ·have:=h.low x b hx (.inl hb);omega
   ·rcases hfr b hb with h3 | h3
    ·have:=h.low x b hx (.inr h3);omega
    ·exact h3.2
  ·rw [upd_ne _ _ e] at hb
   have:=h.low x b hx hb
   omega
theorem PhT.mute (h:PhT A D wr n t) {u:Trace} {g:Nat} (hg:g≠0∧¬ A g) (hu:∀ op∈u,op.g=g) (hn:∀ op∈u,op.act.touch? = none) (hl:∃ B,∀ op∈u,op.act.low B):PhT A D wr n (t ++ u):=by
 refine ⟨fun said=>noRace_appendMute (h.clean said) hn,fun h' hh i a ha hm=>?_,fun i a ha hm=>?_,fun h' hh=>?_,?_,h.sep,h.low⟩
 ·obtain ⟨x,hx,hxa⟩:=touch_of ha
  rcases getElem?_append_cases hx with ⟨_,hx'⟩ | ⟨_,hxu⟩
  ·exact (h.unk h' hh i a (by rw [touchAt_of hx'];exact hxa) hm).imp (·.app _) id
  ·rw [hn x hxu] at hxa;cases hxa
 ·obtain ⟨x,hx,hxa⟩:=touch_of ha
  rcases getElem?_append_cases hx with ⟨hi,hx'⟩ | ⟨_,hxu⟩
  ·exact (h.main i a (by rw [touchAt_of hx'];exact hxa) hm).imp (·.app _) fun ⟨g',h1,h2⟩=>⟨g',h1,by rw [g?_old hi];exact h2⟩
  ·rw [hn x hxu] at hxa;cases hxa
 ·refine (Deaf_other t (fun e=>?_) u hu).trans (h.hears _ hh)
  subst e
  rcases hh with hh | hh
  ·exact hg.1 hh
  ·exact hg.2 hh
 ·obtain ⟨B,hB⟩:=h.seen
  obtain ⟨B',hB'⟩:=hl
  exact ⟨B+B',seen_app (fun op hop=>MemAct.low_mono (by omega) (hB op hop)) fun op hop=>MemAct.low_mono (by omega) (hB' op hop)⟩
theorem PhT.muteEvents (h:PhT A D wr n t) {g:Nat} (hg:g≠0∧¬ A g) {es:Array Event} (hm:∀ e∈es,e.mute=true) (fn:FuncId) (pos:String):PhT A D wr n (t ++ MemOp.ofEvents g fn pos es) :=
 h.mute hg (fun op hop=>by obtain ⟨e,_,rfl⟩:=Go.Conc.mem_ofEvents hop;rfl) (fun op hop=>by obtain ⟨e,he,rfl⟩:=Go.Conc.mem_ofEvents hop;exact touch_mute (hm e he)) ⟨0,fun op hop=>by obtain ⟨e,he,rfl⟩:=Go.Conc.mem_ofEvents hop;exact low_mute (hm e he) 0⟩
theorem PhT.ofPast (h:Past' t) (D wr:Nat→Nat→Prop) (hl:∀ b,D 0 b∨wr 0 b→b < n):PhT (fun _=>False) D wr n t:=by
 obtain ⟨B,h⟩:=h
 refine ⟨h.clean,fun g hg i a ha hm=>?_,fun i a ha hm=>?_,fun g hg=>?_,⟨B,h.seen⟩,fun g k b hg hk hgk _=>?_,fun g b hg hb=>?_⟩
 ·rcases hg with rfl | hg
  ·exact (h.known i a ha hm).imp id fun x=>x.1.elim
  ·exact hg.elim
 ·exact (h.known i a ha hm).imp id fun x=>x.1.elim
 ·rcases hg with rfl | hg
  ·exact h.hears
  ·exact hg.elim
 ·rcases hg with rfl | hg
  ·rcases hk with rfl | hk
   ·exact (hgk rfl).elim
   ·exact hk.elim
  ·exact hg.elim
 ·rcases hg with rfl | hg
  ·exact hl b hb
  ·exact hg.elim
theorem PhT.toPast (h:PhT A D wr n t) (hA:∀ g,¬ A g):Past' t:=by
 obtain ⟨B,hB⟩:=h.seen
 have hk:∀ i a,touchAt t i=some a→a.loc.isMemory=true→Knows t 0 i:=fun i a ha hm=>(h.main i a ha hm).elim id fun ⟨g,hg,_⟩=>(hA g hg).elim
 refine ⟨B,h.clean,fun i a ha hm=>.inl (hk i a ha hm),fun i g hg hne ⟨x,hx,hm,_⟩=>?_,h.hears 0 (.inl rfl),hB⟩
 obtain ⟨q,z,hq,hz,hb⟩:=hk i x hx hm
 rcases hb with rfl | hb
 ·rw [g?_of hq,hz] at hg
  exact absurd (Option.some.inj hg).symm hne
 ·exact ⟨q,by rw [g?_of hq,hz],hb⟩
theorem PhT.hire (h:PhT A D wr n t) {c:Nat} (hc:c≠0∧¬ A c) (hd:Deaf t c=0) (Dc:Nat→Prop) (D0 wr0:Nat→Prop) (hDc:∀ b,Dc b→D 0 b∨wr 0 b) (h0:∀ b,D0 b∨wr0 b→D 0 b∨wr 0 b) (hw0:∀ b,wr0 b→wr 0 b∧¬ Dc b)
  (fh:FuncId) (ph:String) (fc:FuncId) :
  PhT (fun g=>A g∨g=c) (upd (upd D c Dc) 0 D0) (upd (upd wr c fun _=>False) 0 wr0) n (t ++ #[{ g:=0,fn:=fh,pos:=ph,act:=.go c },{ g:=c,fn:=fc,pos:=ph,act:=.start }]):=by
 obtain ⟨hc0,hcA⟩:=hc
 generalize hu:(#[{ g:=0,fn:=fh,pos:=ph,act:=.go c },{ g:=c,fn:=fc,pos:=ph,act:=.start }]:Trace)=u
 have hn:∀ op∈u,op.act.touch? = none:=by
  intro op hop
  subst hu
  simp only [List.mem_toArray,List.mem_cons,List.not_mem_nil,or_false] at hop
  rcases hop with rfl | rfl <;> rfl
 have hq:∀ g,∀ op∈u,∀ d,deafStep g d op=d:=by
  intro g op hop d
  subst hu
  simp only [List.mem_toArray,List.mem_cons,List.not_mem_nil,or_false] at hop
  rcases hop with rfl | rfl <;> rfl
 have e0:(t ++ u)[t.size]? = some { g:=0,fn:=fh,pos:=ph,act:=.go c }:=by subst hu;simp
 have e1:(t ++ u)[t.size+1]? = some { g:=c,fn:=fc,pos:=ph,act:=.start }:=by subst hu;simp
 have edge:HappensBefore (t ++ u) t.size (t.size+1) :=
  Relation.TransGen.single (.inr ⟨.spawn (act?_of e0) (act?_of e1) (g?_of e1),⟨0,g?_of e0,by rw [deaf_old (Nat.le_refl _)];exact h.hears 0 (.inl rfl)⟩,⟨c,g?_of e1,by rw [deaf_quiet (hq c) 1 (by subst hu;simp)];exact hd⟩⟩)
 have hkc:∀ i,Knows t 0 i→Knows (t ++ u) c i:=fun i hk=>⟨t.size+1,_,e1,rfl,.inr ((hk.hb_new (Nat.le_refl _) e0 rfl).trans edge)⟩
 have eD0:∀ g,g≠0→g≠c→upd (upd D c Dc) 0 D0 g=D g:=fun g h1 h2=>by rw [upd_ne _ _ h1,upd_ne _ _ h2]
 have ew0:∀ g,g≠0→g≠c→upd (upd wr c fun _=>False) 0 wr0 g=wr g:=fun g h1 h2=>by rw [upd_ne _ _ h1,upd_ne _ _ h2]
 have eDc:upd (upd D c Dc) 0 D0 c=Dc:=by rw [upd_ne _ _ hc0,upd_same]
 have ewc:upd (upd wr c fun _=>False) 0 wr0 c=fun _=>False:=by rw [upd_ne _ _ hc0,upd_same]
 have eD00:upd (upd D c Dc) 0 D0 0=D0:=upd_same _ _ _
 have ew00:upd (upd wr c fun _=>False) 0 wr0 0=wr0:=upd_same _ _ _
 refine ⟨fun said=>noRace_appendMute (h.clean said) hn,fun g hg i a ha hm=>?_,fun i a ha hm=>?_,fun g hg=>?_,?_,fun g k b hg hk hgk hb=>?_,fun g b hg hb=>?_⟩
 ·obtain ⟨x,hx,hxa⟩:=touch_of ha
  rcases getElem?_append_cases hx with ⟨_,hx'⟩ | ⟨_,hxu⟩
  ·have ha':touchAt t i=some a:=by rw [touchAt_of hx'];exact hxa
   have h00:=h.unk 0 (.inl rfl) i a ha' hm
   by_cases e:g=c
   ·subst e
    rcases h00 with hk | ⟨b,h1,h2,h3,h4⟩
    ·exact .inl (hkc i hk)
    ·refine .inr ⟨b,h1,h2,by rw [ewc];exact id,fun hb=>?_⟩
     rw [eDc] at hb
     rcases hDc b hb with h5 | h5
     ·exact h4 h5
     ·exact (h3 h5).elim
   ·by_cases e':g=0
    ·subst e'
     rcases h00 with hk | ⟨b,h1,h2,h3,h4⟩
     ·exact .inl (hk.app _)
     ·refine .inr ⟨b,h1,h2,?_,fun hb=>?_⟩
      ·rw [ew00];exact fun hb=>h3 (hw0 b hb).1
      ·rw [eD00] at hb
       rcases h0 b (.inl hb) with h5 | h5
       ·exact h4 h5
       ·exact (h3 h5).elim
    ·rw [eD0 g e' e,ew0 g e' e]
     have hA:A g:=hg.elim (fun h=>(e' h).elim) fun h=>h.elim id fun h=>(e h).elim
     exact (h.unk g (.inr hA) i a ha' hm).imp (·.app _) id
  ·rw [hn x hxu] at hxa;cases hxa
 ·obtain ⟨x,hx,hxa⟩:=touch_of ha
  rcases getElem?_append_cases hx with ⟨hi,hx'⟩ | ⟨_,hxu⟩
  ·exact (h.main i a (by rw [touchAt_of hx'];exact hxa) hm).imp (·.app _) fun ⟨g',h1,h2⟩=>⟨g',.inl h1,by rw [g?_old hi];exact h2⟩
  ·rw [hn x hxu] at hxa;cases hxa
 ·rw [Deaf_quiet (hq g)]
  rcases hg with h1 | h1 | h1
  ·exact h.hears g (.inl h1)
  ·exact h.hears g (.inr h1)
  ·rw [h1];exact hd
 ·obtain ⟨B,hB⟩:=h.seen
  refine ⟨B,seen_app hB fun op hop=>?_⟩
  subst hu
  simp only [List.mem_toArray,List.mem_cons,List.not_mem_nil,or_false] at hop
  rcases hop with rfl | rfl <;> trivial
 ·have hgc:g≠c:=by
   rintro rfl
   rw [ewc] at hb
   exact hb
  have h1:wr g b∧(g=0→¬ Dc b):=by
   by_cases e:g=0
   ·subst e;rw [ew00] at hb;exact ⟨(hw0 b hb).1,fun _=>(hw0 b hb).2⟩
   ·rw [ew0 g e hgc] at hb;exact ⟨hb,fun h=>(e h).elim⟩
  have hg':g=0∨A g:=hg.elim .inl fun h=>h.elim .inr fun h=>(hgc h).elim
  by_cases e:k=c
  ·subst e
   rw [eDc,ewc]
   refine ⟨fun hx=>?_,id⟩
   by_cases e':g=0
   ·exact h1.2 e' hx
   ·have:=h.sep g 0 b hg' (.inl rfl) e' h1.1
    exact (hDc b hx).elim this.1 this.2
  ·have hk':k=0∨A k:=hk.elim .inl fun h=>h.elim .inr fun h=>(e h).elim
   have hs:=h.sep g k b hg' hk' hgk h1.1
   by_cases e':k=0
   ·subst e'
    rw [eD00,ew00]
    exact ⟨fun hx=>(h0 b (.inl hx)).elim hs.1 hs.2,fun hx=>hs.2 (hw0 b hx).1⟩
   ·rw [eD0 k e' e,ew0 k e' e];exact hs
 ·by_cases e:g=c
  ·subst e
   rw [eDc,ewc] at hb
   exact h.low 0 b (.inl rfl) (hDc b (hb.elim id fun x=>x.elim))
  ·by_cases e':g=0
   ·subst e'
    rw [eD00,ew00] at hb
    exact h.low 0 b (.inl rfl) (h0 b hb)
   ·rw [eD0 g e' e,ew0 g e' e] at hb
    exact h.low g b (hg.elim .inl fun h=>h.elim .inr fun h=>(e h).elim) hb
theorem PhT.meet (h:PhT A D wr n t) {j:Nat} (hj:A j) (hj0:j≠0) (fj:FuncId) (pj:String) (f0:FuncId) (p0:String) (c k cap:Nat) :
  PhT (fun g=>A g∧g≠j) D wr n (t ++ met j 0 fj pj f0 p0 c k cap):=by
 have hn:=met_mute j 0 fj pj f0 p0 c k cap
 have hq:=met_quiet j 0 fj pj f0 p0 c k cap
 have e0:(t ++ met j 0 fj pj f0 p0 c k cap)[t.size]? = some { g:=j,fn:=fj,pos:=pj,act:=.send c k }:=by simp [met]
 have e3:(t ++ met j 0 fj pj f0 p0 c k cap)[t.size+3]? = some { g:=0,fn:=f0,pos:=p0,act:=.recvDone c k }:=by simp [met]
 have edge:HappensBefore (t ++ met j 0 fj pj f0 p0 c k cap) t.size (t.size+3) :=
  Relation.TransGen.single (.inr ⟨.handOver (act?_of e0) (act?_of e3),⟨j,g?_of e0,by rw [deaf_old (Nat.le_refl _)];exact h.hears j (.inr hj)⟩,⟨0,g?_of e3,by rw [deaf_quiet (hq 0) 3 (by simp [met])];exact h.hears 0 (.inl rfl)⟩⟩)
 have hk0:∀ i,Knows t j i→Knows (t ++ met j 0 fj pj f0 p0 c k cap) 0 i:=fun i hk=>⟨t.size+3,_,e3,rfl,.inr ((hk.hb_new (Nat.le_refl _) e0 rfl).trans edge)⟩
 refine ⟨fun said=>noRace_appendMute (h.clean said) hn,fun g hg i a ha hm=>?_,fun i a ha hm=>?_,fun g hg=>?_,?_,fun g l b hg hl=>h.sep g l b (hg.imp id (·.1)) (hl.imp id (·.1)),fun g b hg=>h.low g b (hg.imp id (·.1))⟩
 ·obtain ⟨x,hx,hxa⟩:=touch_of ha
  rcases getElem?_append_cases hx with ⟨_,hx'⟩ | ⟨_,hxu⟩
  ·exact (h.unk g (hg.imp id (·.1)) i a (by rw [touchAt_of hx'];exact hxa) hm).imp (·.app _) id
  ·rw [hn x hxu] at hxa;cases hxa
 ·obtain ⟨x,hx,hxa⟩:=touch_of ha
  rcases getElem?_append_cases hx with ⟨hi,hx'⟩ | ⟨_,hxu⟩
  ·rcases h.main i a (by rw [touchAt_of hx'];exact hxa) hm with hk | ⟨g',h1,h2⟩
   ·exact .inl (hk.app _)
   ·by_cases e:g'=j
    ·subst e
     have:=knows_own hx'
     rw [show x.g=g' from by have:=g?_of hx';rw [h2] at this;exact (Option.some.inj this).symm] at this
     exact .inl (hk0 i this)
    ·exact .inr ⟨g',⟨h1,e⟩,by rw [g?_old hi];exact h2⟩
  ·rw [hn x hxu] at hxa;cases hxa
 ·rw [Deaf_quiet (hq g)]
  exact h.hears g (hg.imp id (·.1))
 ·obtain ⟨B,hB⟩:=h.seen
  refine ⟨B+(c+1),seen_app (fun op hop=>MemAct.low_mono (by omega) (hB op hop)) fun op hop=>?_⟩
  simp only [met,List.mem_toArray,List.mem_cons,List.not_mem_nil,or_false] at hop
  rcases hop with rfl | rfl | rfl | rfl <;> (show c < _;omega)
end
end Go.Ph
namespace Go.Ph
open Go
open Go.Tm
open Go.Sr
open Go.Conc
open Go.ConcN (upd upd_same upd_ne)
inductive WK where
 | leave (q:Nat)
 | work (τ:Tr)
 | sit
def WK.busy:WK→Bool
 | .leave _=>false
 | _=>true
inductive WKlt:WK→WK→Prop
 | leave (q:Nat):WKlt (.leave q) (.leave (q+1))
 | node (f:World→Tr) (w:World):WKlt (.work (f w)) (.work (.node f))
 | sit (τ:Tr):WKlt .sit (.work τ)
theorem wklt_wf:WellFounded WKlt:=by
 have hs:Acc WKlt .sit:=⟨_,fun y h=>by cases h⟩
 refine ⟨fun x=>?_⟩
 cases x with
 | sit=>exact hs
 | leave q =>
  induction q with
  | zero=>exact ⟨_,fun y h=>by cases h⟩
  | succ q ih=>exact ⟨_,fun y h=>by cases h;exact ih⟩
 | work τ =>
  induction τ with
  | leaf=>exact ⟨_,fun y h=>by cases h;exact hs⟩
  | node f ih=>exact ⟨_,fun y h=>by cases h with | node f w=>exact ih w | sit=>exact hs⟩
def Dec (n:Nat) (K' K:Nat→WK):Prop:=∃ i x,i < n∧K'=upd K i x∧WKlt x (K i)
theorem dec_wf:∀ n,WellFounded (Dec n)
 | 0=>⟨fun _=>⟨_,fun _ h=>by obtain ⟨i,_,h,_⟩:=h;omega⟩⟩
 | n+1=>by
  have ih:=dec_wf n
  have key:∀ (x:WK) (K:Nat→WK),Acc WKlt x→Acc (Dec n) K→K n=x→Acc (Dec (n+1)) K:=by
   intro x K hx
   induction hx generalizing K with
   | intro x _ ihx =>
    intro hK
    induction hK with
    | intro K _ ihK =>
     intro he
     refine ⟨_,fun K' ⟨i,y,hi,hk,hlt⟩=>?_⟩
     by_cases hin:i=n
     ·subst hin
      subst hk
      exact ihx y (he ▸ hlt) _ (ih.apply _) (upd_same _ _ _)
     ·exact ihK K' ⟨i,y,by omega,hk,hlt⟩ (by rw [hk,upd_ne _ _ (Ne.symm hin)];exact he)
  exact ⟨fun K=>key _ K (wklt_wf.apply _) (ih.apply _) rfl⟩
structure Sit where
 K:Nat→WK
 D:Nat→Nat→Prop
 wr:Nat→Nat→Prop
 val:Nat→Value
def Sit.act (s:Sit) (n g:Nat):Prop:=0 < g∧g < n∧(s.K g).busy=true
def AtSend (P:Program) (c:Nat) (v:Value) (D:Nat→Prop):StopW:=fun wr fr mine w =>
 ∃ g₂ z es,stepG P false (G fr mine) w=.comm g₂ #[scase c v z] true .send w es∧(∀ e∈es,EvOk D wr e)∧∃ q,QuitsD P q 0 (Conc.served g₂ undef)
def WkOk (P:Program) (c:Nat) (s:Sit) (i:Nat) (g:Goroutine) (w:World) (t:Trace):Prop :=
 match s.K i with
 | .leave q=>QuitsD P q (Deaf t i) g
 | .work τ=>∃ fr mine,g=G fr mine∧WTr P c (s.D i) (AtSend P c (s.val i) (s.D i)) τ (s.wr i) fr mine w
 | .sit=>∃ g₂ z,g=parked g₂ #[scase c (s.val i) z] .send∧∃ q,QuitsD P q 0 (Conc.served g₂ undef)
structure PhC (P:Program) (c:Nat) (s:Sit) (gs:Array Goroutine) (a:Goroutine) (w:World) (t:Trace):Prop where
 zero:gs[0]? = some a
 old:∀ i g,0 < i→gs[i]? = some g→WkOk P c s i g w t
 above:∀ j,gs.size≤j→Deaf t j=0
 chan:∃ k,w.heap[c]? = some (.chan 0 #[] false k k false)
 nochan:∀ g,(g=0∨s.act gs.size g)→¬ s.wr g c
 heap:HeapOk OC w
 tr:PhT (s.act gs.size) s.D s.wr w.heap.size t
def Main (c:Nat) (a:Goroutine):Prop:=a.status=.running∨∃ a₂ z,a=parked a₂ #[rcase c z] (.recv false)
section
variable {P:Program} {c:Nat} {s:Sit} {gs:Array Goroutine} {a:Goroutine} {w w':World} {t:Trace}
theorem main_woken (ha:Main c a) {g g':Goroutine} (hk:∃ k,w.heap[c]? = some (.chan 0 #[] false k k false)):woken P g g' w a=a:=by
 rcases ha with h | ⟨a₂,z,rfl⟩
 ·exact woken_run h
 ·obtain ⟨k,hk⟩:=hk
  exact woken_recv_open _ _ hk
theorem wkOk_woken {i:Nat} {x g g':Goroutine} (h:WkOk P c s i x w t) (hk:∃ k,w'.heap[c]? = some (.chan 0 #[] false k k false)):woken P g g' w' x=x:=by
 unfold WkOk at h
 cases hK:s.K i with
 | leave q=>rw [hK] at h;exact woken_quitsD h
 | work τ =>
  rw [hK] at h
  obtain ⟨fr,mine,rfl,_⟩:=h
  exact woken_run rfl
 | sit =>
  rw [hK] at h
  obtain ⟨g₂,z,rfl,_⟩:=h
  obtain ⟨k,hk⟩:=hk
  exact woken_send_open _ _ hk
theorem WkOk.keep {s':Sit} {i:Nat} {x:Goroutine} {t':Trace} (h:WkOk P c s i x w t) (hK:s'.K i=s.K i) (hD:s'.D i=s.D i) (hwr:s'.wr i=s.wr i) (hv:s'.val i=s.val i) (hd:Deaf t' i=Deaf t i)
  (hr:(s.K i).busy=true→RelyW c (orS (s.D i) (s.wr i)) w w'):WkOk P c s' i x w' t':=by
 unfold WkOk at h ⊢
 rw [hK]
 cases hk:s.K i with
 | leave q =>
  rw [hk] at h
  show QuitsD P q (Deaf t' i) x
  rw [hd];exact h
 | work τ =>
  rw [hk] at h
  obtain ⟨fr,mine,h1,h2⟩:=h
  refine ⟨fr,mine,h1,?_⟩
  rw [hD,hwr,hv]
  exact h2.rely (hr (by rw [hk];rfl))
 | sit =>
  rw [hk] at h
  show ∃ g₂ z,x=parked g₂ #[scase c (s'.val i) z] .send∧_
  rw [hv];exact h
theorem PhC.at (h:PhC P c s gs a w t) (d:Nat):PhC P c s gs a (w.at d) t :=
 ⟨h.zero,fun i g hi hg=>(h.old i g hi hg).keep rfl rfl rfl rfl rfl fun _=>.at _ w d,h.above,h.chan,h.nochan,h.heap,h.tr⟩
theorem PhC.lt (h:PhC P c s gs a w t):0 < gs.size:=(Array.getElem?_eq_some_iff.1 h.zero).1
theorem PhC.relied (h:PhC P c s gs a w t) {i j:Nat} (hi:i=0∨s.act gs.size i) (hj:j=0∨s.act gs.size j) (hij:i≠j) (hg:GuarW (s.wr i) w w'):RelyW c (orS (s.D j) (s.wr j)) w w':=by
 refine ⟨hg.size,fun b hb=>.inl (hg.keep b (h.tr.low j b hj hb) fun hw=>?_),hg.tape,hg.os,hg.output⟩
 have:=h.tr.sep i j b hi hj hij hw
 exact hb.elim this.1 this.2
theorem PhC.chan_keep (h:PhC P c s gs a w t) {i:Nat} (hi:i=0∨s.act gs.size i) (hg:GuarW (s.wr i) w w'):∃ k,w'.heap[c]? = some (.chan 0 #[] false k k false):=by
 obtain ⟨k,hk⟩:=h.chan
 exact ⟨k,(hg.keep c (Array.getElem?_eq_some_iff.1 hk).1 (h.nochan i hi)).trans hk⟩
theorem get_step {i j:Nat} {g':Goroutine} (f:Goroutine→Goroutine) (hij:i≠j) {x:Goroutine} (h:((gs.map f).setIfInBounds i g')[j]? = some x):∃ y,gs[j]? = some y∧x=f y:=by
 rw [Array.getElem?_setIfInBounds_ne hij,Array.getElem?_map] at h
 obtain ⟨y,h1,h2⟩:=Option.map_eq_some_iff.1 h
 exact ⟨y,h1,h2.symm⟩
theorem PhC.step (h:PhC P c s gs a w t) {i:Nat} (hi:i=0∨s.act gs.size i) {g g':Goroutine} {es:Array Event} {wr':Nat→Prop} {x:WK} (hgi:gs[i]? = some g) (hx:i≠0→x.busy=true)
  (hev:∀ e∈es,EvOk (s.D i) wr' e) (hg:GuarW (s.wr i) w w') (hgr:GrowW (s.wr i) wr' w w') (hm:i≠0→Main c a) (fn:FuncId) (pos:String)
  (hok:i≠0→WkOk P c { s with K:=upd s.K i x,wr:=upd s.wr i wr' } i g' w' (t ++ MemOp.ofEvents i fn pos es)) :
  PhC P c { s with K:=if i=0 then s.K else upd s.K i x,wr:=upd s.wr i wr' } ((gs.map (woken P g g' w')).setIfInBounds i g') (if i=0 then g' else a) w' (t ++ MemOp.ofEvents i fn pos es):=by
 have hlt:i < gs.size:=(Array.getElem?_eq_some_iff.1 hgi).1
 have hu:∀ op∈MemOp.ofEvents i fn pos es,op.g=i:=fun op hop=>by obtain ⟨e,_,rfl⟩:=Go.Conc.mem_ofEvents hop;rfl
 have hch:=h.chan_keep hi hg
 have hsz:((gs.map (woken P g g' w')).setIfInBounds i g').size=gs.size:=by simp
 have hbusy:∀ j,((if i=0 then s.K else upd s.K i x) j).busy=(s.K j).busy∨(i=j∧i=0):=by
  intro j
  by_cases h0:i=0
  ·rw [if_pos h0];exact .inl rfl
  ·rw [if_neg h0]
   by_cases e:j=i
   ·subst e
    rw [upd_same,hx h0]
    rcases hi with hi | hi
    ·exact (h0 hi).elim
    ·exact .inl hi.2.2.symm
   ·rw [upd_ne _ _ e];exact .inl rfl
 have hact:∀ j,Sit.act { s with K:=if i=0 then s.K else upd s.K i x,wr:=upd s.wr i wr' } gs.size j↔s.act gs.size j:=by
  intro j
  unfold Sit.act
  dsimp only
  constructor
  ·rintro ⟨h1,h2,h3⟩
   rcases hbusy j with h4 | ⟨h4,h5⟩
   ·exact ⟨h1,h2,h4 ▸ h3⟩
   ·omega
  ·rintro ⟨h1,h2,h3⟩
   rcases hbusy j with h4 | ⟨h4,h5⟩
   ·exact ⟨h1,h2,h4.trans h3⟩
   ·omega
 refine ⟨?_,fun j y hj hy=>?_,fun j hj=>?_,hch,fun j hj=>?_,hg.okh _ h.heap,?_⟩
 ·by_cases h0:i=0
  ·subst h0
   simp [hlt]
  ·rw [if_neg h0,Array.getElem?_setIfInBounds_ne h0,Array.getElem?_map,h.zero]
   exact congrArg some (main_woken (hm h0) hch)
 ·by_cases e:i=j
  ·subst e
   have h0:i≠0:=by omega
   rw [Array.getElem?_setIfInBounds_self_of_lt (by simpa using hlt)] at hy
   cases hy
   have:=hok h0
   rw [if_neg h0];exact this
  ·obtain ⟨z,hz,rfl⟩:=get_step _ e hy
   have hz':=h.old j z hj hz
   rw [wkOk_woken hz' hch]
   refine hz'.keep ?_ rfl (upd_ne _ _ (Ne.symm e)) rfl (Deaf_other t e _ hu) fun hb=>h.relied hi (.inr ⟨hj,(Array.getElem?_eq_some_iff.1 hz).1,hb⟩) e hg
   dsimp only
   by_cases h0:i=0
   ·rw [if_pos h0]
   ·rw [if_neg h0,upd_ne _ _ (Ne.symm e)]
 ·rw [hsz] at hj
  rw [Deaf_other t (by omega) _ hu]
  exact h.above j hj
 ·rw [hsz] at hj
  dsimp only
  rw [hact] at hj
  by_cases e:j=i
  ·subst e
   rw [upd_same]
   intro hb
   rcases hgr.fresh c hb with h1 | ⟨h1,_⟩
   ·exact h.nochan j hj h1
   ·obtain ⟨k,hk⟩:=h.chan
    have:=(Array.getElem?_eq_some_iff.1 hk).1
    omega
  ·rw [upd_ne _ _ e];exact h.nochan j hj
 ·rw [hsz]
  have:=h.tr.own hi hev hgr.le hgr.fresh hg.size fn pos
  have e:s.act gs.size=Sit.act { s with K:=if i=0 then s.K else upd s.K i x,wr:=upd s.wr i wr' } gs.size:=by funext j;exact (propext (hact j)).symm
  rw [← e]
  exact this
theorem PhC.slip (h:PhC P c s gs a w t) {i q:Nat} (hi:0 < i) {g g':Goroutine} {es:Array Event} (hgi:gs[i]? = some g) (hK:s.K i=.leave (q+1)) (hm:∀ e∈es,e.mute=true) (ha:Main c a) (fn:FuncId) (pos:String)
  (hq:QuitsD P q (deafBehind (Deaf t i) es) g') :
  PhC P c { s with K:=upd s.K i (.leave q) } ((gs.map (woken P g g' w)).setIfInBounds i g') a w (t ++ MemOp.ofEvents i fn pos es):=by
 have hlt:i < gs.size:=(Array.getElem?_eq_some_iff.1 hgi).1
 have hu:∀ op∈MemOp.ofEvents i fn pos es,op.g=i:=fun op hop=>by obtain ⟨e,_,rfl⟩:=Go.Conc.mem_ofEvents hop;rfl
 have hsz:((gs.map (woken P g g' w)).setIfInBounds i g').size=gs.size:=by simp
 have hact:∀ j,Sit.act { s with K:=upd s.K i (.leave q) } gs.size j↔s.act gs.size j:=by
  intro j
  unfold Sit.act
  dsimp only
  by_cases e:j=i
  ·subst e;rw [upd_same,hK];exact Iff.rfl
  ·rw [upd_ne _ _ e]
 refine ⟨?_,fun j y hj hy=>?_,fun j hj=>?_,h.chan,fun j hj=>?_,h.heap,?_⟩
 ·have h0:i≠0:=by omega
  rw [Array.getElem?_setIfInBounds_ne h0,Array.getElem?_map,h.zero]
  exact congrArg some (main_woken ha h.chan)
 ·by_cases e:i=j
  ·subst e
   rw [Array.getElem?_setIfInBounds_self_of_lt (by simpa using hlt)] at hy
   cases hy
   unfold WkOk
   simp only [upd_same]
   rw [Deaf_own];exact hq
  ·obtain ⟨z,hz,rfl⟩:=get_step _ e hy
   have hz':=h.old j z hj hz
   rw [wkOk_woken hz' h.chan]
   exact hz'.keep (upd_ne _ _ (Ne.symm e)) rfl rfl rfl (Deaf_other t e _ hu) fun _=>.refl _ w
 ·rw [hsz] at hj
  rw [Deaf_other t (by omega) _ hu]
  exact h.above j hj
 ·rw [hsz] at hj
  rw [hact] at hj
  exact h.nochan j hj
 ·rw [hsz]
  have e:s.act gs.size=Sit.act { s with K:=upd s.K i (.leave q) } gs.size:=by funext j;exact (propext (hact j)).symm
  rw [← e]
  refine h.tr.muteEvents ⟨by omega,fun hA=>?_⟩ hm fn pos
  have:=hA.2.2
  rw [hK] at this
  cases this
theorem PhC.sitDown (h:PhC P c s gs a w t) {i:Nat} (hi:s.act gs.size i) {g g₂:Goroutine} {z:Value} {es:Array Event} (hgi:gs[i]? = some g) (hev:∀ e∈es,EvOk (s.D i) (s.wr i) e) (hq:∃ q,QuitsD P q 0 (Conc.served g₂ undef)) (fn:FuncId) (pos:String) :
  PhC P c { s with K:=upd s.K i .sit } (gs.setIfInBounds i (parked g₂ #[scase c (s.val i) z] .send)) a w (t ++ MemOp.ofEvents i fn pos es):=by
 have hlt:i < gs.size:=(Array.getElem?_eq_some_iff.1 hgi).1
 have hu:∀ op∈MemOp.ofEvents i fn pos es,op.g=i:=fun op hop=>by obtain ⟨e,_,rfl⟩:=Go.Conc.mem_ofEvents hop;rfl
 have hsz:(gs.setIfInBounds i (parked g₂ #[scase c (s.val i) z] .send)).size=gs.size:=by simp
 have h0:i≠0:=by have:=hi.1;omega
 have hact:∀ j,Sit.act { s with K:=upd s.K i .sit } gs.size j↔s.act gs.size j:=by
  intro j
  unfold Sit.act
  dsimp only
  by_cases e:j=i
  ·subst e;rw [upd_same,hi.2.2];exact Iff.rfl
  ·rw [upd_ne _ _ e]
 have hown:=h.tr.own (.inr hi) hev (fun _ h=>h) (fun _ h=>.inl h) (Nat.le_refl _) fn pos
 have hwr:upd s.wr i (s.wr i)=s.wr:=by
  funext j
  by_cases e:j=i
  ·subst e;rw [upd_same]
  ·rw [upd_ne _ _ e]
 rw [hwr] at hown
 refine ⟨?_,fun j y hj hy=>?_,fun j hj=>?_,h.chan,fun j hj=>?_,h.heap,?_⟩
 ·rw [Array.getElem?_setIfInBounds_ne h0];exact h.zero
 ·by_cases e:i=j
  ·subst e
   rw [Array.getElem?_setIfInBounds_self_of_lt hlt] at hy
   cases hy
   unfold WkOk
   simp only [upd_same]
   exact ⟨g₂,z,rfl,hq⟩
  ·rw [Array.getElem?_setIfInBounds_ne e] at hy
   exact (h.old j y hj hy).keep (upd_ne _ _ (Ne.symm e)) rfl rfl rfl (Deaf_other t e _ hu) fun _=>.refl _ w
 ·rw [hsz] at hj
  rw [Deaf_other t (by omega) _ hu]
  exact h.above j hj
 ·rw [hsz] at hj
  rw [hact] at hj
  exact h.nochan j hj
 ·rw [hsz]
  have e:s.act gs.size=Sit.act { s with K:=upd s.K i .sit } gs.size:=by funext j;exact (propext (hact j)).symm
  rw [← e]
  exact hown
theorem PhC.met (h:PhC P c s gs a w t) {j:Nat} (hj:s.act gs.size j) {a' g':Goroutine} {q k cap:Nat} (hq:QuitsD P q 0 g') (fj:FuncId) (pj:String) (f0:FuncId) (p0:String) (k':Nat) (gs':Array Goroutine) (hsz:gs'.size=gs.size)
  (h0:gs'[0]? = some a') (hgj:gs'[j]? = some g') (hoth:∀ i,i≠0→i≠j→gs'[i]? = gs[i]?) (d:Nat) (w':World) (hw':w'=(w.at d).setChan c 0 #[] false k' k' false) :
  PhC P c { s with K:=upd s.K j (.leave q) } gs' a' w' (t ++ Conc.met j 0 fj pj f0 p0 c k cap):=by
 have hj0:j≠0:=by have:=hj.1;omega
 have hdeaf:∀ g,Deaf (t ++ Conc.met j 0 fj pj f0 p0 c k cap) g=Deaf t g:=fun g=>Deaf_quiet (met_quiet j 0 fj pj f0 p0 c k cap g)
 have hact:∀ i,Sit.act { s with K:=upd s.K j (.leave q) } gs.size i↔(s.act gs.size i∧i≠j):=by
  intro i
  unfold Sit.act
  dsimp only
  by_cases e:i=j
  ·subst e;rw [upd_same];simp [WK.busy]
  ·rw [upd_ne _ _ e];simp [e]
 obtain ⟨k0,hk0⟩:=h.chan
 have hclt:=(Array.getElem?_eq_some_iff.1 hk0).1
 have hsame:∀ b,b≠c→w'.heap[b]? = w.heap[b]?:=by
  intro b hb
  subst hw'
  show (w.heap.setIfInBounds c _)[b]? = _
  rw [Array.getElem?_setIfInBounds_ne (Ne.symm hb)]
 have hcc:w'.heap[c]? = some (.chan 0 #[] false k' k' false):=by
  subst hw'
  show (w.heap.setIfInBounds c _)[c]? = _
  rw [Array.getElem?_setIfInBounds_self_of_lt hclt]
 have hsize:w'.heap.size=w.heap.size:=by
  subst hw'
  show (w.heap.setIfInBounds c _).size=_
  simp
 have hrel:∀ rd,RelyW c rd w w':=fun rd=>⟨by omega,fun b _=>by
  by_cases e:b=c
  ·subst e;exact .inr ⟨rfl,_,_,hk0,hcc,rfl,rfl⟩
  ·exact .inl (hsame b e),by subst hw';rfl,by subst hw';rfl,by subst hw';rfl⟩
 refine ⟨h0,fun i y hi hy=>?_,fun i hi=>?_,⟨k',hcc⟩,fun i hi=>?_,?_,?_⟩
 ·by_cases e:i=j
  ·subst e
   rw [hgj] at hy
   cases hy
   unfold WkOk
   simp only [upd_same]
   rw [hdeaf,h.tr.hears i (.inr hj)]
   exact hq
  ·rw [hoth i (by omega) e] at hy
   exact (h.old i y hi hy).keep (upd_ne _ _ e) rfl rfl rfl (hdeaf i) fun _=>hrel _
 ·rw [hdeaf];exact h.above i (by rw [hsz] at hi;exact hi)
 ·rw [hsz] at hi
  rw [hact] at hi
  exact h.nochan i (hi.imp id (·.1))
 ·intro i o ho
  by_cases e:i=c
  ·subst e
   rw [hcc] at ho
   cases ho
   exact ⟨rfl,rfl,rfl⟩
  ·rw [hsame i e] at ho
   exact h.heap i o ho
 ·rw [hsz,hsize]
  have e:(fun g=>s.act gs.size g∧g≠j)=Sit.act { s with K:=upd s.K j (.leave q) } gs.size:=by funext i;exact (propext (hact i)).symm
  rw [← e]
  exact h.tr.meet hj hj0 fj pj f0 p0 c k cap
end
end Go.Ph
namespace Go.Ph
open Go
open Go.Tm
open Go.Sr
open Go.Conc
open Go.ConcN (upd upd_same upd_ne)
structure Like (s s':Sit):Prop where
 D:s'.D=s.D
 val:s'.val=s.val
 wr0:s'.wr 0=s.wr 0
 busy:∀ j,(s'.K j).busy=(s.K j).busy
theorem Like.refl (s:Sit):Like s s:=⟨rfl,rfl,rfl,fun _=>rfl⟩
theorem Like.trans {s s' s'':Sit} (h:Like s s') (h':Like s' s''):Like s s'':=⟨h'.D.trans h.D,h'.val.trans h.val,h'.wr0.trans h.wr0,fun j=>(h'.busy j).trans (h.busy j)⟩
def pendL (s:Sit) (n:Nat):List Value:=((List.range n).filter fun i=>decide (0 < i) && (s.K i).busy).map s.val
theorem Like.pend {s s':Sit} (h:Like s s') (n:Nat):pendL s' n=pendL s n:=by
 unfold pendL
 rw [h.val]
 congr 1
 apply List.filter_congr
 intro i _
 rw [h.busy i]
theorem pend_succ (s:Sit) (n:Nat):pendL s (n+1)=pendL s n ++ (if 0 < n∧(s.K n).busy=true then [s.val n] else []):=by
 unfold pendL
 rw [List.range_succ,List.filter_append,List.map_append]
 congr 1
 by_cases h:0 < n∧(s.K n).busy=true
 ·simp [h]
 ·rw [if_neg h]
  have:(decide (0 < n) && (s.K n).busy)=false:=by
   cases hb:(decide (0 < n) && (s.K n).busy) with
   | false=>rfl
   | true=>simp only [Bool.and_eq_true,decide_eq_true_eq] at hb;exact (h hb).elim
  simp [this]
theorem pend_congr {s s':Sit} {n:Nat} (h:∀ i,i < n→(s'.K i).busy=(s.K i).busy∧s'.val i=s.val i):pendL s' n=pendL s n:=by
 induction n with
 | zero=>rfl
 | succ n ih =>
  rw [pend_succ,pend_succ,ih fun i hi=>h i (by omega),(h n (by omega)).1,(h n (by omega)).2]
theorem pend_meet {s:Sit} {i q:Nat}:∀ {n:Nat},s.act n i→(pendL s n).Perm (s.val i :: pendL { s with K:=upd s.K i (.leave q) } n)
 | 0,h=>by have:=h.2.1;omega
 | n+1,h=>by
  rw [pend_succ,pend_succ]
  by_cases e:i=n
  ·subst e
   rw [if_pos ⟨h.1,h.2.2⟩]
   have h1:pendL { s with K:=upd s.K i (.leave q) } i=pendL s i:=pend_congr fun j hj=>⟨by show (upd s.K i _ j).busy=_;rw [upd_ne _ _ (by omega)],rfl⟩
   have h2:¬ (0 < i∧(upd s.K i (WK.leave q) i).busy=true):=by rw [upd_same];simp [WK.busy]
   rw [if_neg h2,h1,List.append_nil]
   exact List.perm_append_singleton _ _
  ·have hlt:i < n:=by have:=h.2.1;omega
   have ih:=pend_meet (q:=q) (n:=n) ⟨h.1,hlt,h.2.2⟩
   have h3:(upd s.K i (WK.leave q) n)=s.K n:=upd_ne _ _ (Ne.symm e)
   simp only [h3]
   exact (ih.append_right _)
section
variable {P:Program} {c:Nat}
def Out (P:Program) (c:Nat) (gs:Array Goroutine) (w:World) (sl:Option (Nat × Nat)) (t:Trace) (Q:Sit→Array Goroutine→Goroutine→World→Prop):Prop :=
 ∃ N s' gs' a' w' sl' t',runNT P N (crowd gs w sl) t=(.next (crowd gs' w' sl'),t')∧PhC P c s' gs' a' w' t'∧Q s' gs' a' w'
theorem Out.step {gs gs':Array Goroutine} {w w':World} {sl sl':Option (Nat × Nat)} {t:Trace} {u:Array MemOp} {Q:Sit→Array Goroutine→Goroutine→World→Prop} (h:stepT P (crowd gs w sl)=(.next (crowd gs' w' sl'),u)) (ho:Out P c gs' w' sl' (t ++ u) Q) :
  Out P c gs w sl t Q:=by
 obtain ⟨N,s1,gs1,a1,w1,sl1,t1,h1,h2,h3⟩:=ho
 refine ⟨N+1,s1,gs1,a1,w1,sl1,t1,?_,h2,h3⟩
 simp only [runNT,h]
 exact h1
theorem no_recv_partner {s:Sit} {gs:Array Goroutine} {a:Goroutine} {w:World} {t:Trace} (h:PhC P c s gs a w t) (ha:a.status=.running) (i:Nat):partners (gs.setIfInBounds i ph) c false=[]:=by
 refine partners_nil fun j g hj=>?_
 rcases getElem?_stand gs i j g hj with ⟨_,rfl⟩ | ⟨_,hg⟩
 ·exact offersAt_ph _ _
 ·rcases Nat.eq_zero_or_pos j with rfl | hpos
  ·rw [h.zero] at hg
   cases hg
   exact offersAt_of_not_blocked (by rw [ha];simp) _ _
  ·have:=h.old j g hpos hg
   unfold WkOk at this
   cases hK:s.K j with
   | leave q =>
    rw [hK] at this
    have hs:=QuitsD.status this
    refine offersAt_of_not_blocked (fun e=>?_) _ _
    rcases hs with hs | hs <;> rw [e] at hs <;> cases hs
   | work τ =>
    rw [hK] at this
    obtain ⟨fr,mine,rfl,_⟩:=this
    exact offersAt_of_not_blocked (by simp [G]) _ _
   | sit =>
    rw [hK] at this
    obtain ⟨g₂,z,rfl,_⟩:=this
    exact offersAt_parked_send' _ _ _ _ _ _
theorem one_recv_partner {s:Sit} {gs:Array Goroutine} {a₂:Goroutine} {z:Value} {w:World} {t:Trace} (h:PhC P c s gs (parked a₂ #[rcase c z] (.recv false)) w t) {i:Nat} (hi:i≠0):partners (gs.setIfInBounds i ph) c false=[(0,0)]:=by
 have h0:(gs.setIfInBounds i ph)[0]? = some (parked a₂ #[rcase c z] (.recv false)):=by rw [Array.getElem?_setIfInBounds_ne hi];exact h.zero
 rw [partners_one h0 fun j g hj hg=>?_,offersAt_parked_recv]
 ·simp
 ·rcases getElem?_stand gs i j g hg with ⟨_,rfl⟩ | ⟨_,hg⟩
  ·exact offersAt_ph _ _
  ·have hpos:0 < j:=by omega
   have:=h.old j g hpos hg
   unfold WkOk at this
   cases hK:s.K j with
   | leave q =>
    rw [hK] at this
    have hs:=QuitsD.status this
    refine offersAt_of_not_blocked (fun e=>?_) _ _
    rcases hs with hs | hs <;> rw [e] at hs <;> cases hs
   | work τ =>
    rw [hK] at this
    obtain ⟨fr,mine,rfl,_⟩:=this
    exact offersAt_of_not_blocked (by simp [G]) _ _
   | sit =>
    rw [hK] at this
    obtain ⟨g₂,z,rfl,_⟩:=this
    exact offersAt_parked_send' _ _ _ _ _ _
theorem WTr.parts {D:Nat→Prop} {Stop:StopW} {τ:Tr} {wr:Nat→Prop} {fr:Frame} {mine:List Frame} {w:World} (h:WTr P c D Stop τ wr fr mine w) :
  Stop wr fr mine w∨∃ τ',WKlt (.work τ') (.work τ)∧StepW P D wr (WTr P c D Stop τ') fr mine w:=by
 cases τ with
 | leaf=>exact .inl (h w (.refl _ w))
 | node f =>
  rcases h w (.refl _ w) with h | h
  ·exact .inl h
  ·exact .inr ⟨_,.node f w,h⟩
theorem busy_upd {K:Nat→WK} {i:Nat} {x:WK} (h:x.busy=(K i).busy) (j:Nat):(upd K i x j).busy=(K j).busy:=by
 by_cases e:j=i
 ·subst e;rw [upd_same];exact h
 ·rw [upd_ne _ _ e]
theorem sit_upd {K:Nat→WK} {i:Nat} {x:WK} (h:x≠.sit) (j:Nat) (hj:upd K i x j=.sit):K j=.sit:=by
 by_cases e:j=i
 ·subst e;rw [upd_same] at hj;exact (h hj).elim
 ·rwa [upd_ne _ _ e] at hj
theorem served_parked {a b:Goroutine} {cs cs':Array CommCase} {sh sh':CommShape} (h:parked a cs sh=parked b cs' sh') (v:Value):Conc.served a v=Conc.served b v:=by
 simp only [parked,Goroutine.mk.injEq] at h
 obtain ⟨e1,e2,_,e4,_⟩:=h
 cases a;cases b
 dsimp only at e1 e2 e4
 subst e1 e2 e4
 rfl
theorem other_step {s:Sit} {gs:Array Goroutine} {a g:Goroutine} {w:World} {sl:Option (Nat × Nat)} {t:Trace} (h:PhC P c s gs a w t) (ha:Main c a) {i:Nat} (hi:0 < i) (hgi:gs[i]? = some g) (hrun:g.status=.running) :
  ∃ gs' w' u,runT P (crowd gs w sl) i=(.next (crowd gs' w' sl),u)∧gs'.size=gs.size∧RelyW c (orS (s.D 0) (s.wr 0)) w w' ∧
   ((∃ s',PhC P c s' gs' a w' (t ++ u)∧Like s s'∧Dec gs.size s'.K s.K∧(a.status=.running∨∀ j,s'.K j=.sit→s.K j=.sit)) ∨
    (∃ a₂ z q,a=parked a₂ #[rcase c z] (.recv false)∧s.act gs.size i∧PhC P c { s with K:=upd s.K i (.leave q) } gs' (Conc.served a₂ (s.val i)) w' (t ++ u))):=by
 have hi0:(i == 0)=false:=by simp;omega
 have hne:i≠0:=by omega
 have hlt:i < gs.size:=(Array.getElem?_eq_some_iff.1 hgi).1
 have hold:=h.old i g hi hgi
 unfold WkOk at hold
 cases hK:s.K i with
 | leave q =>
  rw [hK] at hold
  have hold':QuitsD P q (Deaf t i) g:=hold
  cases q with
  | zero=>rw [hold'.1] at hrun;cases hrun
  | succ q =>
   rcases hold' with ⟨hf,_⟩ | ⟨_,g',es,hm,hst,hq⟩
   ·rw [hf] at hrun;cases hrun
   refine ⟨_,_,_,runT_crowd_go hgi (by rw [hi0];exact hst w),by simp,.refl _ w,.inl ⟨{ s with K:=upd s.K i (.leave q) },h.slip hi hgi hK hm ha _ _ hq,⟨rfl,rfl,rfl,busy_upd (by rw [hK];rfl)⟩,⟨i,_,hlt,rfl,by rw [hK];exact .leave q⟩,.inr (sit_upd (by simp))⟩⟩
 | sit =>
  rw [hK] at hold
  obtain ⟨g₂,z,rfl,_⟩:=hold
  cases hrun
 | work τ =>
  rw [hK] at hold
  obtain ⟨fr,mine,rfl,hwt⟩:=hold
  have hact:s.act gs.size i:=⟨hi,hlt,by rw [hK];rfl⟩
  rcases hwt.parts with hstop | ⟨τ',hltτ,fr',mine',w',es,wr',hst,hev,hg,hgr,hk⟩
  ·obtain ⟨g₂,z,es,hst,hev,hq⟩:=hstop
   have hst':stepG P (i == 0) (G fr mine) w=.comm g₂ #[scase c (s.val i) z] true .send w es:=by rw [hi0];exact hst
   obtain ⟨k,hk⟩:=h.chan
   rcases ha with ha | ⟨a₂,z',rfl⟩
   ·have hp:=no_recv_partner h ha i
    refine ⟨_,_,_,crowd_waits hgi hst' (fun cc hcc=>?_),by simp,.refl _ w,.inl ⟨{ s with K:=upd s.K i .sit },h.sitDown hact hgi hev hq _ _,⟨rfl,rfl,rfl,busy_upd (by rw [hK];rfl)⟩,⟨i,_,hlt,rfl,by rw [hK];exact .sit τ⟩,.inl ha⟩⟩
    simp only [List.mem_toArray,List.mem_singleton] at hcc
    subst hcc
    exact ways_send_none hk (Nat.zero_le _) hp
   ·have hp:=one_recv_partner h hne
    have hrunT:=crowd_send_meets (P:=P) (sl:=sl) hgi hst' hk (j:=0) (gj:=a₂) (shj:=.recv false) (zj:=z') (by omega) h.zero hp
    obtain ⟨q,hq⟩:=hq
    have hown:=h.sitDown hact (g₂:=g₂) (z:=z) hgi hev ⟨q,hq⟩ (G fr mine).frame.fn (G fr mine).frame.place
    refine ⟨_,_,_,hrunT,by simp,?_,.inr ⟨a₂,z',q,rfl,hact,?_⟩⟩
    ·refine ⟨by show w.heap.size≤(w.heap.setIfInBounds c _).size;simp,fun b _=>?_,rfl,rfl,rfl⟩
     by_cases e:b=c
     ·subst e
      refine .inr ⟨rfl,_,.chan 0 #[] false (k+1) (k+1) false,hk,?_,rfl,rfl⟩
      show (w.heap.setIfInBounds b _)[b]? = _
      rw [Array.getElem?_setIfInBounds_self_of_lt (Array.getElem?_eq_some_iff.1 hk).1]
     ·refine .inl ?_
      show (w.heap.setIfInBounds c _)[b]? = _
      rw [Array.getElem?_setIfInBounds_ne (Ne.symm e)]
    ·have hmet:=hown.met (j:=i) (a':=Conc.served a₂ (s.val i)) (g':=Conc.served g₂ undef) (q:=q) (k:=k) (cap:=0)
      ⟨hi,by simpa using hlt,by show (upd s.K i WK.sit i).busy=true;rw [upd_same];rfl⟩ hq g₂.frame.fn g₂.frame.place a₂.frame.fn a₂.frame.place (k+1)
      ((gs.setIfInBounds 0 (Conc.served a₂ (s.val i))).setIfInBounds i (Conc.served g₂ undef)) (by simp) (by rw [Array.getElem?_setIfInBounds_ne hne];simp [h.lt]) (by simp [hlt])
      (fun x hx0 hxi=>by rw [Array.getElem?_setIfInBounds_ne (Ne.symm hxi),Array.getElem?_setIfInBounds_ne (Ne.symm hx0),Array.getElem?_setIfInBounds_ne (Ne.symm hxi)]) w.drawn _ rfl
     have eK:upd (upd s.K i WK.sit) i (WK.leave q)=upd s.K i (WK.leave q):=by
      funext x
      by_cases e:x=i
      ·subst e;rw [upd_same,upd_same]
      ·rw [upd_ne _ _ e,upd_ne _ _ e,upd_ne _ _ e]
     rw [Array.append_assoc] at hmet
     simp only [eK] at hmet
     exact hmet
  ·have hst':=hst false []
   simp only [List.append_nil] at hst'
   have hstep:=h.step (.inr hact) (g':=G fr' mine') (x:=.work τ') hgi (fun _=>rfl) hev hg hgr (fun _=>ha) (G fr mine).frame.fn (G fr mine).frame.place (fun _=>by
    unfold WkOk
    simp only [upd_same]
    exact ⟨fr',mine',rfl,hk⟩)
   simp only [hne,if_false] at hstep
   refine ⟨_,_,_,runT_crowd_go hgi (by rw [hi0];exact hst'),by simp,h.relied (.inr hact) (.inl rfl) hne hg,.inl ⟨_,hstep,⟨rfl,rfl,upd_ne _ _ (Ne.symm hne),busy_upd (by rw [hK];rfl)⟩,⟨i,_,hlt,rfl,by rw [hK];exact hltτ⟩,.inr (sit_upd (by simp))⟩⟩
theorem all_awake {s:Sit} {gs:Array Goroutine} {a:Goroutine} {w:World} {t:Trace} (h:PhC P c s gs a w t) (ha:Main c a):∀ g∈gs,awake g:=by
 intro g hg
 obtain ⟨i,hi,rfl⟩:=Array.mem_iff_getElem.1 hg
 rcases Nat.eq_zero_or_pos i with rfl | hpos
 ·have:gs[0]=a:=by simpa [Array.getElem?_eq_getElem hi] using h.zero
  rw [this]
  rcases ha with ha | ⟨a₂,z,rfl⟩
  ·exact awake_of (.inl ha)
  ·exact awake_of (.inr (.inl rfl))
 ·have:=h.old i _ hpos (Array.getElem?_eq_getElem hi)
  unfold WkOk at this
  cases hK:s.K i with
  | leave q=>rw [hK] at this;exact awake_of ((QuitsD.status this).elim .inl fun x=>.inr (.inr x))
  | work τ=>rw [hK] at this;obtain ⟨fr,mine,e,_⟩:=this;rw [e];exact awake_of (.inl rfl)
  | sit=>rw [hK] at this;obtain ⟨g₂,z,e,_⟩:=this;rw [e];exact awake_of (.inr (.inl rfl))
theorem await_main' {a:Goroutine} (ha:a.status=.running) {Q:Sit→Array Goroutine→Goroutine→World→Prop} {s0:Sit} {n:Nat} {w0:World} (E:World→Prop)
  (he:∀ s gs w sl t,PhC P c s gs a w t→Like s0 s→gs.size=n→RelyW c (orS (s0.D 0) (s0.wr 0)) w0 w→E w→Out P c gs w sl t Q)
  (hm:∀ s gs w sl t d,PhC P c s gs a (w.at d) t→Like s0 s→gs.size=n→RelyW c (orS (s0.D 0) (s0.wr 0)) w0 (w.at d)→¬ E w→∃ gs' w' u,runT P (crowd gs (w.at d) sl) 0=(.next (crowd gs' w' sl),u)∧Out P c gs' w' sl (t ++ u) Q) :
  ∀ s gs w sl t,PhC P c s gs a w t→Like s0 s→gs.size=n→RelyW c (orS (s0.D 0) (s0.wr 0)) w0 w→Out P c gs w sl t Q:=by
 have key:∀ K:Nat→WK,∀ s gs w sl t,s.K=K→PhC P c s gs a w t→Like s0 s→gs.size=n→RelyW c (orS (s0.D 0) (s0.wr 0)) w0 w→Out P c gs w sl t Q:=by
  intro K
  induction K using (dec_wf n).induction with
  | _ K ih =>
   intro s gs w sl t hK h hL hn hr
   by_cases hE:E w
   ·exact he s gs w sl t h hL hn hr hE
   obtain ⟨i,g,d,sl',hi,hg,hst⟩:=crowd_pick (P:=P) (w:=w) (sl:=sl) (all_awake h (.inl ha)) ⟨0,a,h.zero,ha⟩
   rcases Nat.eq_zero_or_pos i with rfl | hpos
   ·obtain ⟨gs',w',u,h1,h2⟩:=hm s gs w sl' t d (h.at d) hL hn (hr.trans (.at _ w d)) hE
    exact .step (hst.trans h1) h2
   ·obtain ⟨gs',w',u,h1,h2,h3,h4⟩:=other_step (sl:=sl') (h.at d) (.inl ha) hpos hi hg
    rw [hL.D,hL.wr0] at h3
    rcases h4 with ⟨s',h5,h6,h7,_⟩ | ⟨a₂,z,q,h5,_⟩
    ·exact .step (hst.trans h1) (ih s'.K (by rw [← hK,← hn];exact h7) s' gs' w' sl' _ rfl h5 (hL.trans h6) (h2.trans hn) ((hr.trans (.at _ w d)).trans h3))
    ·rw [h5] at ha;cases ha
 exact fun s gs w sl t=>key s.K s gs w sl t rfl
theorem await_main {a:Goroutine} (ha:a.status=.running) {Q:Sit→Array Goroutine→Goroutine→World→Prop} {s0:Sit} {n:Nat} {w0:World}
  (hm:∀ s gs w sl t,PhC P c s gs a w t→Like s0 s→gs.size=n→RelyW c (orS (s0.D 0) (s0.wr 0)) w0 w→∃ gs' w' u,runT P (crowd gs w sl) 0=(.next (crowd gs' w' sl),u)∧Out P c gs' w' sl (t ++ u) Q) :
  ∀ s gs w sl t,PhC P c s gs a w t→Like s0 s→gs.size=n→RelyW c (orS (s0.D 0) (s0.wr 0)) w0 w→Out P c gs w sl t Q :=
 await_main' ha (fun _=>False) (fun _ _ _ _ _ _ _ _ _ h=>h.elim) fun s gs w sl t d h hL hn hr _=>hm s gs (w.at d) sl t h hL hn hr
theorem await_meet {a₂:Goroutine} {z:Value} {Q:Sit→Array Goroutine→Goroutine→World→Prop} {s0:Sit} {n:Nat} {w0:World} (hsome:∃ i,s0.act n i)
  (hm:∀ s i q gs w sl t,s.act n i→Like s0 s→gs.size=n→RelyW c (orS (s0.D 0) (s0.wr 0)) w0 w→PhC P c { s with K:=upd s.K i (.leave q) } gs (Conc.served a₂ (s.val i)) w t→Out P c gs w sl t Q) :
  ∀ s gs w sl t,PhC P c s gs (parked a₂ #[rcase c z] (.recv false)) w t→(∀ i,0 < i→i < n→s.K i≠.sit)→Like s0 s→gs.size=n→RelyW c (orS (s0.D 0) (s0.wr 0)) w0 w→Out P c gs w sl t Q:=by
 have ha:Main c (parked a₂ #[rcase c z] (.recv false)):=.inr ⟨a₂,z,rfl⟩
 have key:∀ K:Nat→WK,∀ s gs w sl t,s.K=K→PhC P c s gs (parked a₂ #[rcase c z] (.recv false)) w t→(∀ i,0 < i→i < n→s.K i≠.sit)→Like s0 s→gs.size=n→RelyW c (orS (s0.D 0) (s0.wr 0)) w0 w→Out P c gs w sl t Q:=by
  intro K
  induction K using (dec_wf n).induction with
  | _ K ih =>
   intro s gs w sl t hK h hns hL hn hr
   have hex:∃ (i:Nat) (g:Goroutine),gs[i]? = some g∧g.status=.running:=by
    obtain ⟨i,h1,h2,h3⟩:=hsome
    have hlt:i < gs.size:=by omega
    have:=h.old i gs[i] h1 (Array.getElem?_eq_getElem hlt)
    unfold WkOk at this
    cases hKi:s.K i with
    | leave q=>rw [← hL.busy,hKi] at h3;cases h3
    | sit=>exact (hns i h1 h2 hKi).elim
    | work τ =>
     rw [hKi] at this
     obtain ⟨fr,mine,e,_⟩:=this
     exact ⟨i,gs[i],Array.getElem?_eq_getElem hlt,by rw [e];rfl⟩
   obtain ⟨i,g,d,sl',hi,hg,hst⟩:=crowd_pick (P:=P) (w:=w) (sl:=sl) (all_awake h ha) hex
   rcases Nat.eq_zero_or_pos i with rfl | hpos
   ·rw [h.zero] at hi
    cases hi
    cases hg
   ·obtain ⟨gs',w',u,h1,h2,h3,h4⟩:=other_step (sl:=sl') (h.at d) ha hpos hi hg
    rw [hL.D,hL.wr0] at h3
    rcases h4 with ⟨s',h5,h6,h7,h8⟩ | ⟨b₂,z',q,h5,h6,h7⟩
    ·refine .step (hst.trans h1) (ih s'.K (by rw [← hK,← hn];exact h7) s' gs' w' sl' _ rfl h5 (fun j hj0 hj hsit=>?_) (hL.trans h6) (h2.trans hn) ((hr.trans (.at _ w d)).trans h3))
     rcases h8 with h8 | h8
     ·cases h8
     ·exact hns j hj0 hj (h8 j hsit)
    ·rw [← served_parked h5] at h7
     rw [hn] at h6
     exact .step (hst.trans h1) (hm s i q gs' w' sl' _ h6 hL (h2.trans hn) ((hr.trans (.at _ w d)).trans h3) h7)
 exact fun s gs w sl t=>key s.K s gs w sl t rfl
end
end Go.Ph
namespace Go.Ph
open Go
open Go.Tm
open Go.Sr
open Go.Conc
open Go.ConcN (upd upd_same upd_ne)
abbrev PostC:=(Nat→Prop)→(Nat→Prop)→List Value→Goroutine→World→Prop
def ToC (P:Program) (c:Nat) (D0 wr0:Nat→Prop) (vs:List Value) (a:Goroutine) (w:World) (Q:PostC):Prop :=
 ∀ s gs sl t w1,RelyW c (orS D0 wr0) w w1→PhC P c s gs a w1 t→s.D 0=D0→s.wr 0=wr0→(pendL s gs.size).Perm vs →
  Out P c gs w1 sl t fun s' gs' a' w'=>∃ vs',(pendL s' gs'.size).Perm vs'∧Q (s'.D 0) (s'.wr 0) vs' a' w'
section
variable {P:Program} {c:Nat} {D0 wr0:Nat→Prop} {vs:List Value} {a:Goroutine} {w:World} {Q Q':PostC}
theorem ToC.mono (h:ToC P c D0 wr0 vs a w Q) (hq:∀ D wr vs a w,Q D wr vs a w→Q' D wr vs a w):ToC P c D0 wr0 vs a w Q':=by
 intro s gs sl t w1 hr hp h1 h2 h3
 obtain ⟨N,s',gs',a',w',sl',t',k1,k2,vs',k3,k4⟩:=h s gs sl t w1 hr hp h1 h2 h3
 exact ⟨N,s',gs',a',w',sl',t',k1,k2,vs',k3,hq _ _ _ _ _ k4⟩
theorem ToC.bind (h:ToC P c D0 wr0 vs a w Q) (hq:∀ D wr vs a w,Q D wr vs a w→ToC P c D wr vs a w Q'):ToC P c D0 wr0 vs a w Q':=by
 intro s gs sl t w1 hr hp h1 h2 h3
 obtain ⟨N,s',gs',a',w',sl',t',k1,k2,vs',k3,k4⟩:=h s gs sl t w1 hr hp h1 h2 h3
 obtain ⟨M,s2,gs2,a2,w2,sl2,t2,m1,m2,m3⟩:=hq _ _ _ _ _ k4 s' gs' sl' t' w' (.refl _ w') k2 rfl rfl k3
 refine ⟨N+M,s2,gs2,a2,w2,sl2,t2,?_,m2,m3⟩
 rw [Go.Tm.runNT_add N M _ _ _ _ k1]
 exact m1
theorem ToC.rely {w':World} (h:ToC P c D0 wr0 vs a w Q) (hr:RelyW c (orS D0 wr0) w w'):ToC P c D0 wr0 vs a w' Q:=fun s gs sl t w1 hr'=>h s gs sl t w1 (hr.trans hr')
theorem toC_here (h:∀ w1,RelyW c (orS D0 wr0) w w1→Q D0 wr0 vs a w1):ToC P c D0 wr0 vs a w Q:=by
 intro s gs sl t w1 hr hp h1 h2 h3
 exact ⟨0,s,gs,a,w1,sl,t,rfl,hp,vs,h3,by rw [h1,h2];exact h w1 hr⟩
theorem PhC.setMain {s:Sit} {gs:Array Goroutine} {t:Trace} (h:PhC P c s gs a w t) (a':Goroutine):PhC P c s (gs.setIfInBounds 0 a') a' w t:=by
 have hsz:(gs.setIfInBounds 0 a').size=gs.size:=by simp
 refine ⟨by simp [h.lt],fun i g hi hg=>h.old i g hi ?_,fun j hj=>h.above j (by rw [hsz] at hj;exact hj),h.chan,fun g hg=>h.nochan g (by rw [hsz] at hg;exact hg),h.heap,by rw [hsz];exact h.tr⟩
 rwa [Array.getElem?_setIfInBounds_ne (by omega)] at hg
theorem PhC.listed {s:Sit} {gs:Array Goroutine} {t:Trace} (h:PhC P c s gs a w t) {es:Array Event} (hev:∀ e∈es,EvOk (s.D 0) (s.wr 0) e) (fn:FuncId) (pos:String):PhC P c s gs a w (t ++ MemOp.ofEvents 0 fn pos es):=by
 have hu:∀ op∈MemOp.ofEvents 0 fn pos es,op.g=0:=fun op hop=>by obtain ⟨e,_,rfl⟩:=Go.Conc.mem_ofEvents hop;rfl
 have hown:=h.tr.own (.inl rfl) hev (fun _ h=>h) (fun _ h=>.inl h) (Nat.le_refl _) fn pos
 have hwr:upd s.wr 0 (s.wr 0)=s.wr:=by
  funext j
  by_cases e:j=0
  ·subst e;rw [upd_same]
  ·rw [upd_ne _ _ e]
 rw [hwr] at hown
 refine ⟨h.zero,fun i g hi hg=>(h.old i g hi hg).keep rfl rfl rfl rfl (Deaf_other t (by omega) _ hu) fun _=>.refl _ w,fun j hj=>?_,h.chan,h.nochan,h.heap,hown⟩
 have:=h.lt
 rw [Deaf_other t (by omega) _ hu]
 exact h.above j hj
theorem toC_wt {Stop:StopW} (hat:∀ wr fr mine w d,Stop wr fr mine (w.at d)→Stop wr fr mine w) {fr:Frame} {mine cs:List Frame} (h:WT P c D0 Stop wr0 fr mine w)
  (hk:∀ wr' fr' mine' w',Stop wr' fr' mine' w'→ToC P c D0 wr' vs (G fr' (mine' ++ cs)) w' Q):ToC P c D0 wr0 vs (G fr (mine ++ cs)) w Q:=by
 obtain ⟨τ,h⟩:=h
 have main:∀ (τ:Tr) (wr0:Nat→Prop) (fr:Frame) (mine:List Frame) (w:World),WTr P c D0 Stop τ wr0 fr mine w→ToC P c D0 wr0 vs (G fr (mine ++ cs)) w Q:=by
  intro τ
  induction τ with
  | leaf =>
   intro wr0 fr mine w h s gs sl t w1 hr hp h1 h2 h3
   exact hk _ _ _ _ (h w1 hr) s gs sl t w1 (.refl _ w1) hp h1 h2 h3
  | node f ih =>
   intro wr0 fr mine w h s gs sl t w1 hr hp h1 h2 h3
   refine await_main' (s0:=s) (n:=gs.size) (w0:=w1) rfl (fun w=>Stop wr0 fr mine w) (fun s' gs' w' sl' t' hp' hL hn hr' hE=>?_) (fun s' gs' w' sl' t' d hp' hL hn hr' hE=>?_) s gs w1 sl t hp (.refl s) rfl (.refl _ w1)
   ·exact hk _ _ _ _ hE s' gs' sl' t' w' (.refl _ w') hp' (by rw [hL.D,h1]) (by rw [hL.wr0,h2]) (by rw [hn,hL.pend];exact h3)
   ·rw [h1,h2] at hr'
    rcases h (w'.at d) (hr.trans hr') with hs | ⟨fr',mine',w2,es,wr',k1,k2,k3,k4,k5⟩
    ·exact (hE (hat _ _ _ _ _ hs)).elim
    ·have hD:s'.D 0=D0:=by rw [hL.D,h1]
     have hw:s'.wr 0=wr0:=by rw [hL.wr0,h2]
     have hst:=hp'.step (i:=0) (.inl rfl) (g:=G fr (mine ++ cs)) (g':=G fr' (mine' ++ cs)) (x:=.sit) (es:=es) (wr':=wr') hp'.zero (fun h=>(h rfl).elim) (by rw [hD];exact k2) (by rw [hw];exact k3) (by rw [hw];exact k4) (fun h=>(h rfl).elim) (G fr (mine ++ cs)).frame.fn (G fr (mine ++ cs)).frame.place (fun h=>(h rfl).elim)
     simp only [if_true] at hst
     refine ⟨_,_,_,runT_crowd_go hp'.zero (show stepG P (0 == 0) _ _=_ from k1 true cs),?_⟩
     refine ih (w'.at d) wr' fr' mine' w2 k5 _ _ _ _ w2 (.refl _ w2) hst hD (by show upd s'.wr 0 wr' 0=wr';exact upd_same _ _ _) ?_
     have hsz:((gs'.map (woken P (G fr (mine ++ cs)) (G fr' (mine' ++ cs)) w2)).setIfInBounds 0 (G fr' (mine' ++ cs))).size=gs.size:=by simp [hn]
     rw [hsz]
     have e:pendL { s' with K:=s'.K,wr:=upd s'.wr 0 wr' } gs.size=pendL s gs.size:=by
      rw [← hL.pend]
      exact pend_congr fun _ _=>⟨rfl,rfl⟩
     exact e ▸ h3
 exact main τ wr0 fr mine w h
theorem toC_spawn (ha:a.status=.running)
  (hs:∀ w1,RelyW c (orS D0 wr0) w w1→∃ a' frc es Dc D0' wr0' v,stepG P true a w1=.spawn a' (G frc []) w1 es∧(∀ e∈es,EvOk D0 wr0 e)∧(∀ b,Dc b→D0 b∨wr0 b)∧(∀ b,D0' b∨wr0' b→D0 b∨wr0 b)∧(∀ b,wr0' b→wr0 b∧¬ Dc b) ∧
   WT P c Dc (AtSend P c v Dc) (fun _=>False) frc [] w1∧ToC P c D0' wr0' (v :: vs) a' w1 Q):ToC P c D0 wr0 vs a w Q:=by
 intro s gs sl t w1 hr hp h1 h2 h3
 refine await_main (s0:=s) (n:=gs.size) (w0:=w1) ha (fun s' gs' w' sl' t' hp' hL hn hr'=>?_) s gs w1 sl t hp (.refl s) rfl (.refl _ w1)
 rw [h1,h2] at hr'
 have hD:s'.D 0=D0:=by rw [hL.D,h1]
 have hw:s'.wr 0=wr0:=by rw [hL.wr0,h2]
 obtain ⟨a',frc,es,Dc,D0',wr0',v,k1,k2,k3,k4,k5,⟨τ,k6⟩,k7⟩:=hs w' (hr.trans hr')
 have hlt:=hp'.lt
 have hl:=hp'.listed (es:=es) (by rw [hD,hw];exact k2) a.frame.fn a.frame.place
 have hn0:gs'.size≠0:=by omega
 have hnact:¬ s'.act gs'.size gs'.size:=fun h=>Nat.lt_irrefl _ h.2.1
 have hhire:=hl.tr.hire (c:=gs'.size) ⟨hn0,hnact⟩ (hl.above _ (Nat.le_refl _)) Dc D0' wr0' (by rw [hD,hw];exact k3) (by rw [hD,hw];exact k4) (by rw [hw];exact k5) a.frame.fn a.frame.place frc.fn
 let s2:Sit:={ K:=upd s'.K gs'.size (.work τ),D:=upd (upd s'.D gs'.size Dc) 0 D0',wr:=upd (upd s'.wr gs'.size fun _=>False) 0 wr0',val:=upd s'.val gs'.size v }
 have hact:(fun g=>s'.act gs'.size g∨g=gs'.size)=s2.act (gs'.size+1):=by
  funext g
  apply propext
  unfold Sit.act
  constructor
  ·rintro (⟨x1,x2,x3⟩ | rfl)
   ·exact ⟨x1,by omega,by show (upd s'.K gs'.size (WK.work τ) g).busy=true;rw [upd_ne _ _ (by omega)];exact x3⟩
   ·exact ⟨by omega,by omega,by show (upd s'.K gs'.size (WK.work τ) gs'.size).busy=true;rw [upd_same];rfl⟩
  ·rintro ⟨x1,x2,x3⟩
   by_cases e:g=gs'.size
   ·exact .inr e
   ·refine .inl ⟨x1,by omega,?_⟩
    have x3':(upd s'.K gs'.size (WK.work τ) g).busy=true:=x3
    rwa [upd_ne _ _ e] at x3'
 have hsz:((gs'.setIfInBounds 0 a').push (G frc [])).size=gs'.size+1:=by simp
 generalize hu:(#[{ g:=0,fn:=a.frame.fn,pos:=a.frame.place,act:=.go gs'.size },{ g:=gs'.size,fn:=frc.fn,pos:=a.frame.place,act:=.start }]:Trace)=u at hhire
 have hq:∀ g,∀ op∈u,∀ d,deafStep g d op=d:=by
  intro g op hop d
  subst hu
  simp only [List.mem_toArray,List.mem_cons,List.not_mem_nil,or_false] at hop
  rcases hop with rfl | rfl <;> rfl
 have hdeaf:∀ g,Deaf (t' ++ MemOp.ofEvents 0 a.frame.fn a.frame.place es ++ u) g=Deaf (t' ++ MemOp.ofEvents 0 a.frame.fn a.frame.place es) g:=fun g=>Deaf_quiet (hq g)
 have hpc:PhC P c s2 ((gs'.setIfInBounds 0 a').push (G frc [])) a' w' (t' ++ MemOp.ofEvents 0 a.frame.fn a.frame.place es ++ u):=by
  refine ⟨?_,fun i g hi hg=>?_,fun j hj=>?_,hl.chan,fun g hg=>?_,hl.heap,?_⟩
  ·rw [Array.getElem?_push,if_neg (by simp;omega)]
   simp [hlt]
  ·rw [Array.getElem?_push] at hg
   split at hg
   ·rename_i hi2
    simp only [Array.size_setIfInBounds] at hi2
    cases hg
    subst hi2
    unfold WkOk
    have eK:s2.K gs'.size=.work τ:=upd_same _ _ _
    have eD:s2.D gs'.size=Dc:=by show upd (upd s'.D gs'.size Dc) 0 D0' gs'.size=_;rw [upd_ne _ _ hn0,upd_same]
    have ew:s2.wr gs'.size=fun _=>False:=by show upd (upd s'.wr gs'.size fun _=>False) 0 wr0' gs'.size=_;rw [upd_ne _ _ hn0,upd_same]
    have ev:s2.val gs'.size=v:=upd_same _ _ _
    rw [eK]
    dsimp only
    rw [eD,ew,ev]
    exact ⟨frc,[],rfl,k6⟩
   ·rename_i hi2
    rw [Array.getElem?_setIfInBounds_ne (by omega)] at hg
    have hne:i≠gs'.size:=by simpa using hi2
    refine (hl.old i g hi hg).keep (upd_ne _ _ hne) ?_ ?_ (upd_ne _ _ hne) (hdeaf i) fun _=>.refl _ w'
    ·show upd (upd s'.D gs'.size Dc) 0 D0' i=_
     rw [upd_ne _ _ (by omega),upd_ne _ _ hne]
    ·show upd (upd s'.wr gs'.size fun _=>False) 0 wr0' i=_
     rw [upd_ne _ _ (by omega),upd_ne _ _ hne]
  ·rw [hsz] at hj
   rw [hdeaf]
   exact hl.above j (by omega)
  ·rw [hsz,← hact] at hg
   show ¬ upd (upd s'.wr gs'.size fun _=>False) 0 wr0' g c
   by_cases e:g=0
   ·subst e
    rw [upd_same]
    intro hb
    have:=(k5 c hb).1
    rw [← hw] at this
    exact hl.nochan 0 (.inl rfl) this
   ·rw [upd_ne _ _ e]
    by_cases e':g=gs'.size
    ·subst e';rw [upd_same];exact id
    ·rw [upd_ne _ _ e']
     exact hl.nochan g (hg.elim .inl fun h=>h.elim .inr fun h=>(e' h).elim)
  ·rw [hsz,← hact]
   exact hhire
 refine ⟨_,_,_,runT_crowd_spawn hp'.zero (show stepG P (0 == 0) a w'=_ from k1),?_⟩
 have htr:t' ++ (((MemOp.ofEvents 0 a.frame.fn a.frame.place es).push { g:=0,fn:=a.frame.fn,pos:=a.frame.place,act:=.go gs'.size }).push { g:=gs'.size,fn:=(G frc []).frame.fn,pos:=a.frame.place,act:=.start })=t' ++ MemOp.ofEvents 0 a.frame.fn a.frame.place es ++ u:=by
  subst hu
  rw [Array.append_assoc]
  congr 1
 rw [htr]
 refine k7 s2 _ _ _ w' (.refl _ w') hpc (by show upd (upd s'.D gs'.size Dc) 0 D0' 0=D0';exact upd_same _ _ _) (by show upd (upd s'.wr gs'.size fun _=>False) 0 wr0' 0=wr0';exact upd_same _ _ _) ?_
 rw [hsz,pend_succ]
 have e1:pendL s2 gs'.size=pendL s gs.size:=by
  rw [← hL.pend,← hn]
  refine pend_congr fun i hi=>⟨?_,?_⟩
  ·show (upd s'.K gs'.size (WK.work τ) i).busy=_
   rw [upd_ne _ _ (by omega)]
  ·show upd s'.val gs'.size v i=_
   rw [upd_ne _ _ (by omega)]
 have e2:(0 < gs'.size∧(s2.K gs'.size).busy=true):=⟨hlt,by show (upd s'.K gs'.size (WK.work τ) gs'.size).busy=true;rw [upd_same];rfl⟩
 have e3:s2.val gs'.size=v:=upd_same _ _ _
 rw [if_pos e2,e1,e3]
 exact (List.perm_append_singleton _ _).trans (h3.cons v)
theorem send_partner {s:Sit} {gs:Array Goroutine} {t:Trace} (h:PhC P c s gs a w t):∀ j k,(j,k)∈partners (gs.setIfInBounds 0 ph) c true→k=0∧0 < j∧s.act gs.size j∧∃ g₂ z,gs[j]? = some (parked g₂ #[scase c (s.val j) z] .send)∧∃ q,QuitsD P q 0 (Conc.served g₂ undef):=by
 intro j k hjk
 obtain ⟨g,hg,hk⟩:=mem_partners.1 hjk
 rcases getElem?_stand gs 0 j g hg with ⟨_,rfl⟩ | ⟨hj0,hg⟩
 ·rw [offersAt_ph] at hk;cases hk
 ·have hpos:0 < j:=by omega
  have hw:=h.old j g hpos hg
  unfold WkOk at hw
  cases hK:s.K j with
  | leave q =>
   rw [hK] at hw
   have hs:=QuitsD.status hw
   rw [offersAt_of_not_blocked (fun e=>by rcases hs with hs | hs <;> rw [e] at hs <;> cases hs) _ _] at hk
   cases hk
  | work τ =>
   rw [hK] at hw
   obtain ⟨fr,mine,rfl,_⟩:=hw
   rw [offersAt_of_not_blocked (by simp [G]) _ _] at hk
   cases hk
  | sit =>
   rw [hK] at hw
   obtain ⟨g₂,z,rfl,hq⟩:=hw
   rw [offersAt_parked_send] at hk
   simp at hk
   exact ⟨hk,hpos,⟨hpos,(Array.getElem?_eq_some_iff.1 hg).1,by rw [hK];rfl⟩,g₂,z,hg,hq⟩
theorem toC_recv (ha:a.status=.running) (hne:vs≠[])
  (hs:∀ w1,RelyW c (orS D0 wr0) w w1→∃ a₂ z es,stepG P true a w1=.comm a₂ #[rcase c z] true (.recv false) w1 es∧(∀ e∈es,EvOk D0 wr0 e) ∧
   ∀ v rest,vs.Perm (v :: rest)→∀ w2,RelyW c (orS D0 wr0) w1 w2→ToC P c D0 wr0 rest (Conc.served a₂ v) w2 Q):ToC P c D0 wr0 vs a w Q:=by
 intro s gs sl t w1 hr hp h1 h2 h3
 refine await_main (s0:=s) (n:=gs.size) (w0:=w1) ha (fun s' gs' w' sl' t' hp' hL hn hr'=>?_) s gs w1 sl t hp (.refl s) rfl (.refl _ w1)
 rw [h1,h2] at hr'
 have hD:s'.D 0=D0:=by rw [hL.D,h1]
 have hw:s'.wr 0=wr0:=by rw [hL.wr0,h2]
 obtain ⟨a₂,z,es,k1,k2,k3⟩:=hs w' (hr.trans hr')
 have hl:=hp'.listed (es:=es) (by rw [hD,hw];exact k2) a.frame.fn a.frame.place
 obtain ⟨k,hk⟩:=hp'.chan
 have hpend:(pendL s' gs'.size).Perm vs:=by rw [hL.pend,hn];exact h3
 have hst:stepG P (0 == 0) a w'=.comm a₂ #[rcase c z] true (.recv false) w' es:=k1
 have hlt:=hp'.lt
 by_cases hpn:partners (gs'.setIfInBounds 0 ph) c true=[]
 · -- nobody sits there yet: it sits down itself
  refine ⟨_,_,_,crowd_waits hp'.zero hst (fun cc hcc=>?_),?_⟩
  ·simp only [List.mem_toArray,List.mem_singleton] at hcc
   subst hcc
   exact ways_recv_none hk hpn
  ·have hsome:∃ i,s'.act gs'.size i:=by
    apply Classical.byContradiction
    intro hno
    apply hne
    have:pendL s' gs'.size=[]:=by
     unfold pendL
     rw [List.map_eq_nil_iff,List.filter_eq_nil_iff]
     intro i hi hb
     simp only [Bool.and_eq_true,decide_eq_true_eq] at hb
     exact hno ⟨i,hb.1,List.mem_range.1 hi,hb.2⟩
    rw [this] at hpend
    exact hpend.nil_eq.symm
   refine await_meet (s0:=s') (n:=gs'.size) (w0:=w') (z:=z) hsome (fun s2 i q gs2 w2 sl2 t2 hi hL2 hn2 hr2 hp2=>?_) s' _ w' _ _ (hl.setMain _) (fun i hpos hi hsit=>?_) (.refl s') (by simp) (.refl _ w')
   ·rw [hD,hw] at hr2
    have hperm:vs.Perm (s2.val i :: pendL { s2 with K:=upd s2.K i (.leave q) } gs'.size):=by
     refine hpend.symm.trans ?_
     rw [← hL2.pend]
     exact pend_meet hi
    exact k3 _ _ hperm w2 hr2 _ gs2 sl2 t2 w2 (.refl _ w2) hp2 (by show s2.D 0=_;rw [hL2.D,hD]) (by show s2.wr 0=_;rw [hL2.wr0,hw]) (by rw [hn2])
   · -- else it would be a partner
    have hw2:=hp'.old i gs'[i] hpos (Array.getElem?_eq_getElem hi)
    unfold WkOk at hw2
    rw [hsit] at hw2
    obtain ⟨g₂,z2,e,_⟩:=hw2
    have:(i,0)∈partners (gs'.setIfInBounds 0 ph) c true:=mem_partners.2 ⟨gs'[i],by rw [Array.getElem?_setIfInBounds_ne (by omega)];exact Array.getElem?_eq_getElem hi,by rw [e,offersAt_parked_send];simp⟩
    rw [hpn] at this
    cases this
 ·obtain ⟨j,gj,vj,zj,shj,d,hj0,hgj,hrun⟩:=crowd_recv_meets_some (P:=P) (sl:=sl') hp'.zero hst hk hpn (fun j k hjk=>by
   obtain ⟨x1,x2,_,g₂,z2,x4,_⟩:=send_partner hp' j k hjk
   exact ⟨x1,by omega,g₂,_,z2,_,x4⟩)
  have hpos:0 < j:=by omega
  have hwj:=hp'.old j _ hpos hgj
  have hjlt:=(Array.getElem?_eq_some_iff.1 hgj).1
  have hact:s'.act gs'.size j∧vj=s'.val j∧shj=.send∧∃ q,QuitsD P q 0 (Conc.served gj undef):=by
   unfold WkOk at hwj
   cases hK:s'.K j with
   | leave q =>
    rw [hK] at hwj
    rcases QuitsD.status hwj with hs | hs <;> cases hs
   | work τ =>
    rw [hK] at hwj
    obtain ⟨fr,mine,e,_⟩:=hwj
    have:=congrArg (·.status) e
    cases this
   | sit =>
    rw [hK] at hwj
    obtain ⟨g₂,z2,e,q,hq⟩:=hwj
    refine ⟨⟨hpos,hjlt,by rw [hK];rfl⟩,?_,?_,q,by rw [served_parked e];exact hq⟩
    all_goals simp only [parked,Goroutine.mk.injEq,Option.some.injEq,Prod.mk.injEq] at e
    ·have e2:=e.2.2.2.2.1
     simp [scase] at e2
     exact e2.1
    ·exact e.2.2.2.2.2
  obtain ⟨hact,rfl,rfl,q,hq⟩:=hact
  refine ⟨_,_,_,hrun,?_⟩
  have hmet:=hl.met (j:=j) (a':=Conc.served a₂ (s'.val j)) (g':=Conc.served gj undef) (q:=q) (k:=k) (cap:=0) hact hq gj.frame.fn gj.frame.place a₂.frame.fn a₂.frame.place (k+1)
   ((gs'.setIfInBounds j (Conc.served gj undef)).setIfInBounds 0 (Conc.served a₂ (s'.val j))) (by simp) (by simp [hlt]) (by rw [Array.getElem?_setIfInBounds_ne (Ne.symm hj0)];simp [hjlt])
   (fun x hx0 hxj=>by rw [Array.getElem?_setIfInBounds_ne (Ne.symm hx0),Array.getElem?_setIfInBounds_ne (Ne.symm hxj)]) d _ rfl
  rw [Array.append_assoc] at hmet
  have hr2:RelyW c (orS D0 wr0) w' ((w'.at d).setChan c 0 #[] false (k+1) (k+1) false):=by
   refine ⟨by show w'.heap.size≤(w'.heap.setIfInBounds c _).size;simp,fun b _=>?_,rfl,rfl,rfl⟩
   by_cases e:b=c
   ·subst e
    refine .inr ⟨rfl,_,.chan 0 #[] false (k+1) (k+1) false,hk,?_,rfl,rfl⟩
    show (w'.heap.setIfInBounds b _)[b]? = _
    rw [Array.getElem?_setIfInBounds_self_of_lt (Array.getElem?_eq_some_iff.1 hk).1]
   ·refine .inl ?_
    show (w'.heap.setIfInBounds c _)[b]? = _
    rw [Array.getElem?_setIfInBounds_ne (Ne.symm e)]
  exact k3 _ _ (hpend.symm.trans (pend_meet (q:=q) hact)) _ hr2 _ _ _ _ _ (.refl _ _) hmet hD hw (by rw [Array.size_setIfInBounds,Array.size_setIfInBounds])
theorem toB_phase {QB:Goroutine→World→Prop} (hheap:HeapOk OC w) (hch:∃ k,w.heap[c]? = some (.chan 0 #[] false k k false)) (hnc:¬ wr0 c) (hlow:∀ b,D0 b∨wr0 b→b < w.heap.size)
  (h:ToC P c D0 wr0 [] a w Q) (hQ:∀ D wr vs a w,Q D wr vs a w→HeapOk OC w→vs=[]∧QB a w):ToB P a w QB:=by
 intro gs sl t d hc
 obtain ⟨h0,⟨q,hL⟩,hP⟩:=hc
 let s:Sit:={ K:=fun i=>.leave (q i),D:=fun _=>D0,wr:=fun _=>wr0,val:=fun _=>undef }
 have hact:∀ g,¬ s.act gs.size g:=fun g h=>by cases h.2.2
 have hpc:PhC P c s gs a (w.at d) t:=by
  refine ⟨h0,fun i g hi hg=>hL.old i g hi hg,hL.above,hch,fun _ _=>hnc,hheap,?_⟩
  have e:s.act gs.size=fun _=>False:=by funext g;exact propext ⟨fun h=>(hact g h).elim,fun h=>h.elim⟩
  rw [e]
  exact PhT.ofPast hP _ _ hlow
 have hnil:pendL s gs.size=[]:=by
  unfold pendL
  rw [List.map_eq_nil_iff,List.filter_eq_nil_iff]
  intro i hi hb
  simp only [Bool.and_eq_true,decide_eq_true_eq] at hb
  cases hb.2
 obtain ⟨N,s',gs',a',w',sl',t',k1,k2,vs',k3,k4⟩:=h s gs sl t (w.at d) (.at _ w d) hpc rfl rfl (by rw [hnil])
 obtain ⟨rfl,k5⟩:=hQ _ _ _ _ _ k4 k2.heap
 have hnil':pendL s' gs'.size=[]:=k3.eq_nil
 have hleave:∀ i,0 < i→i < gs'.size→(s'.K i).busy=false:=by
  intro i h1 h2
  cases hb:(s'.K i).busy with
  | false=>rfl
  | true =>
   unfold pendL at hnil'
   rw [List.map_eq_nil_iff,List.filter_eq_nil_iff] at hnil'
   have:=hnil' i (List.mem_range.2 h2)
   simp [h1,hb] at this
 refine ⟨N,gs',a',w',sl',t',k1,⟨k2.zero,⟨fun i=>(match s'.K i with | .leave q=>q | _=>0),fun i g hi hg=>?_,k2.above⟩,k2.tr.toPast fun g hg=>?_⟩,k5⟩
 ·have hw:=k2.old i g hi hg
  have hb:=hleave i hi (Array.getElem?_eq_some_iff.1 hg).1
  unfold WkOk at hw
  cases hK:s'.K i with
  | leave q=>rw [hK] at hw;exact hw
  | work τ=>rw [hK] at hb;cases hb
  | sit=>rw [hK] at hb;cases hb
 ·have:=hleave g hg.1 hg.2.1
  rw [hg.2.2] at this
  cases this
end
end Go.Ph
namespace Go.Proofs.YtjjmefieegcddaaDoor
open Go Go.Sr Go.Ph Go.Tm
instance wfns:Fns:=⟨fun f=>[123,124,125,126,127,133].contains f⟩
theorem sokC:SokC Tryd.prog:=by
 intro f hf
 have h:f=123∨f=124∨f=125∨f=126∨f=127∨f=133:=by
  have:[123,124,125,126,127,133].contains f=true:=hf
  simpa using this
 rcases h with rfl | rfl | rfl | rfl | rfl | rfl
 ·exact ⟨Tryd.f123,_,Tryd.func123,rfl,by kernel_rfl,by decide,by kernel_rfl⟩
 ·exact ⟨Tryd.f124,_,Tryd.func124,rfl,by kernel_rfl,by decide,by kernel_rfl⟩
 ·exact ⟨Tryd.f125,_,Tryd.func125,rfl,by kernel_rfl,by decide,by kernel_rfl⟩
 ·exact ⟨Tryd.f126,_,Tryd.func126,rfl,by kernel_rfl,by decide,by kernel_rfl⟩
 ·exact ⟨Tryd.f127,_,Tryd.func127,rfl,by kernel_rfl,by decide,by kernel_rfl⟩
 ·exact ⟨Tryd.f133,_,Tryd.func133,rfl,by kernel_rfl,by decide,by kernel_rfl⟩
end Go.Proofs.YtjjmefieegcddaaDoor
namespace Go.Ph
open Go
open Go.Tm
open Go.Sr
open Go.Conc
def frzO:Obj→Obj
 | .cells c t _=>.cells c t (0,c.size)
 | o=>o
def frzW (D:List Nat) (w:World):World:={ w with heap:=w.heap.mapIdx fun b o=>if b∈D then frzO o else o }
def inL (D:List Nat):Nat→Prop:=fun b=>b∈D
def idR (D:List Nat):BR:=fun b b'=>b'=b∧b∈D
section
variable {P:Program} {D:List Nat} {w:World}
theorem frzW_get (D:List Nat) (w:World) (b:Nat):(frzW D w).heap[b]? = (w.heap[b]?).map fun o=>if b∈D then frzO o else o:=by
 simp [frzW]
theorem frzW_size (D:List Nat) (w:World):(frzW D w).heap.size=w.heap.size:=by simp [frzW]
theorem frz_heapOk (h:HeapOk OC w):HeapOk OC (frzW D w):=by
 intro i o ho
 rw [frzW_get] at ho
 cases hw:w.heap[i]? with
 | none=>rw [hw] at ho;cases ho
 | some x =>
  rw [hw] at ho
  have:=h i x hw
  replace ho:(if i∈D then frzO x else x)=o:=by simpa using ho
  split at ho
  ·subst ho;cases x <;> exact this
  ·subst ho;exact this
theorem frz_rel [Fns] {N:Nat} (hN:∀ b∈D,N≤b) (hlt:N≤w.heap.size)
  (hobj:∀ b∈D,(∃ c t,w.heap[b]? = some (.cells c t (0,0))∧∀ v∈c,VR1 (idR D) v v)∨∃ o,w.heap[b]? = some o∧isCh o=true):WR N (idR D) (inL D) (frzW D w) w:=by
 refine ⟨?_,?_,?_,?_,?_,rfl,rfl,?_,by rw [frzW_size];exact hlt,hlt⟩
 ·rintro b _ ⟨rfl,hb⟩
  rcases hobj _ hb with ⟨c,t,h1,h2⟩ | ⟨o,h1,h2⟩
  ·refine ⟨.cells c t (0,c.size),.cells c t (0,0),?_,h1,.inl ⟨c,c,t,(0,c.size),(0,0),rfl,rfl,⟨rfl,fun i v hv=>⟨v,hv,h2 v (Array.mem_of_getElem? hv)⟩⟩,fun _=>rfl,fun h=>(h hb).elim⟩⟩
   rw [frzW_get,h1]
   simp [hb,frzO]
  ·refine ⟨o,o,?_,h1,.inr (.inr ⟨hb,h2,h2⟩)⟩
   rw [frzW_get,h1]
   cases o <;> first | (cases h2;done) | (simp only [Option.map_some];split <;> rfl)
 ·rintro b b1 b2 ⟨rfl,_⟩ ⟨rfl,_⟩
  rfl
 ·rintro b1 b2 b ⟨h1,_⟩ ⟨h2,_⟩
  exact h1.symm.trans h2
 ·rintro b b' ⟨rfl,_⟩ _
  rfl
 ·rintro b b' ⟨rfl,h⟩
  exact ⟨hN _ h,hN _ h⟩
 ·intro b hb
  rw [frzW_size]
  rcases hobj b hb with ⟨c,t,h1,_⟩ | ⟨o,h1,_⟩ <;> exact (Array.getElem?_eq_some_iff.1 h1).1
theorem own_idR (D:List Nat):own (inL D) (idR D)=fun _=>False:=by
 funext b
 refine propext ⟨fun ⟨x,h1,h2⟩=>h2 h1.2,fun h=>h.elim⟩
theorem todo_default:(default:Frame).todo=[]:=rfl
def bornFr (P:Program) (ds:List Deferred):Frame:={ (default:Frame) with fn:=P.funcs.size,defers:=ds,mode:=.panicking [goexitEntry] }
theorem born_enter {f:FuncId} {fn:Func} {c:Code} {args caps:Array Value} (hf:P.funcs[f]? = some fn) (hname:(fn.name == "runtime.NumGoroutine")=false) (hb:fn.body=some c) (main:Bool) (cs:List Frame) (w:World) :
  stepG P main (G (bornFr P [{ target:=.fn (.func f) caps,args:=args }]) ([] ++ cs)) w=.go (G (Frame.enter P f (args ++ caps) .deferred) ([bornFr P []] ++ cs)) w #[]:=by
 have h1:¬ fn.name = "runtime.NumGoroutine" := by simpa using hname
 simp [G,stepG,unwind,callDeferred,bornFr,invoke,callFunc,hf,h1,hb,GStep.after,seen_none]
theorem born_quits:QuitsD P 1 0 (G (bornFr P []) []):=by
 refine .inr ⟨rfl,{ G (bornFr P []) [] with status:=.finished },#[],by simp,fun w=>?_,rfl,rfl⟩
 simp [G,stepG,unwind,bornFr,Frame.catches,goexitEntry,todo_default]
theorem quits_last {b:Frame} {a:Act} {todo:List Item} {fn:Func} (hk:b.kind=.normal∨b.kind=.deferred) (hd:a.defers=[]) (hf:P.funcs[b.fn]? = some fn) (hr:fn.results=#[]) :
  QuitsD P 2 0 (G { b.at a todo with mode:=.returning } [bornFr P []]):=by
 refine .ctl rfl (fun w=>?_) born_quits
 have h1:=results_none hr a.tmps P w
 have h2:=events_results_none (P:=P) (w:=w) hr a.tmps #[]
 rcases hk with hk | hk <;> simp [G,stepG,unwind,doReturn,Frame.at,hk,hd,hf,h1,h2,bornFr,Frame.finish,goexitEntry,seen,GStep.after,todo_default]
theorem atSend_of {b:Frame} {a:Act} {fn:Func} {ops:Array Oper} {i:Nat} {o:Oper} {x y:Operand} {c:Nat} {v:Value} {DD wr:Nat→Prop} (ho:ops[i]? = some o) (hw:Region.wanted o (yielded ops a.tmps)=true) (hop:o.op=.send x y)
  (hx:a.eval x=.chan (some c)) (hy:a.eval y=v) (hk:b.kind=.normal∨b.kind=.deferred) (hd:a.defers=[]) (hf:P.funcs[b.fn]? = some fn) (hr:fn.results=#[]) :
  AtSend P c v DD wr (b.at a [.inRegion ops [i]]) [bornFr P []] w:=by
 have hrun:(execOp a.eval o).run P w=.ok (.comm #[scase c v (.tuple #[])] true .send) w:=by
  unfold execOp
  simp [hop,hx,hy,scase]
 have hev:(execOp a.eval o).events P w #[]=#[]:=by
  unfold execOp
  simp [hop]
 have hk':b.kind≠.early:=by rcases hk with h | h <;> rw [h] <;> decide
 refine ⟨_,.tuple #[],_,stepG_comm ho hw hk' hrun,fun e he=>?_,4,?_⟩
 ·unfold listed at he
  rw [hev,seen_none] at he
  simp at he
 ·have hfin:(b.at a (.inRegion ops [i] :: [])).finish undef=b.at (a.put o.dst undef) (.inRegion ops [] :: []):=by rw [Frame.finish_at,ho];rfl
  have e:Conc.served (G (b.at a [.inRegion ops [i]]) [bornFr P []]) undef=G (b.at (a.put o.dst undef) [.inRegion ops []]) [bornFr P []]:=by
   simp only [Conc.served,G,hfin]
  rw [e]
  refine .ctl rfl (fun _=>stepG_region_end) (.ctl rfl (fun _=>stepG_end) (quits_last hk ?_ hf hr))
  unfold Act.put
  split <;> exact hd
end
end Go.Ph
namespace Go.Proofs.YtjjmefieegcddaaDoor
open Go.RowKit Go.Wg Go.Mm Go.Wk
open Go Go.Sr Go.Ph Go.Tm Go.Conc
variable {w:World} {V:View}
theorem cel_cells {V V':View} {p:Nat} {k:Wk} {ts:List Nat} {vv rv:Value} (h:Cel V p k ts vv rv) (hV:∀ b i v,V.Cell b i v→V'.Cell b i v):Cel V' p k ts vv rv:=by
 have rg:∀ {b i vs},V.Range b i vs→V'.Range b i vs:=fun h j v hj=>hV _ _ _ (h j v hj)
 have sl:∀ {v n sz get},VSl V v n sz get→VSl V' v n sz get:=fun ⟨a,cap,h1,h2,h3,h4⟩ =>
  ⟨a,cap,h1,h2,h3,fun hn=>by obtain ⟨g,off,h5,h6⟩:=h4 hn;exact ⟨g,off,h5,fun i hi=>rg (h6 i hi)⟩⟩
 obtain ⟨g,cap,h2,h3⟩:=h.c2
 exact ⟨hV _ _ _ h.c0,hV _ _ _ h.c1,⟨g,cap,hV _ _ _ h2,fun i hi=>hV _ _ _ (h3 i hi)⟩,sl h.ves,sl h.rdg,fun i hi=>rg (h.tun i hi),fun i hi=>by obtain ⟨v,h1,h2⟩:=h.fil i hi;exact ⟨v,hV _ _ _ h1,sl h2⟩,h.pos,h.le⟩
def frzV (V:View) (D:List Nat):View:=fun b=>if b∈D then (V b).map frzO else none
theorem frzV_in {D:List Nat} (h:V.In w):(frzV V D).In (frzW D w):=fun b o hb=>by
 unfold frzV at hb
 split at hb
 ·rename_i hm
  cases hv:V b with
  | none=>rw [hv] at hb;cases hb
  | some x =>
   rw [hv] at hb
   rw [frzW_get,h b x hv]
   simpa [hm] using hb
 ·cases hb
theorem frzV_cell {D:List Nat} {b i:Nat} {v:Value} (hb:b∈D) (h:V.Cell b i v):(frzV V D).Cell b i v:=by
 obtain ⟨cs,t,fr,h1,h2⟩:=h
 exact ⟨cs,t,(0,cs.size),by simp [frzV,hb,h1,frzO],h2⟩
theorem keep_frz {D E:List Nat} (hE:∀ b∈D,b∈E) {b i:Nat} {v:Value} (h:(keepD V D).Cell b i v):(frzV V E).Cell b i v:=by
 obtain ⟨cs,t,fr,h1,h2⟩:=h
 unfold keepD at h1
 split at h1
 ·rename_i hm
  exact frzV_cell (hE b hm) ⟨cs,t,fr,h1,h2⟩
 ·cases h1
theorem stC_flat (s:SS) (v:Value) (h:v∈stC s):flat0 v=true:=by
 unfold stC limC losC at h
 simp only [List.mem_append,List.mem_map,List.mem_flatMap] at h
 rcases h with ⟨m,_,rfl⟩ | ⟨q,_,h⟩
 ·rfl
 ·simp only [List.mem_cons,List.not_mem_nil,or_false] at h
  rcases h with rfl | rfl <;> rfl
theorem flat_of0 {v:Value} (h:flat0 v=true):Sr.flat v=true:=by
 unfold flat0 at h
 split at h <;> first | rfl | cases h
theorem vr1_self {D E:List Nat} (hE:∀ b∈D,b∈E) {v:Value} (h:inD D v):VR1 (idR E) v v:=by
 rcases h with h | ⟨b,o,rfl,hb⟩ | ⟨b,o,n,c,rfl,hb⟩
 ·exact .base (.flat (flat_of0 h))
 ·exact .base (.ptr ⟨⟨rfl,hE b hb⟩,rfl,rfl⟩)
 ·exact .base (.slice ⟨⟨rfl,hE b hb⟩,rfl,rfl⟩)
theorem vr_span {R:BR} {x:Int × Int} {v:Value} (h:VR R (spanV x) v):v=spanV x:=by
 unfold spanV at h ⊢
 cases h with
 | base h =>
  cases h with
  | base h =>
   cases h with
   | flat h=>cases h
 | agg hsz h =>
  rename_i c'
  have hi:∀ (u u':Value),Sr.flat u=true→VR1 R u u'→u'=u:=by
   intro u u' hu h
   cases h with
   | base h =>
    cases h with
    | flat _=>rfl
    | ptr _=>cases hu
    | slice _=>cases hu
    | chan _=>cases hu
   | func _ _ _ _ _=>cases hu
  simp only [List.size_toArray,List.length_cons,List.length_nil] at hsz
  congr 1
  apply Array.ext
  ·simpa using hsz
  ·intro j h1 h2
   simp only [List.size_toArray,List.length_cons,List.length_nil] at h2
   have hj:j=0∨j=1:=by omega
   rcases hj with rfl | rfl
   ·exact hi _ _ rfl (h 0 _ _ rfl (Array.getElem?_eq_getElem h1))
   ·exact hi _ _ rfl (h 1 _ _ rfl (Array.getElem?_eq_getElem h1))
theorem vr_chan {D:Nat→Prop} {R:BR} {G:Nat} {wl wa:World} (hw:WR G R D wl wa) {c:Nat} (hc:D c) {v:Value} (h:VR R (.chan (some c)) v):v=.chan (some c):=by
 cases h with
 | base h =>
  cases h with
  | base h =>
   cases h with
   | flat h=>cases h
   | chan h=>rw [hw.old _ _ h hc]
theorem enter_rel {f:FuncId} (hf:Fns.ok f=true) {D:List Nat} {args:Array Value} (ha:∀ v∈args,VR (idR D) v v):StkR Tryd.prog .deferred (idR D) (Frame.enter Tryd.prog f args .normal) [] (Frame.enter Tryd.prog f args .deferred) []:=by
 obtain ⟨fn,c,h1,h2,h3,h4,h5⟩:=sokC f hf
 have hE:Frame.enter Tryd.prog f args .normal=(base f).at { tmps:=args ++ Array.replicate (fn.ntmps - args.size) undef,defers:=[] } [.code c]:=enter_at args h1 h2
 have hE':Frame.enter Tryd.prog f args .deferred=(baseD f).at { tmps:=args ++ Array.replicate (fn.ntmps - args.size) undef,defers:=[] } [.code c]:=enter_atD args h1 h2
 rw [hE,hE']
 refine ⟨⟨rfl,⟨rfl,fun i v hv=>⟨v,hv,?_⟩⟩,rfl,fun x hx=>?_,rfl,rfl,rfl,.inl rfl,.inr rfl,.inl rfl,rfl,rfl,fun fn' hfn=>?_⟩,rfl⟩
 ·have hm:=Array.mem_of_getElem? hv
  rcases Array.mem_append.1 hm with h | h
  ·exact ha v h
  ·have:=(Array.mem_replicate.1 h).2
   subst this
   exact .of_flat rfl
 ·have:x=.code c:=by simpa [Frame.at] using hx
  subst this
  exact h3
 ·have:Tryd.prog.funcs[f]? = some fn':=hfn
  rw [h1] at this
  cases this
  exact h4
set_option maxHeartbeats 1000000 in
theorem worker_wt (p:Nat) (k:Wk) (ts:List Nat) (vv rv:Value) (hC:Cel V p k ts vv rv) (hok:k.Ok) (s:SS) (hs:s.WF) (hlo:∀ i,0≤(s.losAt i).1) (hhi:∀ i,(s.losAt i).2≤1000) (st:Bool) (i:Nat) (hi:i < k.n)
  (D:List Nat) (hD:Closed V D) (hp:p∈D) (bt bs bst bf c:Nat) {t1 t2 t3 t4:TypeId} (h1:V bt=some (.cells #[ptr (ts.getD i 0)] t1 (0,0))) (h2:V bs=some (.cells (stC s).toArray t2 (0,0)))
  (h3:V bst=some (.cells #[.bool st] t3 (0,0))) (h4:V bf=some (.cells #[.chan (some c)] t4 (0,0))) (hc:∃ o,w.heap[c]? = some o∧isCh o=true)
  (hg:Wg.gN≤bt∧Wg.gN≤bs∧Wg.gN≤bst∧Wg.gN≤bf∧Wg.gN≤c) (hV:V.In w) (hh:HeapOk OC w) :
  WT Tryd.prog c (inL (bt :: bs :: bst :: bf :: c :: D)) (AtSend Tryd.prog c (spanV (foundS k s st i)) (inL (bt :: bs :: bst :: bf :: c :: D))) (fun _=>False)
   (bornFr Tryd.prog [{ target:=.fn (.func 123) #[ptr bt,ptr bs,ptr bst,ptr bf],args:=#[] }]) [] w:=by
 obtain ⟨DD,hDD⟩:∃ DD,bt :: bs :: bst :: bf :: c :: D=DD:=⟨_,rfl⟩
 rw [hDD]
 have mt:bt∈DD:=by subst hDD;simp
 have ms:bs∈DD:=by subst hDD;simp
 have mst:bst∈DD:=by subst hDD;simp
 have mf:bf∈DD:=by subst hDD;simp
 have mc:c∈DD:=by subst hDD;simp
 have mD:∀ b∈D,b∈DD:=fun b hb=>by subst hDD;simp [hb]
 obtain ⟨hCk,htk⟩:=hC.keep hD hp
 have hCF:Cel (frzV V DD) p k ts vv rv:=cel_cells hCk fun b i v h=>keep_frz mD h
 have hInF:(frzV V DD).In (frzW DD w):=frzV_in hV
 have hN:∀ b∈DD,Tryd.prog.globals.size≤b:=by
  subst hDD
  intro b hb
  simp only [List.mem_cons] at hb
  rcases hb with rfl | rfl | rfl | rfl | rfl | hb
  ·exact hg.1
  ·exact hg.2.1
  ·exact hg.2.2.1
  ·exact hg.2.2.2.1
  ·exact hg.2.2.2.2
  ·exact hD.ge b hb
 have hlt:Tryd.prog.globals.size≤w.heap.size:=by
  have:=lt_of_heap (hV _ _ h1)
  exact Nat.le_of_lt (Nat.lt_of_le_of_lt hg.1 this)
 have hrel:WR Tryd.prog.globals.size (idR DD) (inL DD) (frzW DD w) w:=by
  refine frz_rel hN hlt fun b hb=>?_
  rw [← hDD] at hb
  simp only [List.mem_cons] at hb
  rcases hb with rfl | rfl | rfl | rfl | rfl | hb
  ·refine .inl ⟨_,_,hV _ _ h1,fun v hv=>?_⟩
   have:v=ptr (ts.getD i 0):=by simpa using hv
   subst this
   exact vr1_self mD (.inr (.inl ⟨_,_,rfl,htk i hi⟩))
  ·refine .inl ⟨_,_,hV _ _ h2,fun v hv=>?_⟩
   refine vr1_self mD (.inl ?_)
   have hv':v∈stC s:=by simpa using hv
   exact stC_flat s v hv'
  ·refine .inl ⟨_,_,hV _ _ h3,fun v hv=>?_⟩
   have:v=.bool st:=by simpa using hv
   subst this
   exact .base (.flat rfl)
  ·refine .inl ⟨_,_,hV _ _ h4,fun v hv=>?_⟩
   have:v=.chan (some c):=by simpa using hv
   subst this
   exact .base (.chan ⟨rfl,mc⟩)
  ·exact .inr hc
  ·obtain ⟨cs,t,hb1,hb2⟩:=hD.cells b hb
   exact .inl ⟨cs,t,hV _ _ hb1,fun v hv=>vr1_self mD (hb2 v hv)⟩
 obtain ⟨fn,cb,hf1,hf2,_,hf4,hf5⟩:=sokC 123 rfl
 have hres:Tryd.f123.results=#[]:=by kernel_rfl
 rw [Tryd.func123] at hf1
 cases hf1
 let args:Array Value:=#[ptr bt,ptr bs,ptr bst,ptr bf]
 let Stop:Frame→List Frame→World→Prop:=fun fr mine _=>mine=[]∧∃ a':Act,fr=(Frame.enter Tryd.prog 123 args .normal).at a' [.inRegion sendOps [2]]∧a'.defers=[]∧a'.tmps.toList[40]? = some (.chan (some c))∧a'.tmps.toList[41]? = some (spanV (foundS k s st i))
 refine .step fun w1 hr1=>⟨Frame.enter Tryd.prog 123 (#[] ++ args) .deferred,[bornFr Tryd.prog []],w1,#[],fun _=>False,fun main cs=>born_enter Tryd.func123 hf5 hf2 main cs w1,by simp,.refl _ w1,.refl _ w1,?_⟩
 have e0:(#[] ++ args:Array Value)=args:=by simp
 rw [e0]
 have hr1':RelyW c (orS (inL DD) (own (inL DD) (idR DD))) w w1:=by rw [own_idR];exact hr1
 have hw1:=wr_rely hrel hr1'
 have hwt:=wt_of_lone (P:=Tryd.prog) (K:=.deferred) (ch:=c) (D:=inL DD) (R:=idR DD) (f0:=123) (Stop:=Stop) sokC sokAll (fun fr mine w τ d _ h=>h) (fun fr mine w h=>by obtain ⟨_,a',rfl,_⟩:=h;exact .inl rfl)
  (fr:=Frame.enter Tryd.prog 123 args .normal) (fra:=Frame.enter Tryd.prog 123 args .deferred) (mine:=[]) (minea:=[]) (stk_enter sokAll trivial args)
  (enter_rel rfl fun v hv=>by
   have:v=ptr bt∨v=ptr bs∨v=ptr bst∨v=ptr bf:=by simpa [args] using hv
   rcases this with rfl | rfl | rfl | rfl
   ·exact .base (.base (.ptr ⟨⟨rfl,mt⟩,rfl,rfl⟩))
   ·exact .base (.base (.ptr ⟨⟨rfl,ms⟩,rfl,rfl⟩))
   ·exact .base (.base (.ptr ⟨⟨rfl,mst⟩,rfl,rfl⟩))
   ·exact .base (.base (.ptr ⟨⟨rfl,mf⟩,rfl,rfl⟩)))
  hw1 (frz_heapOk (w:=w) hh) (fun τ d=>by
   have hcell:∀ {b:Nat} {v:Value} {t:TypeId},b∈DD→V b=some (.cells #[v] t (0,0))→(frzV V DD).Cell b 0 v:=fun hb h=>frzV_cell hb ⟨_,_,_,h,rfl⟩
   have hrg:(frzV V DD).Range bs 0 (stC s):=fun j v hj=>frzV_cell ms ⟨_,_,_,h2,by rw [Nat.zero_add];simpa using hj⟩
   obtain ⟨a',w',⟨q1,q2,q3,_⟩,q4⟩:=found_reach (w:=(frzW DD w).re τ d) p k ts vv rv hCF hok s hs hlo hhi st i hi bt bs bst bf c (hcell mt h1) hrg (hcell mst h3) (hcell mf h4) hInF [floor Tryd.prog]
   exact ⟨_,[],w',⟨rfl,a',rfl,q1,q2,q3⟩,q4⟩)
 have hwt2:=hwt.below [bornFr Tryd.prog []]
 rw [own_idR] at hwt2
 refine hwt2.mono fun wr fr mine w2 ⟨m,hm,hst⟩=>?_
 subst hm
 obtain ⟨R',frl,minel,wl2,hwr,hle,⟨hml,a',hfrl,hdf,h40,h41⟩,_,hstk,hw2⟩:=hst
 subst hml
 cases m with
 | cons x m=>exact hstk.elim
 | nil =>
  have hF:FrR Tryd.prog R' frl fr:=hstk.1
  have hfn:fr.fn=123:=by rw [hF.fn,hfrl];rfl
  have htodo:fr.todo=[.inRegion sendOps [2]]:=by rw [hF.todo,hfrl];rfl
  have hmode:fr.mode=.run:=by rw [hF.mode,hfrl];rfl
  have htm:frl.tmps=a'.tmps:=by rw [hfrl];rfl
  have hfr:fr=fr.at ⟨fr.tmps,[]⟩ [.inRegion sendOps [2]]:=by
   have h1:=hF.defers'
   have h2:=hF.round'
   cases fr
   simp_all [Frame.at]
  obtain ⟨v40,h40',r40⟩:=hF.tmps.2 40 (.chan (some c)) (by rw [htm];simpa using h40)
  obtain ⟨v41,h41',r41⟩:=hF.tmps.2 41 (spanV (foundS k s st i)) (by rw [htm];simpa using h41)
  have e40:=vr_chan hw2 mc r40
  have e41:=vr_span r41
  subst e40
  subst e41
  rw [hfr]
  refine atSend_of (i:=2) (o:=sendOps[2]!) (x:=.tmp 40) (y:=.tmp 41) rfl rfl rfl ?_ ?_ hF.kind rfl (fn:=Tryd.f123) (by rw [hfn];exact Tryd.func123) hres
  ·show fr.tmps.getD 40 undef=_
   rw [Array.getD_eq_getD_getElem?,h40']
   rfl
  ·show fr.tmps.getD 41 undef=_
   rw [Array.getD_eq_getD_getElem?,h41']
   rfl
end Go.Proofs.YtjjmefieegcddaaDoor
