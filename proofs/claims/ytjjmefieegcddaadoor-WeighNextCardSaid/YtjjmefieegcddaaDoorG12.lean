/- A part of the proof: T17, T18, W30, T19, W31, T20, V7, T21, T22, W32, W33, W34, T23, W35. -/
import Derived.Test.YtjjmefieegcddaaDoorG11
import Derived.Conc.Own2
import Derived.Test.YtjjmefieegcddaaDoorG04
import Derived.Test.YtjjmefieegcddaaDoorG02
import Derived.Test.YtjjmefieegcddaaDoorG07
set_option linter.unusedVariables false
set_option linter.unusedSimpArgs false
set_option maxHeartbeats 8000000
set_option maxRecDepth 20000
namespace Go.Ph
open Go
open Go.Tm
open Go.Sr
open Go.Conc
open Go.ConcN (upd upd_same upd_ne)
structure Like (s s':Sit):Prop where
 D:s'.D=s.D
 val:s'.val=s.val
 wr0:s'.wr 0=s.wr 0
 busy:∀ j,(s'.K j).busy=(s.K j).busy
theorem Like.refl (s:Sit):Like s s:=⟨rfl,rfl,rfl,fun _=>rfl⟩
theorem Like.trans {s s' s'':Sit} (h:Like s s') (h':Like s' s''):Like s s'':=⟨h'.D.trans h.D,h'.val.trans h.val,h'.wr0.trans h.wr0,fun j=>(h'.busy j).trans (h.busy j)⟩
def iM (s:Sit) (n:Nat):List Value:=((List.range n).filter fun i=>decide (0 < i) && (s.K i).busy).map s.val
theorem Like.pend {s s':Sit} (h:Like s s') (n:Nat):iM s' n=iM s n:=by
 unfold iM
 rw [h.val]
 congr 1
 apply List.filter_congr
 intro i _
 rw [h.busy i]
theorem rY (s:Sit) (n:Nat):iM s (n+1)=iM s n ++ (if 0 < n∧(s.K n).busy=true then [s.val n] else []):=by
 unfold iM
 rw [List.range_succ,List.filter_append,List.map_append]
 congr 1
 by_cases h:0 < n∧(s.K n).busy=true
 ·simp [h]
 ·rw [if_neg h]
  have:(decide (0 < n) && (s.K n).busy)=false:=by
   cases hb:(decide (0 < n) && (s.K n).busy) with
   | false=>rfl
   | true=>simp only [Bool.and_eq_true,decide_eq_true_eq] at hb;exact (h hb).elim
  simp [this]
theorem yj {s s':Sit} {n:Nat} (h:∀ i,i < n→(s'.K i).busy=(s.K i).busy∧s'.val i=s.val i):iM s' n=iM s n:=by
 induction n with
 | zero=>rfl
 | succ n ih =>
  rw [rY,rY,ih fun i hi=>h i (by omega),(h n (by omega)).1,(h n (by omega)).2]
theorem zT {s:Sit} {i q:Nat}:∀ {n:Nat},s.act n i→(iM s n).Perm (s.val i :: iM { s with K:=upd s.K i (.leave q) } n)
 | 0,h=>by have:=h.2.1;omega
 | n+1,h=>by
  rw [rY,rY]
  by_cases e:i=n
  ·subst e
   rw [if_pos ⟨h.1,h.2.2⟩]
   have h1:iM { s with K:=upd s.K i (.leave q) } i=iM s i:=yj fun j hj=>⟨by show (upd s.K i _ j).busy=_;rw [upd_ne _ _ (by omega)],rfl⟩
   have h2:¬ (0 < i∧(upd s.K i (WK.leave q) i).busy=true):=by rw [upd_same];simp [WK.busy]
   rw [if_neg h2,h1,List.append_nil]
   exact List.perm_append_singleton _ _
  ·have hlt:i < n:=by have:=h.2.1;omega
   have ih:=zT (q:=q) (n:=n) ⟨h.1,hlt,h.2.2⟩
   have h3:(upd s.K i (WK.leave q) n)=s.K n:=upd_ne _ _ (Ne.symm e)
   simp only [h3]
   exact (ih.append_right _)
section
variable {P:Program} {c:Nat}
def Out (P:Program) (c:Nat) (gs:Array Goroutine) (w:World) (sl:Option (Nat × Nat)) (t:Trace) (Q:Sit→Array Goroutine→Goroutine→World→Prop):Prop :=
 ∃ N s' gs' a' w' sl' t',runNT P N (crowd gs w sl) t=(.next (crowd gs' w' sl'),t')∧oV P c s' gs' a' w' t'∧Q s' gs' a' w'
theorem Out.step {gs gs':Array Goroutine} {w w':World} {sl sl':Option (Nat × Nat)} {t:Trace} {u:Array MemOp} {Q:Sit→Array Goroutine→Goroutine→World→Prop} (h:stepT P (crowd gs w sl)=(.next (crowd gs' w' sl'),u)) (ho:Out P c gs' w' sl' (t ++ u) Q) :
  Out P c gs w sl t Q:=by
 obtain ⟨N,s1,gs1,a1,w1,sl1,t1,h1,h2,h3⟩:=ho
 refine ⟨N+1,s1,gs1,a1,w1,sl1,t1,?_,h2,h3⟩
 simp only [runNT,h]
 exact h1
theorem BX {s:Sit} {gs:Array Goroutine} {a:Goroutine} {w:World} {t:Trace} (h:oV P c s gs a w t) (ha:a.status=.running) (i:Nat):partners (gs.setIfInBounds i ph) c false=[]:=by
 refine partners_nil fun j g hj=>?_
 rcases getElem?_stand gs i j g hj with ⟨_,rfl⟩ | ⟨_,hg⟩
 ·exact offersAt_ph _ _
 ·rcases Nat.eq_zero_or_pos j with rfl | hpos
  ·rw [h.zero] at hg
   cases hg
   exact offersAt_of_not_blocked (by rw [ha];simp) _ _
  ·have:=h.old j g hpos hg
   unfold qc at this
   cases hK:s.K j with
   | leave q =>
    rw [hK] at this
    have hs:=QuitsD.status this
    refine offersAt_of_not_blocked (fun e=>?_) _ _
    rcases hs with hs | hs <;> rw [e] at hs <;> cases hs
   | work τ =>
    rw [hK] at this
    obtain ⟨fr,mine,rfl,_⟩:=this
    exact offersAt_of_not_blocked (by simp [G]) _ _
   | sit =>
    rw [hK] at this
    obtain ⟨g₂,z,rfl,_⟩:=this
    exact offersAt_parked_send' _ _ _ _ _ _
theorem AA {s:Sit} {gs:Array Goroutine} {a₂:Goroutine} {z:Value} {w:World} {t:Trace} (h:oV P c s gs (parked a₂ #[rcase c z] (.recv false)) w t) {i:Nat} (hi:i≠0):partners (gs.setIfInBounds i ph) c false=[(0,0)]:=by
 have h0:(gs.setIfInBounds i ph)[0]? = some (parked a₂ #[rcase c z] (.recv false)):=by rw [Array.getElem?_setIfInBounds_ne hi];exact h.zero
 rw [partners_one h0 fun j g hj hg=>?_,offersAt_parked_recv]
 ·simp
 ·rcases getElem?_stand gs i j g hg with ⟨_,rfl⟩ | ⟨_,hg⟩
  ·exact offersAt_ph _ _
  ·have hpos:0 < j:=by omega
   have:=h.old j g hpos hg
   unfold qc at this
   cases hK:s.K j with
   | leave q =>
    rw [hK] at this
    have hs:=QuitsD.status this
    refine offersAt_of_not_blocked (fun e=>?_) _ _
    rcases hs with hs | hs <;> rw [e] at hs <;> cases hs
   | work τ =>
    rw [hK] at this
    obtain ⟨fr,mine,rfl,_⟩:=this
    exact offersAt_of_not_blocked (by simp [G]) _ _
   | sit =>
    rw [hK] at this
    obtain ⟨g₂,z,rfl,_⟩:=this
    exact offersAt_parked_send' _ _ _ _ _ _
theorem QG.parts {D:Nat→Prop} {Stop:vO} {τ:Tr} {wr:Nat→Prop} {fr:Frame} {mine:List Frame} {w:World} (h:QG P c D Stop τ wr fr mine w) :
  Stop wr fr mine w∨∃ τ',LZ (.work τ') (.work τ)∧BH P D wr (QG P c D Stop τ') fr mine w:=by
 cases τ with
 | leaf=>exact .inl (h w (.refl _ w))
 | node f =>
  rcases h w (.refl _ w) with h | h
  ·exact .inl h
  ·exact .inr ⟨_,.node f w,h⟩
theorem Eu {K:Nat→WK} {i:Nat} {x:WK} (h:x.busy=(K i).busy) (j:Nat):(upd K i x j).busy=(K j).busy:=by
 by_cases e:j=i
 ·subst e;rw [upd_same];exact h
 ·rw [upd_ne _ _ e]
theorem QZ {K:Nat→WK} {i:Nat} {x:WK} (h:x≠.sit) (j:Nat) (hj:upd K i x j=.sit):K j=.sit:=by
 by_cases e:j=i
 ·subst e;rw [upd_same] at hj;exact (h hj).elim
 ·rwa [upd_ne _ _ e] at hj
theorem wZ {a b:Goroutine} {cs cs':Array CommCase} {sh sh':CommShape} (h:parked a cs sh=parked b cs' sh') (v:Value):Conc.served a v=Conc.served b v:=by
 simp only [parked,Goroutine.mk.injEq] at h
 obtain ⟨e1,e2,_,e4,_⟩:=h
 cases a;cases b
 dsimp only at e1 e2 e4
 subst e1 e2 e4
 rfl
theorem D7 {s:Sit} {gs:Array Goroutine} {a g:Goroutine} {w:World} {sl:Option (Nat × Nat)} {t:Trace} (h:oV P c s gs a w t) (ha:Main c a) {i:Nat} (hi:0 < i) (hgi:gs[i]? = some g) (hrun:g.status=.running) :
  ∃ gs' w' u,runT P (crowd gs w sl) i=(.next (crowd gs' w' sl),u)∧gs'.size=gs.size∧dn c (sK (s.D 0) (s.wr 0)) w w' ∧
   ((∃ s',oV P c s' gs' a w' (t ++ u)∧Like s s'∧Dec gs.size s'.K s.K∧(a.status=.running∨∀ j,s'.K j=.sit→s.K j=.sit)) ∨
    (∃ a₂ z q,a=parked a₂ #[rcase c z] (.recv false)∧s.act gs.size i∧oV P c { s with K:=upd s.K i (.leave q) } gs' (Conc.served a₂ (s.val i)) w' (t ++ u))):=by
 have hi0:(i == 0)=false:=by simp;omega
 have hne:i≠0:=by omega
 have hlt:i < gs.size:=(Array.getElem?_eq_some_iff.1 hgi).1
 have hold:=h.old i g hi hgi
 unfold qc at hold
 cases hK:s.K i with
 | leave q =>
  rw [hK] at hold
  have hold':QuitsD P q (Deaf t i) g:=hold
  cases q with
  | zero=>rw [hold'.1] at hrun;cases hrun
  | succ q =>
   rcases hold' with ⟨hf,_⟩ | ⟨_,g',es,hm,hst,hq⟩
   ·rw [hf] at hrun;cases hrun
   refine ⟨_,_,_,runT_crowd_go hgi (by rw [hi0];exact hst w),by simp,.refl _ w,.inl ⟨{ s with K:=upd s.K i (.leave q) },h.slip hi hgi hK hm ha _ _ hq,⟨rfl,rfl,rfl,Eu (by rw [hK];rfl)⟩,⟨i,_,hlt,rfl,by rw [hK];exact .leave q⟩,.inr (QZ (by simp))⟩⟩
 | sit =>
  rw [hK] at hold
  obtain ⟨g₂,z,rfl,_⟩:=hold
  cases hrun
 | work τ =>
  rw [hK] at hold
  obtain ⟨fr,mine,rfl,hwt⟩:=hold
  have hact:s.act gs.size i:=⟨hi,hlt,by rw [hK];rfl⟩
  rcases hwt.parts with hstop | ⟨τ',hltτ,fr',mine',w',es,wr',hst,hev,hg,hgr,hk⟩
  ·obtain ⟨g₂,z,es,hst,hev,hq⟩:=hstop
   have hst':stepG P (i == 0) (G fr mine) w=.comm g₂ #[scase c (s.val i) z] true .send w es:=by rw [hi0];exact hst
   obtain ⟨k,hk⟩:=h.chan
   rcases ha with ha | ⟨a₂,z',rfl⟩
   ·have hp:=BX h ha i
    refine ⟨_,_,_,crowd_waits hgi hst' (fun cc hcc=>?_),by simp,.refl _ w,.inl ⟨{ s with K:=upd s.K i .sit },h.QL hact hgi hev hq _ _,⟨rfl,rfl,rfl,Eu (by rw [hK];rfl)⟩,⟨i,_,hlt,rfl,by rw [hK];exact .sit τ⟩,.inl ha⟩⟩
    simp only [List.mem_toArray,List.mem_singleton] at hcc
    subst hcc
    exact ways_send_none hk (Nat.zero_le _) hp
   ·have hp:=AA h hne
    have hrunT:=crowd_send_meets (P:=P) (sl:=sl) hgi hst' hk (j:=0) (gj:=a₂) (shj:=.recv false) (zj:=z') (by omega) h.zero hp
    obtain ⟨q,hq⟩:=hq
    have hown:=h.QL hact (g₂:=g₂) (z:=z) hgi hev ⟨q,hq⟩ (G fr mine).frame.fn (G fr mine).frame.place
    refine ⟨_,_,_,hrunT,by simp,?_,.inr ⟨a₂,z',q,rfl,hact,?_⟩⟩
    ·refine ⟨by show w.heap.size≤(w.heap.setIfInBounds c _).size;simp,fun b _=>?_,rfl,rfl,rfl⟩
     by_cases e:b=c
     ·subst e
      refine .inr ⟨rfl,_,.chan 0 #[] false (k+1) (k+1) false,hk,?_,rfl,rfl⟩
      show (w.heap.setIfInBounds b _)[b]? = _
      rw [Array.getElem?_setIfInBounds_self_of_lt (Array.getElem?_eq_some_iff.1 hk).1]
     ·refine .inl ?_
      show (w.heap.setIfInBounds c _)[b]? = _
      rw [Array.getElem?_setIfInBounds_ne (Ne.symm e)]
    ·have hmet:=hown.met (j:=i) (a':=Conc.served a₂ (s.val i)) (g':=Conc.served g₂ undef) (q:=q) (k:=k) (cap:=0)
      ⟨hi,by simpa using hlt,by show (upd s.K i WK.sit i).busy=true;rw [upd_same];rfl⟩ hq g₂.frame.fn g₂.frame.place a₂.frame.fn a₂.frame.place (k+1)
      ((gs.setIfInBounds 0 (Conc.served a₂ (s.val i))).setIfInBounds i (Conc.served g₂ undef)) (by simp) (by rw [Array.getElem?_setIfInBounds_ne hne];simp [h.lt]) (by simp [hlt])
      (fun x hx0 hxi=>by rw [Array.getElem?_setIfInBounds_ne (Ne.symm hxi),Array.getElem?_setIfInBounds_ne (Ne.symm hx0),Array.getElem?_setIfInBounds_ne (Ne.symm hxi)]) w.drawn _ rfl
     have eK:upd (upd s.K i WK.sit) i (WK.leave q)=upd s.K i (WK.leave q):=by
      funext x
      by_cases e:x=i
      ·subst e;rw [upd_same,upd_same]
      ·rw [upd_ne _ _ e,upd_ne _ _ e,upd_ne _ _ e]
     rw [Array.append_assoc] at hmet
     simp only [eK] at hmet
     exact hmet
  ·have hst':=hst false []
   simp only [List.append_nil] at hst'
   have hstep:=h.step (.inr hact) (g':=G fr' mine') (x:=.work τ') hgi (fun _=>rfl) hev hg hgr (fun _=>ha) (G fr mine).frame.fn (G fr mine).frame.place (fun _=>by
    unfold qc
    simp only [upd_same]
    exact ⟨fr',mine',rfl,hk⟩)
   simp only [hne,if_false] at hstep
   refine ⟨_,_,_,runT_crowd_go hgi (by rw [hi0];exact hst'),by simp,h.relied (.inr hact) (.inl rfl) hne hg,.inl ⟨_,hstep,⟨rfl,rfl,upd_ne _ _ (Ne.symm hne),Eu (by rw [hK];rfl)⟩,⟨i,_,hlt,rfl,by rw [hK];exact hltτ⟩,.inr (QZ (by simp))⟩⟩
theorem all_awake {s:Sit} {gs:Array Goroutine} {a:Goroutine} {w:World} {t:Trace} (h:oV P c s gs a w t) (ha:Main c a):∀ g∈gs,awake g:=by
 intro g hg
 obtain ⟨i,hi,rfl⟩:=Array.mem_iff_getElem.1 hg
 rcases Nat.eq_zero_or_pos i with rfl | hpos
 ·have:gs[0]=a:=by simpa [Array.getElem?_eq_getElem hi] using h.zero
  rw [this]
  rcases ha with ha | ⟨a₂,z,rfl⟩
  ·exact awake_of (.inl ha)
  ·exact awake_of (.inr (.inl rfl))
 ·have:=h.old i _ hpos (Array.getElem?_eq_getElem hi)
  unfold qc at this
  cases hK:s.K i with
  | leave q=>rw [hK] at this;exact awake_of ((QuitsD.status this).elim .inl fun x=>.inr (.inr x))
  | work τ=>rw [hK] at this;obtain ⟨fr,mine,e,_⟩:=this;rw [e];exact awake_of (.inl rfl)
  | sit=>rw [hK] at this;obtain ⟨g₂,z,e,_⟩:=this;rw [e];exact awake_of (.inr (.inl rfl))
theorem AY {a:Goroutine} (ha:a.status=.running) {Q:Sit→Array Goroutine→Goroutine→World→Prop} {s0:Sit} {n:Nat} {w0:World} (E:World→Prop)
  (he:∀ s gs w sl t,oV P c s gs a w t→Like s0 s→gs.size=n→dn c (sK (s0.D 0) (s0.wr 0)) w0 w→E w→Out P c gs w sl t Q)
  (hm:∀ s gs w sl t d,oV P c s gs a (w.at d) t→Like s0 s→gs.size=n→dn c (sK (s0.D 0) (s0.wr 0)) w0 (w.at d)→¬ E w→∃ gs' w' u,runT P (crowd gs (w.at d) sl) 0=(.next (crowd gs' w' sl),u)∧Out P c gs' w' sl (t ++ u) Q) :
  ∀ s gs w sl t,oV P c s gs a w t→Like s0 s→gs.size=n→dn c (sK (s0.D 0) (s0.wr 0)) w0 w→Out P c gs w sl t Q:=by
 have key:∀ K:Nat→WK,∀ s gs w sl t,s.K=K→oV P c s gs a w t→Like s0 s→gs.size=n→dn c (sK (s0.D 0) (s0.wr 0)) w0 w→Out P c gs w sl t Q:=by
  intro K
  induction K using (dec_wf n).induction with
  | _ K ih =>
   intro s gs w sl t hK h hL hn hr
   by_cases hE:E w
   ·exact he s gs w sl t h hL hn hr hE
   obtain ⟨i,g,d,sl',hi,hg,hst⟩:=crowd_pick (P:=P) (w:=w) (sl:=sl) (all_awake h (.inl ha)) ⟨0,a,h.zero,ha⟩
   rcases Nat.eq_zero_or_pos i with rfl | hpos
   ·obtain ⟨gs',w',u,h1,h2⟩:=hm s gs w sl' t d (h.at d) hL hn (hr.trans (.at _ w d)) hE
    exact .step (hst.trans h1) h2
   ·obtain ⟨gs',w',u,h1,h2,h3,h4⟩:=D7 (sl:=sl') (h.at d) (.inl ha) hpos hi hg
    rw [hL.D,hL.wr0] at h3
    rcases h4 with ⟨s',h5,h6,h7,_⟩ | ⟨a₂,z,q,h5,_⟩
    ·exact .step (hst.trans h1) (ih s'.K (by rw [← hK,← hn];exact h7) s' gs' w' sl' _ rfl h5 (hL.trans h6) (h2.trans hn) ((hr.trans (.at _ w d)).trans h3))
    ·rw [h5] at ha;cases ha
 exact fun s gs w sl t=>key s.K s gs w sl t rfl
theorem Fa {a:Goroutine} (ha:a.status=.running) {Q:Sit→Array Goroutine→Goroutine→World→Prop} {s0:Sit} {n:Nat} {w0:World}
  (hm:∀ s gs w sl t,oV P c s gs a w t→Like s0 s→gs.size=n→dn c (sK (s0.D 0) (s0.wr 0)) w0 w→∃ gs' w' u,runT P (crowd gs w sl) 0=(.next (crowd gs' w' sl),u)∧Out P c gs' w' sl (t ++ u) Q) :
  ∀ s gs w sl t,oV P c s gs a w t→Like s0 s→gs.size=n→dn c (sK (s0.D 0) (s0.wr 0)) w0 w→Out P c gs w sl t Q :=
 AY ha (fun _=>False) (fun _ _ _ _ _ _ _ _ _ h=>h.elim) fun s gs w sl t d h hL hn hr _=>hm s gs (w.at d) sl t h hL hn hr
theorem OT {a₂:Goroutine} {z:Value} {Q:Sit→Array Goroutine→Goroutine→World→Prop} {s0:Sit} {n:Nat} {w0:World} (hsome:∃ i,s0.act n i)
  (hm:∀ s i q gs w sl t,s.act n i→Like s0 s→gs.size=n→dn c (sK (s0.D 0) (s0.wr 0)) w0 w→oV P c { s with K:=upd s.K i (.leave q) } gs (Conc.served a₂ (s.val i)) w t→Out P c gs w sl t Q) :
  ∀ s gs w sl t,oV P c s gs (parked a₂ #[rcase c z] (.recv false)) w t→(∀ i,0 < i→i < n→s.K i≠.sit)→Like s0 s→gs.size=n→dn c (sK (s0.D 0) (s0.wr 0)) w0 w→Out P c gs w sl t Q:=by
 have ha:Main c (parked a₂ #[rcase c z] (.recv false)):=.inr ⟨a₂,z,rfl⟩
 have key:∀ K:Nat→WK,∀ s gs w sl t,s.K=K→oV P c s gs (parked a₂ #[rcase c z] (.recv false)) w t→(∀ i,0 < i→i < n→s.K i≠.sit)→Like s0 s→gs.size=n→dn c (sK (s0.D 0) (s0.wr 0)) w0 w→Out P c gs w sl t Q:=by
  intro K
  induction K using (dec_wf n).induction with
  | _ K ih =>
   intro s gs w sl t hK h hns hL hn hr
   have hex:∃ (i:Nat) (g:Goroutine),gs[i]? = some g∧g.status=.running:=by
    obtain ⟨i,h1,h2,h3⟩:=hsome
    have hlt:i < gs.size:=by omega
    have:=h.old i gs[i] h1 (Array.getElem?_eq_getElem hlt)
    unfold qc at this
    cases hKi:s.K i with
    | leave q=>rw [← hL.busy,hKi] at h3;cases h3
    | sit=>exact (hns i h1 h2 hKi).elim
    | work τ =>
     rw [hKi] at this
     obtain ⟨fr,mine,e,_⟩:=this
     exact ⟨i,gs[i],Array.getElem?_eq_getElem hlt,by rw [e];rfl⟩
   obtain ⟨i,g,d,sl',hi,hg,hst⟩:=crowd_pick (P:=P) (w:=w) (sl:=sl) (all_awake h ha) hex
   rcases Nat.eq_zero_or_pos i with rfl | hpos
   ·rw [h.zero] at hi
    cases hi
    cases hg
   ·obtain ⟨gs',w',u,h1,h2,h3,h4⟩:=D7 (sl:=sl') (h.at d) ha hpos hi hg
    rw [hL.D,hL.wr0] at h3
    rcases h4 with ⟨s',h5,h6,h7,h8⟩ | ⟨b₂,z',q,h5,h6,h7⟩
    ·refine .step (hst.trans h1) (ih s'.K (by rw [← hK,← hn];exact h7) s' gs' w' sl' _ rfl h5 (fun j hj0 hj hsit=>?_) (hL.trans h6) (h2.trans hn) ((hr.trans (.at _ w d)).trans h3))
     rcases h8 with h8 | h8
     ·cases h8
     ·exact hns j hj0 hj (h8 j hsit)
    ·rw [← wZ h5] at h7
     rw [hn] at h6
     exact .step (hst.trans h1) (hm s i q gs' w' sl' _ h6 hL (h2.trans hn) ((hr.trans (.at _ w d)).trans h3) h7)
 exact fun s gs w sl t=>key s.K s gs w sl t rfl
end
abbrev wY:=(Nat→Prop)→(Nat→Prop)→List Value→Goroutine→World→Prop
def oK (P:Program) (c:Nat) (D0 wr0:Nat→Prop) (vs:List Value) (a:Goroutine) (w:World) (Q:wY):Prop :=
 ∀ s gs sl t w1,dn c (sK D0 wr0) w w1→oV P c s gs a w1 t→s.D 0=D0→s.wr 0=wr0→(iM s gs.size).Perm vs →
  Out P c gs w1 sl t fun s' gs' a' w'=>∃ vs',(iM s' gs'.size).Perm vs'∧Q (s'.D 0) (s'.wr 0) vs' a' w'
section
variable {P:Program} {c:Nat} {D0 wr0:Nat→Prop} {vs:List Value} {a:Goroutine} {w:World} {Q Q':wY}
theorem oK.mono (h:oK P c D0 wr0 vs a w Q) (hq:∀ D wr vs a w,Q D wr vs a w→Q' D wr vs a w):oK P c D0 wr0 vs a w Q':=by
 intro s gs sl t w1 hr hp h1 h2 h3
 obtain ⟨N,s',gs',a',w',sl',t',k1,k2,vs',k3,k4⟩:=h s gs sl t w1 hr hp h1 h2 h3
 exact ⟨N,s',gs',a',w',sl',t',k1,k2,vs',k3,hq _ _ _ _ _ k4⟩
theorem oK.bind (h:oK P c D0 wr0 vs a w Q) (hq:∀ D wr vs a w,Q D wr vs a w→oK P c D wr vs a w Q'):oK P c D0 wr0 vs a w Q':=by
 intro s gs sl t w1 hr hp h1 h2 h3
 obtain ⟨N,s',gs',a',w',sl',t',k1,k2,vs',k3,k4⟩:=h s gs sl t w1 hr hp h1 h2 h3
 obtain ⟨M,s2,gs2,a2,w2,sl2,t2,m1,m2,m3⟩:=hq _ _ _ _ _ k4 s' gs' sl' t' w' (.refl _ w') k2 rfl rfl k3
 refine ⟨N+M,s2,gs2,a2,w2,sl2,t2,?_,m2,m3⟩
 rw [Go.Tm.runNT_add N M _ _ _ _ k1]
 exact m1
theorem oK.rely {w':World} (h:oK P c D0 wr0 vs a w Q) (hr:dn c (sK D0 wr0) w w'):oK P c D0 wr0 vs a w' Q:=fun s gs sl t w1 hr'=>h s gs sl t w1 (hr.trans hr')
theorem Wn (h:∀ w1,dn c (sK D0 wr0) w w1→Q D0 wr0 vs a w1):oK P c D0 wr0 vs a w Q:=by
 intro s gs sl t w1 hr hp h1 h2 h3
 exact ⟨0,s,gs,a,w1,sl,t,rfl,hp,vs,h3,by rw [h1,h2];exact h w1 hr⟩
theorem oV.XR {s:Sit} {gs:Array Goroutine} {t:Trace} (h:oV P c s gs a w t) (a':Goroutine):oV P c s (gs.setIfInBounds 0 a') a' w t:=by
 have hsz:(gs.setIfInBounds 0 a').size=gs.size:=by simp
 refine ⟨by simp [h.lt],fun i g hi hg=>h.old i g hi ?_,fun j hj=>h.above j (by rw [hsz] at hj;exact hj),h.chan,fun g hg=>h.nochan g (by rw [hsz] at hg;exact hg),h.heap,by rw [hsz];exact h.tr⟩
 rwa [Array.getElem?_setIfInBounds_ne (by omega)] at hg
theorem oV.listed {s:Sit} {gs:Array Goroutine} {t:Trace} (h:oV P c s gs a w t) {es:Array Event} (hev:∀ e∈es,Ae (s.D 0) (s.wr 0) e) (fn:FuncId) (pos:String):oV P c s gs a w (t ++ MemOp.ofEvents 0 fn pos es):=by
 have hu:∀ op∈MemOp.ofEvents 0 fn pos es,op.g=0:=fun op hop=>by obtain ⟨e,_,rfl⟩:=Go.Conc.mem_ofEvents hop;rfl
 have hown:=h.tr.own (.inl rfl) hev (fun _ h=>h) (fun _ h=>.inl h) (Nat.le_refl _) fn pos
 have hwr:upd s.wr 0 (s.wr 0)=s.wr:=by
  funext j
  by_cases e:j=0
  ·subst e;rw [upd_same]
  ·rw [upd_ne _ _ e]
 rw [hwr] at hown
 refine ⟨h.zero,fun i g hi hg=>(h.old i g hi hg).keep rfl rfl rfl rfl (Deaf_other t (by omega) _ hu) fun _=>.refl _ w,fun j hj=>?_,h.chan,h.nochan,h.heap,hown⟩
 have:=h.lt
 rw [Deaf_other t (by omega) _ hu]
 exact h.above j hj
theorem Vb {Stop:vO} (hat:∀ wr fr mine w d,Stop wr fr mine (w.at d)→Stop wr fr mine w) {fr:Frame} {mine cs:List Frame} (h:WT P c D0 Stop wr0 fr mine w)
  (hk:∀ wr' fr' mine' w',Stop wr' fr' mine' w'→oK P c D0 wr' vs (G fr' (mine' ++ cs)) w' Q):oK P c D0 wr0 vs (G fr (mine ++ cs)) w Q:=by
 obtain ⟨τ,h⟩:=h
 have main:∀ (τ:Tr) (wr0:Nat→Prop) (fr:Frame) (mine:List Frame) (w:World),QG P c D0 Stop τ wr0 fr mine w→oK P c D0 wr0 vs (G fr (mine ++ cs)) w Q:=by
  intro τ
  induction τ with
  | leaf =>
   intro wr0 fr mine w h s gs sl t w1 hr hp h1 h2 h3
   exact hk _ _ _ _ (h w1 hr) s gs sl t w1 (.refl _ w1) hp h1 h2 h3
  | node f ih =>
   intro wr0 fr mine w h s gs sl t w1 hr hp h1 h2 h3
   refine AY (s0:=s) (n:=gs.size) (w0:=w1) rfl (fun w=>Stop wr0 fr mine w) (fun s' gs' w' sl' t' hp' hL hn hr' hE=>?_) (fun s' gs' w' sl' t' d hp' hL hn hr' hE=>?_) s gs w1 sl t hp (.refl s) rfl (.refl _ w1)
   ·exact hk _ _ _ _ hE s' gs' sl' t' w' (.refl _ w') hp' (by rw [hL.D,h1]) (by rw [hL.wr0,h2]) (by rw [hn,hL.pend];exact h3)
   ·rw [h1,h2] at hr'
    rcases h (w'.at d) (hr.trans hr') with hs | ⟨fr',mine',w2,es,wr',k1,k2,k3,k4,k5⟩
    ·exact (hE (hat _ _ _ _ _ hs)).elim
    ·have hD:s'.D 0=D0:=by rw [hL.D,h1]
     have hw:s'.wr 0=wr0:=by rw [hL.wr0,h2]
     have hst:=hp'.step (i:=0) (.inl rfl) (g:=G fr (mine ++ cs)) (g':=G fr' (mine' ++ cs)) (x:=.sit) (es:=es) (wr':=wr') hp'.zero (fun h=>(h rfl).elim) (by rw [hD];exact k2) (by rw [hw];exact k3) (by rw [hw];exact k4) (fun h=>(h rfl).elim) (G fr (mine ++ cs)).frame.fn (G fr (mine ++ cs)).frame.place (fun h=>(h rfl).elim)
     simp only [if_true] at hst
     refine ⟨_,_,_,runT_crowd_go hp'.zero (show stepG P (0 == 0) _ _=_ from k1 true cs),?_⟩
     refine ih (w'.at d) wr' fr' mine' w2 k5 _ _ _ _ w2 (.refl _ w2) hst hD (by show upd s'.wr 0 wr' 0=wr';exact upd_same _ _ _) ?_
     have hsz:((gs'.map (woken P (G fr (mine ++ cs)) (G fr' (mine' ++ cs)) w2)).setIfInBounds 0 (G fr' (mine' ++ cs))).size=gs.size:=by simp [hn]
     rw [hsz]
     have e:iM { s' with K:=s'.K,wr:=upd s'.wr 0 wr' } gs.size=iM s gs.size:=by
      rw [← hL.pend]
      exact yj fun _ _=>⟨rfl,rfl⟩
     exact e ▸ h3
 exact main τ wr0 fr mine w h
theorem SA (ha:a.status=.running)
  (hs:∀ w1,dn c (sK D0 wr0) w w1→∃ a' frc es Dc D0' wr0' v,stepG P true a w1=.spawn a' (G frc []) w1 es∧(∀ e∈es,Ae D0 wr0 e)∧(∀ b,Dc b→D0 b∨wr0 b)∧(∀ b,D0' b∨wr0' b→D0 b∨wr0 b)∧(∀ b,wr0' b→wr0 b∧¬ Dc b) ∧
   WT P c Dc (AtSend P c v Dc) (fun _=>False) frc [] w1∧oK P c D0' wr0' (v :: vs) a' w1 Q):oK P c D0 wr0 vs a w Q:=by
 intro s gs sl t w1 hr hp h1 h2 h3
 refine Fa (s0:=s) (n:=gs.size) (w0:=w1) ha (fun s' gs' w' sl' t' hp' hL hn hr'=>?_) s gs w1 sl t hp (.refl s) rfl (.refl _ w1)
 rw [h1,h2] at hr'
 have hD:s'.D 0=D0:=by rw [hL.D,h1]
 have hw:s'.wr 0=wr0:=by rw [hL.wr0,h2]
 obtain ⟨a',frc,es,Dc,D0',wr0',v,k1,k2,k3,k4,k5,⟨τ,k6⟩,k7⟩:=hs w' (hr.trans hr')
 have hlt:=hp'.lt
 have hl:=hp'.listed (es:=es) (by rw [hD,hw];exact k2) a.frame.fn a.frame.place
 have hn0:gs'.size≠0:=by omega
 have hnact:¬ s'.act gs'.size gs'.size:=fun h=>Nat.lt_irrefl _ h.2.1
 have hhire:=hl.tr.hire (c:=gs'.size) ⟨hn0,hnact⟩ (hl.above _ (Nat.le_refl _)) Dc D0' wr0' (by rw [hD,hw];exact k3) (by rw [hD,hw];exact k4) (by rw [hw];exact k5) a.frame.fn a.frame.place frc.fn
 let s2:Sit:={ K:=upd s'.K gs'.size (.work τ),D:=upd (upd s'.D gs'.size Dc) 0 D0',wr:=upd (upd s'.wr gs'.size fun _=>False) 0 wr0',val:=upd s'.val gs'.size v }
 have hact:(fun g=>s'.act gs'.size g∨g=gs'.size)=s2.act (gs'.size+1):=by
  funext g
  apply propext
  unfold Sit.act
  constructor
  ·rintro (⟨x1,x2,x3⟩ | rfl)
   ·exact ⟨x1,by omega,by show (upd s'.K gs'.size (WK.work τ) g).busy=true;rw [upd_ne _ _ (by omega)];exact x3⟩
   ·exact ⟨by omega,by omega,by show (upd s'.K gs'.size (WK.work τ) gs'.size).busy=true;rw [upd_same];rfl⟩
  ·rintro ⟨x1,x2,x3⟩
   by_cases e:g=gs'.size
   ·exact .inr e
   ·refine .inl ⟨x1,by omega,?_⟩
    have x3':(upd s'.K gs'.size (WK.work τ) g).busy=true:=x3
    rwa [upd_ne _ _ e] at x3'
 have hsz:((gs'.setIfInBounds 0 a').push (G frc [])).size=gs'.size+1:=by simp
 generalize hu:(#[{ g:=0,fn:=a.frame.fn,pos:=a.frame.place,act:=.go gs'.size },{ g:=gs'.size,fn:=frc.fn,pos:=a.frame.place,act:=.start }]:Trace)=u at hhire
 have hq:∀ g,∀ op∈u,∀ d,deafStep g d op=d:=by
  intro g op hop d
  subst hu
  simp only [List.mem_toArray,List.mem_cons,List.not_mem_nil,or_false] at hop
  rcases hop with rfl | rfl <;> rfl
 have hdeaf:∀ g,Deaf (t' ++ MemOp.ofEvents 0 a.frame.fn a.frame.place es ++ u) g=Deaf (t' ++ MemOp.ofEvents 0 a.frame.fn a.frame.place es) g:=fun g=>Deaf_quiet (hq g)
 have hpc:oV P c s2 ((gs'.setIfInBounds 0 a').push (G frc [])) a' w' (t' ++ MemOp.ofEvents 0 a.frame.fn a.frame.place es ++ u):=by
  refine ⟨?_,fun i g hi hg=>?_,fun j hj=>?_,hl.chan,fun g hg=>?_,hl.heap,?_⟩
  ·rw [Array.getElem?_push,if_neg (by simp;omega)]
   simp [hlt]
  ·rw [Array.getElem?_push] at hg
   split at hg
   ·rename_i hi2
    simp only [Array.size_setIfInBounds] at hi2
    cases hg
    subst hi2
    unfold qc
    have eK:s2.K gs'.size=.work τ:=upd_same _ _ _
    have eD:s2.D gs'.size=Dc:=by show upd (upd s'.D gs'.size Dc) 0 D0' gs'.size=_;rw [upd_ne _ _ hn0,upd_same]
    have ew:s2.wr gs'.size=fun _=>False:=by show upd (upd s'.wr gs'.size fun _=>False) 0 wr0' gs'.size=_;rw [upd_ne _ _ hn0,upd_same]
    have ev:s2.val gs'.size=v:=upd_same _ _ _
    rw [eK]
    dsimp only
    rw [eD,ew,ev]
    exact ⟨frc,[],rfl,k6⟩
   ·rename_i hi2
    rw [Array.getElem?_setIfInBounds_ne (by omega)] at hg
    have hne:i≠gs'.size:=by simpa using hi2
    refine (hl.old i g hi hg).keep (upd_ne _ _ hne) ?_ ?_ (upd_ne _ _ hne) (hdeaf i) fun _=>.refl _ w'
    ·show upd (upd s'.D gs'.size Dc) 0 D0' i=_
     rw [upd_ne _ _ (by omega),upd_ne _ _ hne]
    ·show upd (upd s'.wr gs'.size fun _=>False) 0 wr0' i=_
     rw [upd_ne _ _ (by omega),upd_ne _ _ hne]
  ·rw [hsz] at hj
   rw [hdeaf]
   exact hl.above j (by omega)
  ·rw [hsz,← hact] at hg
   show ¬ upd (upd s'.wr gs'.size fun _=>False) 0 wr0' g c
   by_cases e:g=0
   ·subst e
    rw [upd_same]
    intro hb
    have:=(k5 c hb).1
    rw [← hw] at this
    exact hl.nochan 0 (.inl rfl) this
   ·rw [upd_ne _ _ e]
    by_cases e':g=gs'.size
    ·subst e';rw [upd_same];exact id
    ·rw [upd_ne _ _ e']
     exact hl.nochan g (hg.elim .inl fun h=>h.elim .inr fun h=>(e' h).elim)
  ·rw [hsz,← hact]
   exact hhire
 refine ⟨_,_,_,runT_crowd_spawn hp'.zero (show stepG P (0 == 0) a w'=_ from k1),?_⟩
 have htr:t' ++ (((MemOp.ofEvents 0 a.frame.fn a.frame.place es).push { g:=0,fn:=a.frame.fn,pos:=a.frame.place,act:=.go gs'.size }).push { g:=gs'.size,fn:=(G frc []).frame.fn,pos:=a.frame.place,act:=.start })=t' ++ MemOp.ofEvents 0 a.frame.fn a.frame.place es ++ u:=by
  subst hu
  rw [Array.append_assoc]
  congr 1
 rw [htr]
 refine k7 s2 _ _ _ w' (.refl _ w') hpc (by show upd (upd s'.D gs'.size Dc) 0 D0' 0=D0';exact upd_same _ _ _) (by show upd (upd s'.wr gs'.size fun _=>False) 0 wr0' 0=wr0';exact upd_same _ _ _) ?_
 rw [hsz,rY]
 have e1:iM s2 gs'.size=iM s gs.size:=by
  rw [← hL.pend,← hn]
  refine yj fun i hi=>⟨?_,?_⟩
  ·show (upd s'.K gs'.size (WK.work τ) i).busy=_
   rw [upd_ne _ _ (by omega)]
  ·show upd s'.val gs'.size v i=_
   rw [upd_ne _ _ (by omega)]
 have e2:(0 < gs'.size∧(s2.K gs'.size).busy=true):=⟨hlt,by show (upd s'.K gs'.size (WK.work τ) gs'.size).busy=true;rw [upd_same];rfl⟩
 have e3:s2.val gs'.size=v:=upd_same _ _ _
 rw [if_pos e2,e1,e3]
 exact (List.perm_append_singleton _ _).trans (h3.cons v)
theorem I9 {s:Sit} {gs:Array Goroutine} {t:Trace} (h:oV P c s gs a w t):∀ j k,(j,k)∈partners (gs.setIfInBounds 0 ph) c true→k=0∧0 < j∧s.act gs.size j∧∃ g₂ z,gs[j]? = some (parked g₂ #[scase c (s.val j) z] .send)∧∃ q,QuitsD P q 0 (Conc.served g₂ undef):=by
 intro j k hjk
 obtain ⟨g,hg,hk⟩:=mem_partners.1 hjk
 rcases getElem?_stand gs 0 j g hg with ⟨_,rfl⟩ | ⟨hj0,hg⟩
 ·rw [offersAt_ph] at hk;cases hk
 ·have hpos:0 < j:=by omega
  have hw:=h.old j g hpos hg
  unfold qc at hw
  cases hK:s.K j with
  | leave q =>
   rw [hK] at hw
   have hs:=QuitsD.status hw
   rw [offersAt_of_not_blocked (fun e=>by rcases hs with hs | hs <;> rw [e] at hs <;> cases hs) _ _] at hk
   cases hk
  | work τ =>
   rw [hK] at hw
   obtain ⟨fr,mine,rfl,_⟩:=hw
   rw [offersAt_of_not_blocked (by simp [G]) _ _] at hk
   cases hk
  | sit =>
   rw [hK] at hw
   obtain ⟨g₂,z,rfl,hq⟩:=hw
   rw [offersAt_parked_send] at hk
   simp at hk
   exact ⟨hk,hpos,⟨hpos,(Array.getElem?_eq_some_iff.1 hg).1,by rw [hK];rfl⟩,g₂,z,hg,hq⟩
theorem Xb (ha:a.status=.running) (hne:vs≠[])
  (hs:∀ w1,dn c (sK D0 wr0) w w1→∃ a₂ z es,stepG P true a w1=.comm a₂ #[rcase c z] true (.recv false) w1 es∧(∀ e∈es,Ae D0 wr0 e) ∧
   ∀ v rest,vs.Perm (v :: rest)→∀ w2,dn c (sK D0 wr0) w1 w2→oK P c D0 wr0 rest (Conc.served a₂ v) w2 Q):oK P c D0 wr0 vs a w Q:=by
 intro s gs sl t w1 hr hp h1 h2 h3
 refine Fa (s0:=s) (n:=gs.size) (w0:=w1) ha (fun s' gs' w' sl' t' hp' hL hn hr'=>?_) s gs w1 sl t hp (.refl s) rfl (.refl _ w1)
 rw [h1,h2] at hr'
 have hD:s'.D 0=D0:=by rw [hL.D,h1]
 have hw:s'.wr 0=wr0:=by rw [hL.wr0,h2]
 obtain ⟨a₂,z,es,k1,k2,k3⟩:=hs w' (hr.trans hr')
 have hl:=hp'.listed (es:=es) (by rw [hD,hw];exact k2) a.frame.fn a.frame.place
 obtain ⟨k,hk⟩:=hp'.chan
 have hpend:(iM s' gs'.size).Perm vs:=by rw [hL.pend,hn];exact h3
 have hst:stepG P (0 == 0) a w'=.comm a₂ #[rcase c z] true (.recv false) w' es:=k1
 have hlt:=hp'.lt
 by_cases hpn:partners (gs'.setIfInBounds 0 ph) c true=[]
 · -- nobody sits there yet: it sits down itself
  refine ⟨_,_,_,crowd_waits hp'.zero hst (fun cc hcc=>?_),?_⟩
  ·simp only [List.mem_toArray,List.mem_singleton] at hcc
   subst hcc
   exact ways_recv_none hk hpn
  ·have hsome:∃ i,s'.act gs'.size i:=by
    apply Classical.byContradiction
    intro hno
    apply hne
    have:iM s' gs'.size=[]:=by
     unfold iM
     rw [List.map_eq_nil_iff,List.filter_eq_nil_iff]
     intro i hi hb
     simp only [Bool.and_eq_true,decide_eq_true_eq] at hb
     exact hno ⟨i,hb.1,List.mem_range.1 hi,hb.2⟩
    rw [this] at hpend
    exact hpend.nil_eq.symm
   refine OT (s0:=s') (n:=gs'.size) (w0:=w') (z:=z) hsome (fun s2 i q gs2 w2 sl2 t2 hi hL2 hn2 hr2 hp2=>?_) s' _ w' _ _ (hl.XR _) (fun i hpos hi hsit=>?_) (.refl s') (by simp) (.refl _ w')
   ·rw [hD,hw] at hr2
    have hperm:vs.Perm (s2.val i :: iM { s2 with K:=upd s2.K i (.leave q) } gs'.size):=by
     refine hpend.symm.trans ?_
     rw [← hL2.pend]
     exact zT hi
    exact k3 _ _ hperm w2 hr2 _ gs2 sl2 t2 w2 (.refl _ w2) hp2 (by show s2.D 0=_;rw [hL2.D,hD]) (by show s2.wr 0=_;rw [hL2.wr0,hw]) (by rw [hn2])
   · -- else it would be a partner
    have hw2:=hp'.old i gs'[i] hpos (Array.getElem?_eq_getElem hi)
    unfold qc at hw2
    rw [hsit] at hw2
    obtain ⟨g₂,z2,e,_⟩:=hw2
    have:(i,0)∈partners (gs'.setIfInBounds 0 ph) c true:=mem_partners.2 ⟨gs'[i],by rw [Array.getElem?_setIfInBounds_ne (by omega)];exact Array.getElem?_eq_getElem hi,by rw [e,offersAt_parked_send];simp⟩
    rw [hpn] at this
    cases this
 ·obtain ⟨j,gj,vj,zj,shj,d,hj0,hgj,hrun⟩:=crowd_recv_meets_some (P:=P) (sl:=sl') hp'.zero hst hk hpn (fun j k hjk=>by
   obtain ⟨x1,x2,_,g₂,z2,x4,_⟩:=I9 hp' j k hjk
   exact ⟨x1,by omega,g₂,_,z2,_,x4⟩)
  have hpos:0 < j:=by omega
  have hwj:=hp'.old j _ hpos hgj
  have hjlt:=(Array.getElem?_eq_some_iff.1 hgj).1
  have hact:s'.act gs'.size j∧vj=s'.val j∧shj=.send∧∃ q,QuitsD P q 0 (Conc.served gj undef):=by
   unfold qc at hwj
   cases hK:s'.K j with
   | leave q =>
    rw [hK] at hwj
    rcases QuitsD.status hwj with hs | hs <;> cases hs
   | work τ =>
    rw [hK] at hwj
    obtain ⟨fr,mine,e,_⟩:=hwj
    have:=congrArg (·.status) e
    cases this
   | sit =>
    rw [hK] at hwj
    obtain ⟨g₂,z2,e,q,hq⟩:=hwj
    refine ⟨⟨hpos,hjlt,by rw [hK];rfl⟩,?_,?_,q,by rw [wZ e];exact hq⟩
    all_goals simp only [parked,Goroutine.mk.injEq,Option.some.injEq,Prod.mk.injEq] at e
    ·have e2:=e.2.2.2.2.1
     simp [scase] at e2
     exact e2.1
    ·exact e.2.2.2.2.2
  obtain ⟨hact,rfl,rfl,q,hq⟩:=hact
  refine ⟨_,_,_,hrun,?_⟩
  have hmet:=hl.met (j:=j) (a':=Conc.served a₂ (s'.val j)) (g':=Conc.served gj undef) (q:=q) (k:=k) (cap:=0) hact hq gj.frame.fn gj.frame.place a₂.frame.fn a₂.frame.place (k+1)
   ((gs'.setIfInBounds j (Conc.served gj undef)).setIfInBounds 0 (Conc.served a₂ (s'.val j))) (by simp) (by simp [hlt]) (by rw [Array.getElem?_setIfInBounds_ne (Ne.symm hj0)];simp [hjlt])
   (fun x hx0 hxj=>by rw [Array.getElem?_setIfInBounds_ne (Ne.symm hx0),Array.getElem?_setIfInBounds_ne (Ne.symm hxj)]) d _ rfl
  rw [Array.append_assoc] at hmet
  have hr2:dn c (sK D0 wr0) w' ((w'.at d).setChan c 0 #[] false (k+1) (k+1) false):=by
   refine ⟨by show w'.heap.size≤(w'.heap.setIfInBounds c _).size;simp,fun b _=>?_,rfl,rfl,rfl⟩
   by_cases e:b=c
   ·subst e
    refine .inr ⟨rfl,_,.chan 0 #[] false (k+1) (k+1) false,hk,?_,rfl,rfl⟩
    show (w'.heap.setIfInBounds b _)[b]? = _
    rw [Array.getElem?_setIfInBounds_self_of_lt (Array.getElem?_eq_some_iff.1 hk).1]
   ·refine .inl ?_
    show (w'.heap.setIfInBounds c _)[b]? = _
    rw [Array.getElem?_setIfInBounds_ne (Ne.symm e)]
  exact k3 _ _ (hpend.symm.trans (zT (q:=q) hact)) _ hr2 _ _ _ _ _ (.refl _ _) hmet hD hw (by rw [Array.size_setIfInBounds,Array.size_setIfInBounds])
theorem Sl {QB:Goroutine→World→Prop} (hheap:ay OC w) (hch:∃ k,w.heap[c]? = some (.chan 0 #[] false k k false)) (hnc:¬ wr0 c) (hlow:∀ b,D0 b∨wr0 b→b < w.heap.size)
  (h:oK P c D0 wr0 [] a w Q) (hQ:∀ D wr vs a w,Q D wr vs a w→ay OC w→vs=[]∧QB a w):kU P a w QB:=by
 intro gs sl t d hc
 obtain ⟨h0,⟨q,hL⟩,hP⟩:=hc
 let s:Sit:={ K:=fun i=>.leave (q i),D:=fun _=>D0,wr:=fun _=>wr0,val:=fun _=>undef }
 have hact:∀ g,¬ s.act gs.size g:=fun g h=>by cases h.2.2
 have hpc:oV P c s gs a (w.at d) t:=by
  refine ⟨h0,fun i g hi hg=>hL.old i g hi hg,hL.above,hch,fun _ _=>hnc,hheap,?_⟩
  have e:s.act gs.size=fun _=>False:=by funext g;exact propext ⟨fun h=>(hact g h).elim,fun h=>h.elim⟩
  rw [e]
  exact Gj.ofPast hP _ _ hlow
 have hnil:iM s gs.size=[]:=by
  unfold iM
  rw [List.map_eq_nil_iff,List.filter_eq_nil_iff]
  intro i hi hb
  simp only [Bool.and_eq_true,decide_eq_true_eq] at hb
  cases hb.2
 obtain ⟨N,s',gs',a',w',sl',t',k1,k2,vs',k3,k4⟩:=h s gs sl t (w.at d) (.at _ w d) hpc rfl rfl (by rw [hnil])
 obtain ⟨rfl,k5⟩:=hQ _ _ _ _ _ k4 k2.heap
 have hnil':iM s' gs'.size=[]:=k3.eq_nil
 have hleave:∀ i,0 < i→i < gs'.size→(s'.K i).busy=false:=by
  intro i h1 h2
  cases hb:(s'.K i).busy with
  | false=>rfl
  | true =>
   unfold iM at hnil'
   rw [List.map_eq_nil_iff,List.filter_eq_nil_iff] at hnil'
   have:=hnil' i (List.mem_range.2 h2)
   simp [h1,hb] at this
 refine ⟨N,gs',a',w',sl',t',k1,⟨k2.zero,⟨fun i=>(match s'.K i with | .leave q=>q | _=>0),fun i g hi hg=>?_,k2.above⟩,k2.tr.toPast fun g hg=>?_⟩,k5⟩
 ·have hw:=k2.old i g hi hg
  have hb:=hleave i hi (Array.getElem?_eq_some_iff.1 hg).1
  unfold qc at hw
  cases hK:s'.K i with
  | leave q=>rw [hK] at hw;exact hw
  | work τ=>rw [hK] at hb;cases hb
  | sit=>rw [hK] at hb;cases hb
 ·have:=hleave g hg.1 hg.2.1
  rw [hg.2.2] at this
  cases this
end
end Go.Ph
namespace Go.Proofs.YtjjmefieegcddaaDoor
open Go Go.Sr Go.Ph Go.Tm
instance abM:bT:=⟨fun f=>[123,124,125,126,127,133].contains f⟩
theorem XJ:F7 Tryd.prog:=by
 intro f hf
 have h:f=123∨f=124∨f=125∨f=126∨f=127∨f=133:=by
  have:[123,124,125,126,127,133].contains f=true:=hf
  simpa using this
 rcases h with rfl | rfl | rfl | rfl | rfl | rfl
 ·exact ⟨Tryd.f123,_,Tryd.func123,rfl,by kernel_rfl,by decide,by kernel_rfl⟩
 ·exact ⟨Tryd.f124,_,Tryd.func124,rfl,by kernel_rfl,by decide,by kernel_rfl⟩
 ·exact ⟨Tryd.f125,_,Tryd.func125,rfl,by kernel_rfl,by decide,by kernel_rfl⟩
 ·exact ⟨Tryd.f126,_,Tryd.func126,rfl,by kernel_rfl,by decide,by kernel_rfl⟩
 ·exact ⟨Tryd.f127,_,Tryd.func127,rfl,by kernel_rfl,by decide,by kernel_rfl⟩
 ·exact ⟨Tryd.f133,_,Tryd.func133,rfl,by kernel_rfl,by decide,by kernel_rfl⟩
end Go.Proofs.YtjjmefieegcddaaDoor
namespace Go.Ph
open Go
open Go.Tm
open Go.Sr
open Go.Conc
def JZ:Obj→Obj
 | .cells c t _=>.cells c t (0,c.size)
 | o=>o
def oU (D:List Nat) (w:World):World:={ w with heap:=w.heap.mapIdx fun b o=>if b∈D then JZ o else o }
def wX (D:List Nat):Nat→Prop:=fun b=>b∈D
def iq (D:List Nat):BR:=fun b b'=>b'=b∧b∈D
section
variable {P:Program} {D:List Nat} {w:World}
theorem jT (D:List Nat) (w:World) (b:Nat):(oU D w).heap[b]? = (w.heap[b]?).map fun o=>if b∈D then JZ o else o:=by
 simp [oU]
theorem oJ (D:List Nat) (w:World):(oU D w).heap.size=w.heap.size:=by simp [oU]
theorem FH (h:ay OC w):ay OC (oU D w):=by
 intro i o ho
 rw [jT] at ho
 cases hw:w.heap[i]? with
 | none=>rw [hw] at ho;cases ho
 | some x =>
  rw [hw] at ho
  have:=h i x hw
  replace ho:(if i∈D then JZ x else x)=o:=by simpa using ho
  split at ho
  ·subst ho;cases x <;> exact this
  ·subst ho;exact this
theorem XH [bT] {N:Nat} (hN:∀ b∈D,N≤b) (hlt:N≤w.heap.size)
  (hobj:∀ b∈D,(∃ c t,w.heap[b]? = some (.cells c t (0,0))∧∀ v∈c,qV (iq D) v v)∨∃ o,w.heap[b]? = some o∧DY o=true):WR N (iq D) (wX D) (oU D w) w:=by
 refine ⟨?_,?_,?_,?_,?_,rfl,rfl,?_,by rw [oJ];exact hlt,hlt⟩
 ·rintro b _ ⟨rfl,hb⟩
  rcases hobj _ hb with ⟨c,t,h1,h2⟩ | ⟨o,h1,h2⟩
  ·refine ⟨.cells c t (0,c.size),.cells c t (0,0),?_,h1,.inl ⟨c,c,t,(0,c.size),(0,0),rfl,rfl,⟨rfl,fun i v hv=>⟨v,hv,h2 v (Array.mem_of_getElem? hv)⟩⟩,fun _=>rfl,fun h=>(h hb).elim⟩⟩
   rw [jT,h1]
   simp [hb,JZ]
  ·refine ⟨o,o,?_,h1,.inr (.inr ⟨hb,h2,h2⟩)⟩
   rw [jT,h1]
   cases o <;> first | (cases h2;done) | (simp only [Option.map_some];split <;> rfl)
 ·rintro b b1 b2 ⟨rfl,_⟩ ⟨rfl,_⟩
  rfl
 ·rintro b1 b2 b ⟨h1,_⟩ ⟨h2,_⟩
  exact h1.symm.trans h2
 ·rintro b b' ⟨rfl,_⟩ _
  rfl
 ·rintro b b' ⟨rfl,h⟩
  exact ⟨hN _ h,hN _ h⟩
 ·intro b hb
  rw [oJ]
  rcases hobj b hb with ⟨c,t,h1,_⟩ | ⟨o,h1,_⟩ <;> exact (Array.getElem?_eq_some_iff.1 h1).1
theorem QF (D:List Nat):own (wX D) (iq D)=fun _=>False:=by
 funext b
 refine propext ⟨fun ⟨x,h1,h2⟩=>h2 h1.2,fun h=>h.elim⟩
theorem zK:(default:Frame).todo=[]:=rfl
def kG (P:Program) (ds:List Deferred):Frame:={ (default:Frame) with fn:=P.funcs.size,defers:=ds,mode:=.panicking [goexitEntry] }
theorem NT {f:FuncId} {fn:Func} {c:Code} {args caps:Array Value} (hf:P.funcs[f]? = some fn) (hname:(fn.name == "runtime.NumGoroutine")=false) (hb:fn.body=some c) (main:Bool) (cs:List Frame) (w:World) :
  stepG P main (G (kG P [{ target:=.fn (.func f) caps,args:=args }]) ([] ++ cs)) w=.go (G (Frame.enter P f (args ++ caps) .deferred) ([kG P []] ++ cs)) w #[]:=by
 have h1:¬ fn.name = "runtime.NumGoroutine" := by simpa using hname
 simp [G,stepG,unwind,callDeferred,kG,invoke,callFunc,hf,h1,hb,GStep.after,seen_none]
theorem OB:QuitsD P 1 0 (G (kG P []) []):=by
 refine .inr ⟨rfl,{ G (kG P []) [] with status:=.finished },#[],by simp,fun w=>?_,rfl,rfl⟩
 simp [G,stepG,unwind,kG,Frame.catches,goexitEntry,zK]
theorem Po {b:Frame} {a:Act} {todo:List Item} {fn:Func} (hk:b.kind=.normal∨b.kind=.deferred) (hd:a.defers=[]) (hf:P.funcs[b.fn]? = some fn) (hr:fn.results=#[]) :
  QuitsD P 2 0 (G { b.at a todo with mode:=.returning } [kG P []]):=by
 refine .ctl rfl (fun w=>?_) OB
 have h1:=results_none hr a.tmps P w
 have h2:=events_results_none (P:=P) (w:=w) hr a.tmps #[]
 rcases hk with hk | hk <;> simp [G,stepG,unwind,doReturn,Frame.at,hk,hd,hf,h1,h2,kG,Frame.finish,goexitEntry,seen,GStep.after,zK]
theorem atSend_of {b:Frame} {a:Act} {fn:Func} {ops:Array Oper} {i:Nat} {o:Oper} {x y:Operand} {c:Nat} {v:Value} {DD wr:Nat→Prop} (ho:ops[i]? = some o) (hw:Region.wanted o (yielded ops a.tmps)=true) (hop:o.op=.send x y)
  (hx:a.eval x=.chan (some c)) (hy:a.eval y=v) (hk:b.kind=.normal∨b.kind=.deferred) (hd:a.defers=[]) (hf:P.funcs[b.fn]? = some fn) (hr:fn.results=#[]) :
  AtSend P c v DD wr (b.at a [.inRegion ops [i]]) [kG P []] w:=by
 have hrun:(execOp a.eval o).run P w=.ok (.comm #[scase c v (.tuple #[])] true .send) w:=by
  unfold execOp
  simp [hop,hx,hy,scase]
 have hev:(execOp a.eval o).events P w #[]=#[]:=by
  unfold execOp
  simp [hop]
 have hk':b.kind≠.early:=by rcases hk with h | h <;> rw [h] <;> decide
 refine ⟨_,.tuple #[],_,stepG_comm ho hw hk' hrun,fun e he=>?_,4,?_⟩
 ·unfold listed at he
  rw [hev,seen_none] at he
  simp at he
 ·have hfin:(b.at a (.inRegion ops [i] :: [])).finish undef=b.at (a.put o.dst undef) (.inRegion ops [] :: []):=by rw [Frame.finish_at,ho];rfl
  have e:Conc.served (G (b.at a [.inRegion ops [i]]) [kG P []]) undef=G (b.at (a.put o.dst undef) [.inRegion ops []]) [kG P []]:=by
   simp only [Conc.served,G,hfin]
  rw [e]
  refine .ctl rfl (fun _=>stepG_region_end) (.ctl rfl (fun _=>stepG_end) (Po hk ?_ hf hr))
  unfold Act.put
  split <;> exact hd
end
end Go.Ph
namespace Go.Proofs.YtjjmefieegcddaaDoor
open Go.RowKit Go.Wg Go.Mm Go.Wk
open Go Go.Sr Go.Ph Go.Tm Go.Conc
variable {w:World} {V:View}
theorem Uf {V V':View} {p:Nat} {k:Wk} {ts:List Nat} {vv rv:Value} (h:zO V p k ts vv rv) (hV:∀ b i v,V.Cell b i v→V'.Cell b i v):zO V' p k ts vv rv:=by
 have rg:∀ {b i vs},V.Range b i vs→V'.Range b i vs:=fun h j v hj=>hV _ _ _ (h j v hj)
 have sl:∀ {v n sz get},pW V v n sz get→pW V' v n sz get:=fun ⟨a,cap,h1,h2,h3,h4⟩ =>
  ⟨a,cap,h1,h2,h3,fun hn=>by obtain ⟨g,off,h5,h6⟩:=h4 hn;exact ⟨g,off,h5,fun i hi=>rg (h6 i hi)⟩⟩
 obtain ⟨g,cap,h2,h3⟩:=h.c2
 exact ⟨hV _ _ _ h.c0,hV _ _ _ h.c1,⟨g,cap,hV _ _ _ h2,fun i hi=>hV _ _ _ (h3 i hi)⟩,sl h.ves,sl h.rdg,fun i hi=>rg (h.tun i hi),fun i hi=>by obtain ⟨v,h1,h2⟩:=h.fil i hi;exact ⟨v,hV _ _ _ h1,sl h2⟩,h.pos,h.le⟩
def Iz (V:View) (D:List Nat):View:=fun b=>if b∈D then (V b).map JZ else none
theorem Yk {D:List Nat} (h:V.In w):(Iz V D).In (oU D w):=fun b o hb=>by
 unfold Iz at hb
 split at hb
 ·rename_i hm
  cases hv:V b with
  | none=>rw [hv] at hb;cases hb
  | some x =>
   rw [hv] at hb
   rw [jT,h b x hv]
   simpa [hm] using hb
 ·cases hb
theorem Ac {D:List Nat} {b i:Nat} {v:Value} (hb:b∈D) (h:V.Cell b i v):(Iz V D).Cell b i v:=by
 obtain ⟨cs,t,fr,h1,h2⟩:=h
 exact ⟨cs,t,(0,cs.size),by simp [Iz,hb,h1,JZ],h2⟩
theorem VA {D E:List Nat} (hE:∀ b∈D,b∈E) {b i:Nat} {v:Value} (h:(keepD V D).Cell b i v):(Iz V E).Cell b i v:=by
 obtain ⟨cs,t,fr,h1,h2⟩:=h
 unfold keepD at h1
 split at h1
 ·rename_i hm
  exact Ac (hE b hm) ⟨cs,t,fr,h1,h2⟩
 ·cases h1
theorem yL (s:SS) (v:Value) (h:v∈dJ s):iL v=true:=by
 unfold dJ mM pY at h
 simp only [List.mem_append,List.mem_map,List.mem_flatMap] at h
 rcases h with ⟨m,_,rfl⟩ | ⟨q,_,h⟩
 ·rfl
 ·simp only [List.mem_cons,List.not_mem_nil,or_false] at h
  rcases h with rfl | rfl <;> rfl
theorem uU {v:Value} (h:iL v=true):Sr.flat v=true:=by
 unfold iL at h
 split at h <;> first | rfl | cases h
theorem sF {D E:List Nat} (hE:∀ b∈D,b∈E) {v:Value} (h:IZ D v):qV (iq E) v v:=by
 rcases h with h | ⟨b,o,rfl,hb⟩ | ⟨b,o,n,c,rfl,hb⟩
 ·exact .base (.flat (uU h))
 ·exact .base (.ptr ⟨⟨rfl,hE b hb⟩,rfl,rfl⟩)
 ·exact .base (.slice ⟨⟨rfl,hE b hb⟩,rfl,rfl⟩)
theorem Xj {R:BR} {x:Int × Int} {v:Value} (h:VR R (aJ x) v):v=aJ x:=by
 unfold aJ at h ⊢
 cases h with
 | base h =>
  cases h with
  | base h =>
   cases h with
   | flat h=>cases h
 | agg hsz h =>
  rename_i c'
  have hi:∀ (u u':Value),Sr.flat u=true→qV R u u'→u'=u:=by
   intro u u' hu h
   cases h with
   | base h =>
    cases h with
    | flat _=>rfl
    | ptr _=>cases hu
    | slice _=>cases hu
    | chan _=>cases hu
   | func _ _ _ _ _=>cases hu
  simp only [List.size_toArray,List.length_cons,List.length_nil] at hsz
  congr 1
  apply Array.ext
  ·simpa using hsz
  ·intro j h1 h2
   simp only [List.size_toArray,List.length_cons,List.length_nil] at h2
   have hj:j=0∨j=1:=by omega
   rcases hj with rfl | rfl
   ·exact hi _ _ rfl (h 0 _ _ rfl (Array.getElem?_eq_getElem h1))
   ·exact hi _ _ rfl (h 1 _ _ rfl (Array.getElem?_eq_getElem h1))
theorem XC {D:Nat→Prop} {R:BR} {G:Nat} {wl wa:World} (hw:WR G R D wl wa) {c:Nat} (hc:D c) {v:Value} (h:VR R (.chan (some c)) v):v=.chan (some c):=by
 cases h with
 | base h =>
  cases h with
  | base h =>
   cases h with
   | flat h=>cases h
   | chan h=>rw [hw.old _ _ h hc]
theorem Ue {f:FuncId} (hf:bT.ok f=true) {D:List Nat} {args:Array Value} (ha:∀ v∈args,VR (iq D) v v):ou Tryd.prog .deferred (iq D) (Frame.enter Tryd.prog f args .normal) [] (Frame.enter Tryd.prog f args .deferred) []:=by
 obtain ⟨fn,c,h1,h2,h3,h4,h5⟩:=XJ f hf
 have hE:Frame.enter Tryd.prog f args .normal=(base f).at { tmps:=args ++ Array.replicate (fn.ntmps - args.size) undef,defers:=[] } [.code c]:=enter_at args h1 h2
 have hE':Frame.enter Tryd.prog f args .deferred=(baseD f).at { tmps:=args ++ Array.replicate (fn.ntmps - args.size) undef,defers:=[] } [.code c]:=enter_atD args h1 h2
 rw [hE,hE']
 refine ⟨⟨rfl,⟨rfl,fun i v hv=>⟨v,hv,?_⟩⟩,rfl,fun x hx=>?_,rfl,rfl,rfl,.inl rfl,.inr rfl,.inl rfl,rfl,rfl,fun fn' hfn=>?_⟩,rfl⟩
 ·have hm:=Array.mem_of_getElem? hv
  rcases Array.mem_append.1 hm with h | h
  ·exact ha v h
  ·have:=(Array.mem_replicate.1 h).2
   subst this
   exact .of_flat rfl
 ·have:x=.code c:=by simpa [Frame.at] using hx
  subst this
  exact h3
 ·have:Tryd.prog.funcs[f]? = some fn':=hfn
  rw [h1] at this
  cases this
  exact h4
theorem SN (p:Nat) (k:Wk) (ts:List Nat) (vv rv:Value) (hC:zO V p k ts vv rv) (hok:k.Ok) (s:SS) (hs:s.WF) (hlo:∀ i,0≤(s.aP i).1) (hhi:∀ i,(s.aP i).2≤1000) (st:Bool) (i:Nat) (hi:i < k.n)
  (D:List Nat) (hD:Closed V D) (hp:p∈D) (bt bs bst bf c:Nat) {t1 t2 t3 t4:TypeId} (h1:V bt=some (.cells #[ptr (ts.getD i 0)] t1 (0,0))) (h2:V bs=some (.cells (dJ s).toArray t2 (0,0)))
  (h3:V bst=some (.cells #[.bool st] t3 (0,0))) (h4:V bf=some (.cells #[.chan (some c)] t4 (0,0))) (hc:∃ o,w.heap[c]? = some o∧DY o=true)
  (hg:Wg.gN≤bt∧Wg.gN≤bs∧Wg.gN≤bst∧Wg.gN≤bf∧Wg.gN≤c) (hV:V.In w) (hh:ay OC w) :
  WT Tryd.prog c (wX (bt :: bs :: bst :: bf :: c :: D)) (AtSend Tryd.prog c (aJ (kX k s st i)) (wX (bt :: bs :: bst :: bf :: c :: D))) (fun _=>False)
   (kG Tryd.prog [{ target:=.fn (.func 123) #[ptr bt,ptr bs,ptr bst,ptr bf],args:=#[] }]) [] w:=by
 obtain ⟨DD,hDD⟩:∃ DD,bt :: bs :: bst :: bf :: c :: D=DD:=⟨_,rfl⟩
 rw [hDD]
 have mt:bt∈DD:=by subst hDD;simp
 have ms:bs∈DD:=by subst hDD;simp
 have mst:bst∈DD:=by subst hDD;simp
 have mf:bf∈DD:=by subst hDD;simp
 have mc:c∈DD:=by subst hDD;simp
 have mD:∀ b∈D,b∈DD:=fun b hb=>by subst hDD;simp [hb]
 obtain ⟨hCk,htk⟩:=hC.keep hD hp
 have hCF:zO (Iz V DD) p k ts vv rv:=Uf hCk fun b i v h=>VA mD h
 have hInF:(Iz V DD).In (oU DD w):=Yk hV
 have hN:∀ b∈DD,Tryd.prog.globals.size≤b:=by
  subst hDD
  intro b hb
  simp only [List.mem_cons] at hb
  rcases hb with rfl | rfl | rfl | rfl | rfl | hb
  ·exact hg.1
  ·exact hg.2.1
  ·exact hg.2.2.1
  ·exact hg.2.2.2.1
  ·exact hg.2.2.2.2
  ·exact hD.ge b hb
 have hlt:Tryd.prog.globals.size≤w.heap.size:=by
  have:=lt_of_heap (hV _ _ h1)
  exact Nat.le_of_lt (Nat.lt_of_le_of_lt hg.1 this)
 have hrel:WR Tryd.prog.globals.size (iq DD) (wX DD) (oU DD w) w:=by
  refine XH hN hlt fun b hb=>?_
  rw [← hDD] at hb
  simp only [List.mem_cons] at hb
  rcases hb with rfl | rfl | rfl | rfl | rfl | hb
  ·refine .inl ⟨_,_,hV _ _ h1,fun v hv=>?_⟩
   have:v=ptr (ts.getD i 0):=by simpa using hv
   subst this
   exact sF mD (.inr (.inl ⟨_,_,rfl,htk i hi⟩))
  ·refine .inl ⟨_,_,hV _ _ h2,fun v hv=>?_⟩
   refine sF mD (.inl ?_)
   have hv':v∈dJ s:=by simpa using hv
   exact yL s v hv'
  ·refine .inl ⟨_,_,hV _ _ h3,fun v hv=>?_⟩
   have:v=.bool st:=by simpa using hv
   subst this
   exact .base (.flat rfl)
  ·refine .inl ⟨_,_,hV _ _ h4,fun v hv=>?_⟩
   have:v=.chan (some c):=by simpa using hv
   subst this
   exact .base (.chan ⟨rfl,mc⟩)
  ·exact .inr hc
  ·obtain ⟨cs,t,hb1,hb2⟩:=hD.cells b hb
   exact .inl ⟨cs,t,hV _ _ hb1,fun v hv=>sF mD (hb2 v hv)⟩
 obtain ⟨fn,cb,hf1,hf2,_,hf4,hf5⟩:=XJ 123 rfl
 have hres:Tryd.f123.results=#[]:=by kernel_rfl
 rw [Tryd.func123] at hf1
 cases hf1
 let args:Array Value:=#[ptr bt,ptr bs,ptr bst,ptr bf]
 let Stop:Frame→List Frame→World→Prop:=fun fr mine _=>mine=[]∧∃ a':Act,fr=(Frame.enter Tryd.prog 123 args .normal).at a' [.inRegion wJ [2]]∧a'.defers=[]∧a'.tmps.toList[40]? = some (.chan (some c))∧a'.tmps.toList[41]? = some (aJ (kX k s st i))
 refine .step fun w1 hr1=>⟨Frame.enter Tryd.prog 123 (#[] ++ args) .deferred,[kG Tryd.prog []],w1,#[],fun _=>False,fun main cs=>NT Tryd.func123 hf5 hf2 main cs w1,by simp,.refl _ w1,.refl _ w1,?_⟩
 have e0:(#[] ++ args:Array Value)=args:=by simp
 rw [e0]
 have hr1':dn c (sK (wX DD) (own (wX DD) (iq DD))) w w1:=by rw [QF];exact hr1
 have hw1:=Jz hrel hr1'
 have hwt:=ER (P:=Tryd.prog) (K:=.deferred) (ch:=c) (D:=wX DD) (R:=iq DD) (f0:=123) (Stop:=Stop) XJ lT (fun fr mine w τ d _ h=>h) (fun fr mine w h=>by obtain ⟨_,a',rfl,_⟩:=h;exact .inl rfl)
  (fr:=Frame.enter Tryd.prog 123 args .normal) (fra:=Frame.enter Tryd.prog 123 args .deferred) (mine:=[]) (minea:=[]) (G8 lT trivial args)
  (Ue rfl fun v hv=>by
   have:v=ptr bt∨v=ptr bs∨v=ptr bst∨v=ptr bf:=by simpa [args] using hv
   rcases this with rfl | rfl | rfl | rfl
   ·exact .base (.base (.ptr ⟨⟨rfl,mt⟩,rfl,rfl⟩))
   ·exact .base (.base (.ptr ⟨⟨rfl,ms⟩,rfl,rfl⟩))
   ·exact .base (.base (.ptr ⟨⟨rfl,mst⟩,rfl,rfl⟩))
   ·exact .base (.base (.ptr ⟨⟨rfl,mf⟩,rfl,rfl⟩)))
  hw1 (FH (w:=w) hh) (fun τ d=>by
   have hcell:∀ {b:Nat} {v:Value} {t:TypeId},b∈DD→V b=some (.cells #[v] t (0,0))→(Iz V DD).Cell b 0 v:=fun hb h=>Ac hb ⟨_,_,_,h,rfl⟩
   have hrg:(Iz V DD).Range bs 0 (dJ s):=fun j v hj=>Ac ms ⟨_,_,_,h2,by rw [Nat.zero_add];simpa using hj⟩
   obtain ⟨a',w',⟨q1,q2,q3,_⟩,q4⟩:=Md (w:=(oU DD w).re τ d) p k ts vv rv hCF hok s hs hlo hhi st i hi bt bs bst bf c (hcell mt h1) hrg (hcell mst h3) (hcell mf h4) hInF [floor Tryd.prog]
   exact ⟨_,[],w',⟨rfl,a',rfl,q1,q2,q3⟩,q4⟩)
 have hwt2:=hwt.below [kG Tryd.prog []]
 rw [QF] at hwt2
 refine hwt2.mono fun wr fr mine w2 ⟨m,hm,hst⟩=>?_
 subst hm
 obtain ⟨R',frl,minel,wl2,hwr,hle,⟨hml,a',hfrl,hdf,h40,h41⟩,_,hstk,hw2⟩:=hst
 subst hml
 cases m with
 | cons x m=>exact hstk.elim
 | nil =>
  have hF:FQ Tryd.prog R' frl fr:=hstk.1
  have hfn:fr.fn=123:=by rw [hF.fn,hfrl];rfl
  have htodo:fr.todo=[.inRegion wJ [2]]:=by rw [hF.todo,hfrl];rfl
  have hmode:fr.mode=.run:=by rw [hF.mode,hfrl];rfl
  have htm:frl.tmps=a'.tmps:=by rw [hfrl];rfl
  have hfr:fr=fr.at ⟨fr.tmps,[]⟩ [.inRegion wJ [2]]:=by
   have h1:=hF.defers'
   have h2:=hF.round'
   cases fr
   simp_all [Frame.at]
  obtain ⟨v40,h40',r40⟩:=hF.tmps.2 40 (.chan (some c)) (by rw [htm];simpa using h40)
  obtain ⟨v41,h41',r41⟩:=hF.tmps.2 41 (aJ (kX k s st i)) (by rw [htm];simpa using h41)
  have e40:=XC hw2 mc r40
  have e41:=Xj r41
  subst e40
  subst e41
  rw [hfr]
  refine atSend_of (i:=2) (o:=wJ[2]!) (x:=.tmp 40) (y:=.tmp 41) rfl rfl rfl ?_ ?_ hF.kind rfl (fn:=Tryd.f123) (by rw [hfn];exact Tryd.func123) hres
  ·show fr.tmps.getD 40 undef=_
   rw [Array.getD_eq_getD_getElem?,h40']
   rfl
  ·show fr.tmps.getD 41 undef=_
   rw [Array.getD_eq_getD_getElem?,h41']
   rfl
end Go.Proofs.YtjjmefieegcddaaDoor
namespace Go.Ph
open Go
open Go.Tm
open Go.Sr
open Go.Conc
section
variable {P:Program} {c:Nat} {D0 wr0:Nat→Prop} {vs:List Value} {w:World} {Q:wY}
theorem oK.aaN {a:Goroutine} {d:Nat} (h:oK P c D0 wr0 vs a (w.at d) Q):oK P c D0 wr0 vs a w Q:=by
 have:=h.rely (w':=(w.at d).at w.drawn) (.at _ _ _)
 exact this
theorem Uu {fr:Frame} {cs:List Frame} (h:∀ w1,dn c (sK D0 wr0) w w1→∃ fr' w2 es wr',(∀ main cs',stepG P main (G fr cs') w1=.go (G fr' cs') w2 es)∧(∀ e∈es,Ae D0 wr' e)∧BI wr0 w1 w2∧Ic wr0 wr' w1 w2∧oK P c D0 wr' vs (G fr' cs) w2 Q) :
  oK P c D0 wr0 vs (G fr cs) w Q:=by
 have hwt:WT P c D0 (fun wr fr mine w=>oK P c D0 wr vs (G fr (mine ++ cs)) w Q) wr0 fr [] w:=by
  refine .step fun w1 hr=>?_
  obtain ⟨fr',w2,es,wr',h1,h2,h3,h4,h5⟩:=h w1 hr
  exact ⟨fr',[],w2,es,wr',fun main cs'=>h1 main cs',h2,h3,h4,.stop fun w3 h6=>h5.rely h6⟩
 exact Vb (mine:=[]) (fun wr fr mine w d h=>h.aaN) hwt fun _ _ _ _ h=>h
theorem WT.widen {ch:Nat} {D D' wr wr0:Nat→Prop} {Stop:vO} {fr:Frame} {mine:List Frame} (hD:∀ b,D b→D' b∨wr0 b) (h:WT P ch D Stop wr fr mine w) :
  WT P ch D' (fun wr' fr mine w=>∃ x,wr'=(fun b=>wr0 b∨x b)∧Stop x fr mine w) (fun b=>wr0 b∨wr b) fr mine w:=by
 obtain ⟨τ,h⟩:=h
 have hsub:∀ wr:Nat→Prop,∀ b,sK D wr b→sK D' (fun b=>wr0 b∨wr b) b:=fun wr b hb=>by
  rcases hb with hb | hb
  ·rcases hD b hb with h | h
   ·exact .inl h
   ·exact .inr (.inl h)
  ·exact .inr (.inr hb)
 induction τ generalizing wr fr mine w with
 | leaf=>exact .stop fun w' hr=>⟨wr,rfl,h w' (hr.sub (hsub wr))⟩
 | node f ih =>
  refine .mk fun w' hr=>?_
  rcases h w' (hr.sub (hsub wr)) with h | ⟨fr',mine',w2,es,wr',h1,h2,h3,h4,h5⟩
  ·exact .inl ⟨wr,rfl,h⟩
  ·refine .inr ⟨fr',mine',w2,es,fun b=>wr0 b∨wr' b,h1,fun e he=>?_,?_,?_,ih w' h5⟩
   ·have he:=h2 e he
    obtain ⟨loc,wrt,sy⟩:=e
    unfold Ae at he ⊢
    cases loc with
    | cell a =>
     refine ⟨he.1,?_⟩
     rcases he.2 with h | ⟨h,hw⟩
     ·exact .inl (.inr h)
     ·rcases hD _ h with h | h
      ·exact .inr ⟨h,hw⟩
      ·exact .inl (.inl h)
    | obj r =>
     refine ⟨he.1,?_⟩
     rcases he.2 with h | h
     ·exact .inl (.inr h)
     ·rcases hD _ h with h | h
      ·exact .inr h
      ·exact .inl (.inl h)
    | mark m=>exact he
    | _=>exact he.elim
   ·exact ⟨h3.size,fun b hb hn=>h3.keep b hb fun h=>hn (.inr h),h3.os,h3.output,h3.tape,h3.okh⟩
   ·refine ⟨fun b hb=>hb.imp id (h4.le b),fun b hb=>?_⟩
    rcases hb with hb | hb
    ·exact .inl (.inl hb)
    ·rcases h4.fresh b hb with h | h
     ·exact .inl (.inr h)
     ·exact .inr h
structure yY (ch:Nat) (D wr:Nat→Prop) (w w':World):Prop where
 size:w.heap.size≤w'.heap.size
 keep:∀ b,b < w.heap.size→D b→¬ wr b→vU ch w w' b
 os:w'.os=w.os
 output:w'.output=w.output
 tape:w'.tape=w.tape
theorem WT.kept {ch:Nat} {D wr:Nat→Prop} {Stop:vO} {fr:Frame} {mine:List Frame} (h:WT P ch D Stop wr fr mine w) :
  WT P ch D (fun wr' fr mine w'=>Stop wr' fr mine w'∧yY ch D wr w w'∧∀ b,wr' b→wr b∨w.heap.size≤b) wr fr mine w:=by
 have key:∀ (w0:World) (wr0:Nat→Prop) (τ:Tr) (wr:Nat→Prop) (fr:Frame) (mine:List Frame) (w:World),QG P ch D Stop τ wr fr mine w→yY ch D wr0 w0 w→(∀ b,wr b→wr0 b∨w0.heap.size≤b) →
   WT P ch D (fun wr' fr mine w'=>Stop wr' fr mine w'∧yY ch D wr0 w0 w'∧∀ b,wr' b→wr0 b∨w0.heap.size≤b) wr fr mine w:=by
  intro w0 wr0 τ
  have rl:∀ {wr:Nat→Prop} {w w':World},yY ch D wr0 w0 w→dn ch (sK D wr) w w'→yY ch D wr0 w0 w':=fun hk hr =>
   ⟨Nat.le_trans hk.size hr.size,fun b hb hD hw=>(hk.keep b hb hD hw).trans (hr.keep b (.inl hD)),hr.os.trans hk.os,hr.output.trans hk.output,hr.tape.trans hk.tape⟩
  induction τ with
  | leaf=>exact fun wr fr mine w h hk hf=>.stop fun w' hr=>⟨h w' hr,rl hk hr,hf⟩
  | node f ih =>
   intro wr fr mine w h hk hf
   refine .mk fun w' hr=>?_
   have hk':=rl hk hr
   rcases h w' hr with h | ⟨fr',mine',w2,es,wr',h1,h2,h3,h4,h5⟩
   ·exact .inl ⟨h,hk',hf⟩
   ·refine .inr ⟨fr',mine',w2,es,wr',h1,h2,h3,h4,ih w' wr' fr' mine' w2 h5 ⟨Nat.le_trans hk'.size h3.size,fun b hb hD hw=>(hk'.keep b hb hD hw).trans (.inl (h3.keep b (Nat.lt_of_lt_of_le hb hk'.size) fun h=>?_)),h3.os.trans hk'.os,h3.output.trans hk'.output,h3.tape.trans hk'.tape⟩ fun b hb=>?_⟩
    ·rcases hf b h with h | h
     ·exact hw h
     ·omega
    ·rcases h4.fresh b hb with h | h
     ·exact hf b h
     ·exact .inr (Nat.le_trans hk'.size h.1)
 obtain ⟨τ,h⟩:=h
 exact key w wr τ wr fr mine w h ⟨Nat.le_refl _,fun b _ _ _=>.refl w b,rfl,rfl,rfl⟩ fun b hb=>.inl hb
theorem tV {a:Goroutine} (h:∀ w1,dn c (sK D0 wr0) w w1→ay OC w1→(∃ k,w1.heap[c]? = some (.chan 0 #[] false k k false))→oK P c D0 wr0 vs a w1 Q):oK P c D0 wr0 vs a w Q:=by
 intro s gs sl t w1 hr hp
 exact h w1 hr hp.heap hp.chan s gs sl t w1 (.refl _ w1) hp
theorem V8 [bT] {N:Nat} {DD WW:List Nat} (hN:∀ b∈DD ++ WW,N≤b) (hlt:N≤w.heap.size) (hdis:∀ b∈WW,b ∉ DD)
  (hobj:∀ b∈DD,(∃ c t,w.heap[b]? = some (.cells c t (0,0))∧∀ v∈c,qV (iq (DD ++ WW)) v v)∨∃ o,w.heap[b]? = some o∧DY o=true)
  (hobjW:∀ b∈WW,∃ c t,w.heap[b]? = some (.cells c t (0,0))∧∀ v∈c,qV (iq (DD ++ WW)) v v):WR N (iq (DD ++ WW)) (wX DD) (oU DD w) w:=by
 refine ⟨?_,?_,?_,?_,?_,rfl,rfl,?_,by rw [oJ];exact hlt,hlt⟩
 ·rintro x b ⟨h,hb⟩
  subst h
  by_cases hd:b∈DD
  ·rcases hobj _ hd with ⟨c,t,h1,h2⟩ | ⟨o,h1,h2⟩
   ·refine ⟨.cells c t (0,c.size),.cells c t (0,0),?_,h1,.inl ⟨c,c,t,(0,c.size),(0,0),rfl,rfl,⟨rfl,fun i v hv=>⟨v,hv,h2 v (Array.mem_of_getElem? hv)⟩⟩,fun _=>rfl,fun h=>(h hd).elim⟩⟩
    rw [jT,h1]
    simp [hd,JZ]
   ·refine ⟨o,o,?_,h1,.inr (.inr ⟨hd,h2,h2⟩)⟩
    rw [jT,h1]
    cases o <;> first | (cases h2;done) | (simp only [Option.map_some];split <;> rfl)
  ·have hw:b∈WW:=(List.mem_append.1 hb).resolve_left hd
   obtain ⟨c,t,h1,h2⟩:=hobjW _ hw
   refine ⟨.cells c t (0,0),.cells c t (0,0),?_,h1,.inl ⟨c,c,t,(0,0),(0,0),rfl,rfl,⟨rfl,fun i v hv=>⟨v,hv,h2 v (Array.mem_of_getElem? hv)⟩⟩,fun h=>(hd h).elim,fun _=>⟨rfl,rfl⟩⟩⟩
   rw [jT,h1]
   simp [hd]
 ·rintro b b1 b2 ⟨rfl,_⟩ ⟨rfl,_⟩
  rfl
 ·rintro b1 b2 b ⟨h1,_⟩ ⟨h2,_⟩
  exact h1.symm.trans h2
 ·rintro b b' ⟨rfl,_⟩ _
  rfl
 ·rintro b b' ⟨rfl,h⟩
  exact ⟨hN _ h,hN _ h⟩
 ·intro b hb
  rw [oJ]
  rcases hobj b hb with ⟨c,t,h1,_⟩ | ⟨o,h1,_⟩ <;> exact (Array.getElem?_eq_some_iff.1 h1).1
theorem UG {DD WW:List Nat} (hdis:∀ b∈WW,b ∉ DD):own (wX DD) (iq (DD ++ WW))=wX WW:=by
 funext b
 refine propext ⟨fun ⟨x,⟨h1,h2⟩,h3⟩=>?_,fun h=>⟨b,⟨rfl,List.mem_append_right _ h⟩,hdis b h⟩⟩
 subst h1
 exact (List.mem_append.1 h2).resolve_left h3
structure Seg [bT] (P:Program) (D0 wr0:Nat→Prop) (DD WW:List Nat) (w:World):Prop where
 rd:∀ b∈DD,D0 b∨wr0 b
 wr:∀ b∈WW,wr0 b
 dis:∀ b∈WW,b ∉ DD
 ge:∀ b∈DD ++ WW,P.globals.size≤b
 lt:P.globals.size≤w.heap.size
 obj:∀ b∈DD,(∃ c t,w.heap[b]? = some (.cells c t (0,0))∧∀ v∈c,qV (iq (DD ++ WW)) v v)∨∃ o,w.heap[b]? = some o∧DY o=true
 objW:∀ b∈WW,∃ c t,w.heap[b]? = some (.cells c t (0,0))∧∀ v∈c,qV (iq (DD ++ WW)) v v
theorem WB [bT] (hC:F7 P) (hS:ED P fun _=>True) {DD WW:List Nat} (hg:Seg P D0 wr0 DD WW w) (hh:ay OC w)
  {f0:FuncId} {b:Frame} {a:Act} {todo:List Item} {cs:List Frame} (hst:uw f0 (b.at a todo) []) (hsr:FQ P (iq (DD ++ WW)) (b.at a todo) (b.at a todo))
  {S:Act→List Item→World→Prop} (hS':∀ a t w τ d,S a t w→S a t (w.re τ d))
  (hrun:∀ τ d,∃ a' todo' w',S a' todo' w'∧Steps P (lone (b.at a todo) [floor P] ((oU DD w).re τ d)) (lone (b.at a' todo') [floor P] w'))
  (hk:∀ R' a' a2 todo' wl w2,S a' todo' wl→le (iq (DD ++ WW)) R'→AF (VR R') a'.tmps a2.tmps→a2.defers=[]→WR P.globals.size R' (wX DD) wl w2→yY c D0 wr0 w w2→(∀ b,own (wX DD) R' b→wr0 b∨w.heap.size≤b)→ay OC wl →
   oK P c D0 (fun b=>wr0 b∨own (wX DD) R' b) vs (G (b.at a2 todo') cs) w2 Q) :
  oK P c D0 wr0 vs (G (b.at a todo) cs) w Q:=by
 have hrel:=V8 (w:=w) hg.ge hg.lt hg.dis hg.obj hg.objW
 let Stop:Frame→List Frame→World→Prop:=fun fr mine w=>mine=[]∧∃ a' todo',fr=b.at a' todo'∧S a' todo' w
 have hwt:=ER (P:=P) (K:=.normal) (ch:=c) (D:=wX DD) (R:=iq (DD ++ WW)) (f0:=f0) (Stop:=Stop) hC hS (fun fr mine w τ d _ h=>by obtain ⟨h1,a',t',h2,h3⟩:=h;exact ⟨h1,a',t',h2,hS' _ _ _ _ _ h3⟩)
  (fun fr mine w h=>by obtain ⟨_,a',t',rfl,_⟩:=h;exact .inl rfl) (mine:=[]) (minea:=[]) hst ⟨hsr,hst.2.2.1⟩ hrel (FH hh) (fun τ d=>by
   obtain ⟨a',t',w',h1,h2⟩:=hrun τ d
   exact ⟨_,[],w',⟨rfl,a',t',rfl,h1⟩,h2⟩)
 rw [UG hg.dis] at hwt
 have hwd:=hwt.widen (D':=D0) (wr0:=wr0) hg.rd
 have e0:(fun b=>wr0 b∨wX WW b)=wr0:=by
  funext b
  exact propext ⟨fun h=>h.elim id (hg.wr b),.inl⟩
 rw [e0] at hwd
 have hwd2:WT P c D0 (fun wr fr mine w=>oK P c D0 wr vs (G fr (mine ++ cs)) w Q) wr0 (b.at a todo) [] w:=by
  refine hwd.kept.mono fun wr fr mine w2 ⟨⟨x,hx,R',frl,minel,wl,hxo,hle,⟨hm,a',t',hfrl,hs⟩,hhl,hstk,hw2⟩,hkept,hfrs⟩=>?_
  subst hm
  cases mine with
  | cons y m=>exact hstk.elim
  | nil =>
   have hF:FQ P R' frl fr:=hstk.1
   have hfr:fr=b.at ⟨fr.tmps,[]⟩ t':=by
    have h1:=hF.defers'
    have h2:=hF.round'
    have h3:=hF.fn
    have h4:=hF.todo
    have h5:=hF.mode
    have h6:fr.kind=b.kind:=hstk.2.trans hst.2.2.1.symm
    subst hfrl
    cases fr
    simp_all [Frame.at]
   rw [hfr,hx,hxo]
   have hT:=hF.tmps
   rw [hfrl] at hT
   exact hk R' a' ⟨fr.tmps,[]⟩ t' wl w2 hs hle hT rfl hw2 hkept (fun b hb=>hfrs b (by rw [hx,hxo];exact .inr hb)) hhl
 exact Vb (mine:=[]) (fun wr fr mine w d h=>h.aaN) hwd2 fun _ _ _ _ h=>h
end
def MN (m:Region.Mode) (ops:Array Oper):Nat→Array Bool→List Nat→List (List Nat)
 | 0,_,acc=>[acc.reverse]
 | fuel+1,listed,acc =>
  let rs:=(List.range ops.size).filter fun i=>!listed.getD i true && ((ops[i]?).map (·.after.all fun e=>!Region.binds m e || listed.getD e.on false)).getD false
  if rs.isEmpty then [acc.reverse] else rs.flatMap fun i=>MN m ops fuel (listed.setIfInBounds i true) (i :: acc)
theorem go_mem (m:Region.Mode) (ops:Array Oper):∀ (fuel t:Nat) (listed:Array Bool) (acc:List Nat),Region.linearise.go m ops fuel t listed acc∈MN m ops fuel listed acc
 | 0,_,_,_=>by simp [Region.linearise.go,MN]
 | fuel+1,t,listed,acc=>by
  unfold Region.linearise.go MN
  generalize ((List.range ops.size).filter fun i=>!listed.getD i true && ((ops[i]?).map (·.after.all fun e=>!Region.binds m e || listed.getD e.on false)).getD false)=rs
  dsimp only
  cases h:rs[t % rs.length]? with
  | none =>
   have:rs.isEmpty=true:=by
    rw [List.isEmpty_iff]
    rcases Nat.eq_zero_or_pos rs.length with h0 | h0
    ·exact List.length_eq_zero_iff.1 h0
    ·rw [List.getElem?_eq_getElem (Nat.mod_lt t h0)] at h
     cases h
   simp [this]
  | some i =>
   have hm:=List.mem_of_getElem? h
   have:rs.isEmpty=false:=by
    cases rs with
    | nil=>cases hm
    | cons=>rfl
   simp only [this,Bool.false_eq_true,if_false,List.mem_flatMap]
   exact ⟨i,hm,go_mem m ops fuel _ _ _⟩
def orders (ops:Array Oper):List (List Nat):=MN .any ops ops.size (Array.replicate ops.size false) []
theorem Je (ops:Array Oper) (t:Nat):Region.schedule true ops t∈orders ops:=by
 have:Region.schedule true ops t=Region.linearise.go .any ops ops.size t (Array.replicate ops.size false) []:=by simp [Region.schedule,Region.linearise]
 rw [this]
 exact go_mem _ _ _ _ _ _
end Go.Ph
namespace Go.Tm
open Go
open Go.Conc
section
variable {P:Program}
theorem uF (hS:ED P fun _=>True) {f:FuncId} {args:Array Value} {R:Ending→World→Prop} (hins:Ins R) (hout:∀ w,¬ R .outgrown w) {w:World} (hw:ay OC w)
  (h:∀ τ d,Calls P f args (w.re τ d) R):kL P f args w R:=by
 intro cs
 let Stop:Frame→List Frame→World→Prop:=fun fr mine w=>mine=[]∧∃ e,R e w∧e≠.outgrown∧fr.fn=f∧fr.leaving P w e
 have hterm:Term P (SH f Stop) (Frame.enter P f args .normal) [] w:=by
  refine qU hS ?_ (G8 hS trivial args) hw ?_
  ·rintro fr mine w τ d hw ⟨rfl,e,h1,h2,h3,h4⟩
   exact ⟨rfl,e,hins _ _ _ _ h1,h2,h3,kD hw h4 τ d⟩
  ·intro τ d
   obtain ⟨e,w',fr',h1,h2,h3,h4⟩:=h τ d [floor P]
   cases e with
   | outgrown=>exact (hout _ h1).elim
   | returned v=>exact ⟨fr',[],w',⟨rfl,_,h1,by simp,h3,h4⟩,h2⟩
   | panicked chain=>exact ⟨fr',[],w',⟨rfl,_,h1,by simp,h3,h4⟩,h2⟩
 have:=uS (fun fr mine w d h=>by
  obtain ⟨⟨rfl,e,h1,h2,h3,h4⟩,h5,h6⟩:=h
  exact ⟨⟨rfl,e,hins _ _ w.tape d h1,h2,h3,kD h5 h4 w.tape d⟩,h5,h6⟩) hterm cs
 refine this.mono fun a' w' ⟨fr',mine',h1,⟨h2,e,h3,h4,h5,h6⟩,h7,h8⟩=>?_
 subst h2
 exact ⟨e,fr',h1,h3,h5,h6,h4,h7⟩
section
variable {b:Frame} {a:Act} {k:List Item} {cs:List Frame} {w:World} {Q:Goroutine→World→Prop}
end
end
variable {P:Program}
def fA (P:Program) (tgt:List Item) (S:Act→World→Prop) (todo:List Item) (a:Act) (w:World):Prop :=
 ∀ (b:Frame) (cs:List Frame),b.kind=.normal→∃ a' w',S a' w'∧Steps P (lone (b.at a todo) cs w) (lone (b.at a' tgt) cs w')
section
variable {tgt k:List Item} {S:Act→World→Prop} {a:Act} {w:World}
theorem bG (h:S a w):fA P tgt S tgt a w:=fun _ _ _=>⟨a,w,h,.refl _ _⟩
theorem jd {todo todo':List Item} {a':Act} {w':World} (hs:∀ (b:Frame) (cs:List Frame),b.kind=.normal→∃ es,stepG P true (G (b.at a todo) cs) w=.go (G (b.at a' todo') cs) w' es) (h:fA P tgt S todo' a' w'):fA P tgt S todo a w:=by
 intro b cs hb
 obtain ⟨es,he⟩:=hs b cs hb
 obtain ⟨a2,w2,h1,h2⟩:=h b cs hb
 exact ⟨a2,w2,h1,.head (jZ he) h2⟩
theorem au {x y:Code} (h:fA P tgt S (.code x :: .code y :: k) a w):fA P tgt S (.code (.seq x y) :: k) a w:=jd (fun _ _ _=>⟨_,stepG_seq⟩) h
theorem jg {id:Nat} {x:Code} (h:fA P tgt S (.code x :: .inBlock id :: k) a w):fA P tgt S (.code (.block id x) :: k) a w:=jd (fun _ _ _=>⟨_,stepG_block⟩) h
theorem jE {id:Nat} (h:fA P tgt S k a w):fA P tgt S (.inBlock id :: k) a w:=jd (fun _ _ _=>⟨_,stepG_inBlock⟩) h
theorem zh {x:Code} (h:fA P tgt S (.code x :: .inLoop x :: k) a w):fA P tgt S (.code (.loop x) :: k) a w:=jd (fun _ _ _=>⟨_,stepG_loop⟩) h
theorem jr {x:Code} (h:fA P tgt S (.code x :: .inLoop x :: k) a w):fA P tgt S (.inLoop x :: k) a w:=jd (fun _ _ _=>⟨_,stepG_inLoop⟩) h
theorem lu (h:fA P tgt S k a w):fA P tgt S (.code .skip :: k) a w:=jd (fun _ _ _=>⟨_,stepG_skip⟩) h
theorem dZ {o:Operand} {x y:Code} {t:Bool} (hc:a.eval o=.bool t) (h:fA P tgt S (.code (if t then x else y) :: k) a w):fA P tgt S (.code (.cond o x y) :: k) a w:=jd (fun _ _ _=>⟨_,stepG_cond hc⟩) h
theorem lG {id:Nat} {k':List Item} (hk:exitTo id k=some k') (h:fA P tgt S k' a w):fA P tgt S (.code (.exit id) :: k) a w:=jd (fun _ _ _=>⟨_,stepG_exit hk⟩) h
theorem ig {id:Nat} {ops:Array Oper} (h:fA P tgt S (.inRegion ops (List.range ops.size) :: k) a w):fA P tgt S (.code (.region id ops false) :: k) a w:=jd (fun _ _ _=>⟨_,stepG_region⟩) h
theorem dH {ops:Array Oper} (h:fA P tgt S k a w):fA P tgt S (.inRegion ops [] :: k) a w:=jd (fun _ _ _=>⟨_,stepG_region_end⟩) h
theorem cO {ops:Array Oper} {i:Nat} {rest:List Nat} {o:Oper} {v:Value} {w':World} (ho:ops[i]? = some o) (hw:Region.wanted o (yielded ops a.tmps)=true) (hr:(execOp a.eval o).run P w=.ok (.value v) w')
  (h:fA P tgt S (.inRegion ops rest :: k) (a.put o.dst v) w'):fA P tgt S (.inRegion ops (i :: rest) :: k) a w :=
 jd (fun _ _ hb=>⟨_,stepG_value ho hw (by simp [Frame.at,hb]) hr⟩) h
theorem Q8 {ops:Array Oper} {i:Nat} {rest:List Nat} {o:Oper} {w':World} (ho:ops[i]? = some o) (hw:Region.wanted o (yielded ops a.tmps)=true) (hr:(execOp a.eval o).run P w=.ok .skip w')
  (h:fA P tgt S (.inRegion ops rest :: k) (a.put o.dst undef) w'):fA P tgt S (.inRegion ops (i :: rest) :: k) a w :=
 jd (fun _ _ hb=>⟨_,stepG_none ho hw (by simp [Frame.at,hb]) hr⟩) h
theorem aA {x:Code} (h:x.wp P (fun e a' w'=>e=.normal∧fA P tgt S k a' w') a w):fA P tgt S (.code x :: k) a w:=by
 intro b cs hb
 obtain ⟨e,a1,w1,⟨rfl,hR⟩,harr⟩:=h b k cs
 obtain ⟨a',w',hs,hst⟩:=hR b cs hb
 exact ⟨a',w',hs,Steps.trans harr hst⟩
theorem rZ {ops:Array Oper} {i:Nat} {rest:List Nat} {o:Oper} {f:FuncId} {args:Array Value} {w':World} (ho:ops[i]? = some o) (hw:Region.wanted o (yielded ops a.tmps)=true) (hr:(execOp a.eval o).run P w=.ok (.enter f args) w')
  (h:Calls P f args w' fun e w''=>∃ v,e=.returned v∧fA P tgt S (.inRegion ops rest :: k) (a.put o.dst v) w''):fA P tgt S (.inRegion ops (i :: rest) :: k) a w:=by
 intro b cs hb
 obtain ⟨e,w2,fr,⟨v,rfl,hR⟩,hst,hfn,hm,hd,hk,fn,hf,hrs⟩:=h (b.at a (.inRegion ops (i :: rest) :: k) :: cs)
 obtain ⟨a',w3,hs,hst2⟩:=hR b cs hb
 refine ⟨a',w3,hs,.head (jZ (stepG_enter ho hw (by simp [hb]) hr)) (Steps.trans hst (.head (jZ (es:=seen P fr.fn ((results fn fr.tmps).events P w2 #[])) ?_) hst2))⟩
 have hu:stepG P true (G fr (b.at a (.inRegion ops (i :: rest) :: k) :: cs)) w2=unwind P true fr (b.at a (.inRegion ops (i :: rest) :: k) :: cs) none w2:=by simp only [stepG,G,hm]
 have hfin:(b.at a (.inRegion ops (i :: rest) :: k)).finish v=b.at (a.put o.dst v) (.inRegion ops rest :: k):=by rw [Frame.finish_at,ho];rfl
 rw [hu]
 simp only [unwind,hd,hm,hf,Sem.runT_eq,hrs,doReturn,hk,GStep.after,Array.append_empty,G,hfin]
theorem fA.mono {S':Act→World→Prop} {todo:List Item} (h:fA P tgt S todo a w) (hs:∀ a w,S a w→S' a w):fA P tgt S' todo a w:=fun b cs hb=>by
 obtain ⟨a',w',h1,h2⟩:=h b cs hb
 exact ⟨a',w',hs _ _ h1,h2⟩
end
theorem yE (hS:ED P fun _=>True) {f0:FuncId} {b:Frame} {a:Act} {todo tgt:List Item} {cs:List Frame} {w:World} {Q:Goroutine→World→Prop} (hst:uw f0 (b.at a todo) []) (hw:ay OC w)
  {S:Act→World→Prop} (hS':∀ a w τ d,S a w→S a (w.re τ d)) (hrun:∀ τ d,fA P tgt S todo a (w.re τ d))
  (hk:∀ a' w',S a' w'→ay OC w'→qh (b.at a' tgt)→kU P (G (b.at a' tgt) cs) w' Q):kU P (G (b.at a todo) cs) w Q:=by
 let Stop:Frame→List Frame→World→Prop:=fun fr mine w=>mine=[]∧∃ a',fr=b.at a' tgt∧S a' w
 have hterm:Term P (SH f0 Stop) (b.at a todo) [] w:=by
  refine qU hS ?_ hst hw ?_
  ·rintro fr mine w τ d hw ⟨rfl,a',h1,h2⟩
   exact ⟨rfl,a',h1,hS' _ _ _ _ h2⟩
  ·intro τ d
   obtain ⟨a',w',h1,h2⟩:=hrun τ d b [floor P] hst.2.2.1
   exact ⟨_,[],w',⟨rfl,a',rfl,h1⟩,h2⟩
 have hB:=uS (fun fr mine w d h=>by
  obtain ⟨⟨rfl,a',h1,h2⟩,h5,h6⟩:=h
  exact ⟨⟨rfl,a',h1,hS' _ _ w.tape d h2⟩,h5,h6⟩) hterm cs
 refine hB.bind fun a1 w1 ⟨fr',mine',h1,⟨h2,a',h3,h4⟩,h5,h6⟩=>?_
 subst h2
 subst h1
 subst h3
 exact hk a' w1 h4 h5 h6.ok
end Go.Tm
namespace Go.Ph
open Go
open Go.Tm
open Go.Sr
open Go.Conc
inductive Fix (DD:List Nat):Value→Prop
 | flat {v:Value}:Sr.flat v=true→Fix DD v
 | ptr {a:Addr}:a.block∈DD→Fix DD (.pointer (some a))
 | slice {a:Addr} {l c:Nat}:a.block∈DD→Fix DD (.slice (some a) l c)
 | chan {r:Nat}:r∈DD→Fix DD (.chan (some r))
 | agg {c:Array Value}:(∀ v∈c,Sr.flat v=true)→Fix DD (.agg c)
section
variable {P:Program} {DD DD':List Nat} {R:BR}
theorem ML [bT] {u u':Value} (hu:Sr.flat u=true) (h:qV R u u'):u'=u:=by
 cases h with
 | base h =>
  cases h with
  | flat _=>rfl
  | ptr _=>cases hu
  | slice _=>cases hu
  | chan _=>cases hu
 | func _ _ _ _ _=>cases hu
theorem Uk [bT] (hR:∀ b∈DD,∀ b',R b b'→b'=b) {v v':Value} (h:Fix DD v) (hv:VR R v v'):v'=v:=by
 cases h with
 | flat hf =>
  cases hv with
  | base h1=>exact ML hf h1
  | agg _ _=>cases hf
 | ptr hb =>
  cases hv with
  | base h1 =>
   cases h1 with
   | base h0 =>
    cases h0 with
    | flat h=>cases h
    | ptr h =>
     obtain ⟨e1,e2,e3⟩:=h
     have:=hR _ hb _ e1
     rename_i a a'
     cases a
     cases a'
     simp_all
 | slice hb =>
  cases hv with
  | base h1 =>
   cases h1 with
   | base h0 =>
    cases h0 with
    | flat h=>cases h
    | slice h =>
     obtain ⟨e1,e2,e3⟩:=h
     have:=hR _ hb _ e1
     rename_i a _ _ a'
     cases a
     cases a'
     simp_all
 | chan hb =>
  cases hv with
  | base h1 =>
   cases h1 with
   | base h0 =>
    cases h0 with
    | flat h=>cases h
    | chan h=>rw [hR _ hb _ h]
 | agg hc =>
  cases hv with
  | base h1 =>
   cases h1 with
   | base h0 =>
    cases h0 with
    | flat h=>cases h
  | agg hsz h =>
   congr 1
   apply Array.ext hsz
   intro i h1 h2
   exact ML (hc _ (Array.getElem_mem h2)) (h i _ _ (Array.getElem?_eq_getElem h2) (Array.getElem?_eq_getElem h1))
theorem bJ [bT] {v:Value} (h:Fix DD v):VR (iq DD) v v:=by
 cases h with
 | flat hf=>exact .of_flat hf
 | ptr hb=>exact .base (.base (.ptr ⟨⟨rfl,hb⟩,rfl,rfl⟩))
 | slice hb=>exact .base (.base (.slice ⟨⟨rfl,hb⟩,rfl,rfl⟩))
 | chan hb=>exact .base (.base (.chan ⟨rfl,hb⟩))
 | agg hc=>exact .Kr ⟨rfl,fun i v hv=>⟨v,hv,.base (.flat (hc v (Array.mem_of_getElem? hv)))⟩⟩
theorem Fix.mono (h:∀ b∈DD,b∈DD') {v:Value} (x:Fix DD v):Fix DD' v:=by
 cases x with
 | flat hf=>exact .flat hf
 | ptr hb=>exact .ptr (h _ hb)
 | slice hb=>exact .slice (h _ hb)
 | chan hb=>exact .chan (h _ hb)
 | agg hc=>exact .agg hc
theorem aag [bT] (hR:∀ b∈DD,∀ b',R b b'→b'=b) {t t':Array Value} (h:AF (VR R) t t') {j:Nat} {v:Value} (hj:t[j]? = some v) (hv:Fix DD v):t'[j]? = some v:=by
 obtain ⟨v',h1,h2⟩:=h.2 j v hj
 rw [Uk hR hv h2] at h1
 exact h1
theorem sQ [bT] {N:Nat} {D:Nat→Prop} {wl wa:World} (hw:WR N R D wl wa) (hle:le (iq DD) R):∀ b∈DD,∀ b',R b b'→b'=b:=fun b hb b' h=>hw.fn b b' b h (hle _ _ ⟨rfl,hb⟩)
theorem WM [bT] {b:Frame} {a:Act} {todo:List Item} (hd:a.defers=[]) (hs:∀ v∈a.tmps,VR (iq DD) v v) (hi:∀ x∈todo,jB P x) (hk:b.kind=.normal) (hr:∀ fn,P.funcs[b.fn]? = some fn→fn.results.size≤1):FQ P (iq DD) (b.at a todo) (b.at a todo) :=
 ⟨rfl,⟨rfl,fun i v hv=>⟨v,hv,hs v (Array.mem_of_getElem? hv)⟩⟩,rfl,hi,hd,hd,rfl,.inl rfl,.inl hk,.inl hk,rfl,rfl,hr⟩
theorem wP [bT] {N:Nat} {D:Nat→Prop} {wl wa:World} (hw:WR N R D wl wa) {b b':Nat} (h:R b b') (hD:¬ D b) {c:Array Value} {t:TypeId} {f:Nat × Nat} (hb:wl.heap[b]? = some (.cells c t f)) :
  ∃ c',wa.heap[b']? = some (.cells c' t (0,0))∧AF (qV R) c c':=by
 obtain ⟨o,o',h1,h2,h3⟩:=hw.obj b b' h
 rw [hb] at h1
 cases h1
 rcases h3 with ⟨c1,c',e,f1,f',e1,rfl,h4,_,h5⟩ | ⟨a,a',l,e1,_⟩ | ⟨h4,_⟩
 ·cases e1
  obtain ⟨_,rfl⟩:=h5 hD
  exact ⟨c',h2,h4⟩
 ·cases e1
 ·exact (hD h4).elim
theorem CX [bT] (hR:∀ b∈DD,∀ b',R b b'→b'=b) {c c':Array Value} (h:AF (qV R) c c') (hc:∀ v∈c,Fix DD v):c'=c:=by
 apply Array.ext h.1
 intro i h1 h2
 exact Uk hR (hc _ (Array.getElem_mem h2)) (.base (h.raw i _ _ (Array.getElem?_eq_getElem h2) (Array.getElem?_eq_getElem h1)))
end
end Go.Ph
namespace Go.Proofs.YtjjmefieegcddaaDoor
open Go.RowKit Go.Wg Go.Mm Go.Wk
open Go Go.Sr Go.Ph Go.Tm Go.Conc
variable {w:World} {V:View}
noncomputable def B97:Code:=match Tryd.f97.body with | some c=>c | none=>.skip
noncomputable def L1:Code:=match Tryd.f97.body with | some (.seq _ (.seq _ (.seq _ (.seq (.seq _ (.block _ (.loop l))) _))))=>l | _=>.skip
noncomputable def K8:Code:=match Tryd.f97.body with | some (.seq _ (.seq _ (.seq _ (.seq _ r))))=>r | _=>.skip
def iU (p:Nat) (s:SS) (st:Bool) (b4 b5 b6 b7 c:Nat) (sl:Value) (n i:Nat) (x10 x18 x19 x20 x21 x22:Value):Array Value :=
 #[ptr p,.agg (dJ s).toArray,.bool st,undef,ptr b4,ptr b5,ptr b6,ptr b7,sl,undef,x10,undef,.chan (some c),ptr p,sl,sl,.int .i64 n,.int .i64 i,x18,x19,x20,x21,x22,undef,undef,undef,undef,undef,undef,undef,undef,undef,undef]
structure ZA (V:View) (w0:World) (p:Nat) (k:Wk) (ts:List Nat) (s:SS) (st:Bool) (b4 b5 b6 b7 c:Nat) (sl:Value) (w:World):Prop where
 kp:Kp w0 w
 h4:w.heap[b4]? = some (.cells (dJ s).toArray 100 (0,0))
 h5:w.heap[b5]? = some (.cells #[.bool st] 4 (0,0))
 h6:w.heap[b6]? = some (.cells #[.int .i64 0,.int .i64 0] 27 (0,0))
 h7:w.heap[b7]? = some (.cells #[.chan (some c)] 165 (0,0))
 hc:w.heap[c]? = some (.chan 0 #[] false 0 0 false)
 row:(dF.row sl 124 1 k.sources.length (k.sources.map fun x=>ptr (ts.getD x 0))).Holds w
 new:∀ b,sl.ownBlock=some b→w0.heap.size≤b
 n4:w0.heap.size≤b4
 n5:w0.heap.size≤b5
 n6:w0.heap.size≤b6
 n7:w0.heap.size≤b7
 nc:w0.heap.size≤c
 n64:b6≠b4∧b6≠b5∧b6≠b7∧sl.ownBlock≠some b6
theorem vY {k:Wk} (hok:k.Ok):0 < k.sources.length:=by
 have h0:=(hok.ves 0 hok.pos).2.1
 exact List.length_pos_of_mem (a:=0) (List.mem_filter.2 ⟨List.mem_range.2 hok.pos,by simp;omega⟩)
theorem VW (w:World):(Instr.makeChan 165 (.int .i64 0)).run Tryd.prog w=.ok (.chan (some w.heap.size)) (w.alloc (.chan 0 #[] false 0 0 false)):=by
 have hi:(Tryd.prog.info? 27).map (·.bytes)=some 16:=by kernel_rfl
 cases hq:Tryd.prog.info? 27 with
 | none=>rw [hq] at hi;cases hi
 | some i =>
  rw [hq] at hi
  have hb:i.bytes=16:=by simpa using hi
  exact run_makeChan (P:=Tryd.prog) (t:=165) Tryd.underlying165 hq .i64 0 (by omega) (by rw [hb];decide)
theorem PG {o:Oper} {ρ:Operand→Value} {x:Operand} (ho:o.op=.makeChan 165 x) (hx:ρ x=.int .i64 0) (w:World):(execOp ρ o).run Tryd.prog w=.ok (.value (.chan (some w.heap.size))) (w.alloc (.chan 0 #[] false 0 0 false)):=by
 unfold execOp
 simp [ho,hx,VW]
theorem D6 {tgt k:List Item} {S:Act→World→Prop} {a:Act} {w0 w:World} {X:List Nat} {L:List dF} (hS:St w0 X V L w) {ops:Array Oper} {i:Nat} {rest:List Nat} {o:Oper} (ho:ops[i]? = some o) (hw:Region.wanted o (yielded ops a.tmps)=true)
  {ty:TypeId} {x y:Operand} (hop:o.op=.store ty x y) {j b:Nat} {i':Nat} {t:TypeId} {cs:List Value} (hj:L[j]? = some (.blk b t cs)) (hx:a.eval x=.pointer (some ⟨b,i',none⟩)) {v:Value} (hy:a.eval y=v) (hv:v.oneCell'=true) (hty:uK Tryd.prog ty=true) (hl:i' < cs.length)
  (h:∀ w',St w0 X V (L.set j (.blk b t (cs.set i' v))) w'→fA Tryd.prog tgt S (.inRegion ops rest :: k) (a.put o.dst undef) w'):fA Tryd.prog tgt S (.inRegion ops (i :: rest) :: k) a w:=by
 obtain ⟨w',hr,hS'⟩:=yg (P:=Tryd.prog) hS hop hj hx hy hv hty hl rfl
 exact Q8 ho hw hr (h w' hS')
theorem LX (p:Nat) (k:Wk) (ts:List Nat) (vv rv:Value) (hC:zO V p k ts vv rv) (hok:k.Ok) (s:SS) (hs:s.WF) (st:Bool) (w:World) (hV:V.In w) :
  fA Tryd.prog [.code (.block 0 (.loop L1)),.code K8] (fun a w'=>∃ b4 b5 b6 b7 c sl,a=⟨iU p s st b4 b5 b6 b7 c sl k.sources.length 0 undef undef undef undef undef undef,[]⟩∧ZA V w p k ts s st b4 b5 b6 b7 c sl w')
   [.code B97] { tmps:=#[ptr p,.agg (dJ s).toArray,.bool st] ++ Array.replicate 30 undef,defers:=[] } w:=by
 have HL:(dJ s).length=18:=dG hs
 have hS:=St.start w V hV
 have hmk:=VW
 simp only [Array.replicate_succ,Array.replicate_zero,List.push_toArray,List.append_toArray,List.nil_append,List.cons_append]
 unfold ptr
 refine au (aA ?_)
 go_wp2_with (first | ((with_reducible refine gB ?_);refine iK 4 rfl hS rfl rfl rfl ?_;refine ⟨_,za,?_⟩;clear hS;(try clear w');intro b4;refine zF ?_;intro w' hS) | ((with_reducible refine gB ?_);refine iK 5 rfl hS rfl rfl rfl ?_;refine ⟨_,za,?_⟩;clear hS;(try clear w');intro b5;refine zF ?_;intro w' hS) | ((with_reducible refine gA ?_);refine aT 6 rfl hS rfl rfl ?_;clear hS;(try clear w');intro b6;refine zF ?_;intro w' hS))
 refine au (ig ?_)
 have g4:w'.heap[b4]? = some (.cells (dJ s).toArray 100 (0,0)):=hS.dR
 have g5:w'.heap[b5]? = some (.cells #[.bool st] 4 (0,0)):=hS.dR
 have g6:w'.heap[b6]? = some (.cells #[.int .i64 0,.int .i64 0] 27 (0,0)):=hS.dR
 have l4:w.heap.size≤b4:=(hS.new (.blk b4 100 (dJ s)) (by simp) b4 rfl).elim id (fun h=>nomatch h)
 have l5:w.heap.size≤b5:=(hS.new (.blk b5 4 [.bool st]) (by simp) b5 rfl).elim id (fun h=>nomatch h)
 have l6:w.heap.size≤b6:=(hS.new (.blk b6 27 [.int .i64 0,.int .i64 0]) (by simp) b6 rfl).elim id (fun h=>nomatch h)
 have n64:b6≠b4:=by
  rintro rfl
  rw [g4] at g6
  simp only [Option.some.injEq,Obj.cells.injEq] at g6
  exact absurd g6.2.1 (by decide)
 have n65:b6≠b5:=by
  rintro rfl
  rw [g5] at g6
  simp only [Option.some.injEq,Obj.cells.injEq] at g6
  exact absurd g6.2.1 (by decide)
 refine cO (i:=0) rfl rfl (PG rfl rfl w') ?_
 simp only [fr]
 have hk1:Kp w' (w'.alloc (.chan 0 #[] false 0 0 false)):=⟨rfl,rfl,by show _≤(w'.heap.push _).size;simp,fun k hk=>heap_alloc_old w' _ hk⟩
 have hc1:(w'.alloc (.chan 0 #[] false 0 0 false)).heap[w'.heap.size]? = some (.chan 0 #[] false 0 0 false):=heap_alloc_new w' _
 have lt:∀ {b:Nat} {o:Obj},w'.heap[b]? = some o→b < w'.heap.size:=fun h=>lt_of_heap h
 have g41:=(hk1.old _ (lt g4)).trans g4
 have g51:=(hk1.old _ (lt g5)).trans g5
 have g61:=(hk1.old _ (lt g6)).trans g6
 have lc:w.heap.size≤w'.heap.size:=hS.size
 have hkp0:=(hS.bM).trans hk1
 have hin:=(hS.kp hk1).view
 clear hS lt hk1
 generalize w'.alloc (.chan 0 #[] false 0 0 false)=w1 at *
 generalize w'.heap.size=c at *
 clear g4 g5 g6
 have hS:=St.start w1 V hin
 refine cO (i:=1) rfl rfl (Aq (P:=Tryd.prog) hS (cs:=[.chan none]) rfl (by kernel_rfl) (by kernel_rfl)).1 ?_
 replace hS:=hS.alloc 165 [.chan none]
 generalize w1.alloc (.cells [Value.chan none].toArray 165)=w2 at *
 generalize w1.heap.size=b7 at *
 refine D6 hS (i:=2) (v:=.chan (some c)) rfl rfl rfl (j:=0) rfl rfl rfl rfl (by kernel_rfl) (by decide) ?_
 clear hS
 intro w3 hS
 simp only [List.set_cons_zero] at hS
 refine dH (au (aA ?_))
 go_wp2_with (go_at_call 93;refine (Fq _ p k ts vv rv hC _ (St.view hS)).mono ?_;rintro _ w4 ⟨sl,rfl,hkp,hrow,hnew⟩)
 have hpos:=vY hok
 have hle:k.sources.length≤6:=Nat.le_trans (sD k k.n) hC.le
 have hsz3:=hS.size
 replace hS:=hS.kp hkp
 obtain ⟨g,cap,cur,rfl,hc2,hc3,hcur,hget⟩:=oz hrow.1 hpos
 generalize hn:k.sources.length=n at *
 refine au (au (aA ?_))
 go_wp2_with (fail)
 refine bG ⟨b4,b5,b6,b7,c,_,rfl,?_⟩
 have hK:=hS.bM
 have hsz0:=hkp0.size
 have l6':=lt_of_heap g61
 have n7:w1.heap.size≤b7:=(hS.new (.blk b7 165 [.chan (some c)]) (by simp) b7 rfl).elim id (fun h=>nomatch h)
 have hg3:=hnew g rfl
 exact ⟨hkp0.trans hK,(hK.old _ (lt_of_heap g41)).trans g41,(hK.old _ (lt_of_heap g51)).trans g51,(hK.old _ l6').trans g61,hS.dR,(hK.old _ (lt_of_heap hc1)).trans hc1,hn ▸ hrow,fun b hb=>by have:=hnew b hb;omega,l4,l5,l6,by omega,lc,
  n64,n65,by omega,fun h=>by have:g=b6:=by simpa [Value.ownBlock] using h
                             omega⟩
noncomputable def ops6:Array Oper:=match L1 with | .seq _ (.seq _ (.seq (.block _ (.seq _ (.region _ o _))) _))=>o | _=>#[]
noncomputable def R7:Code:=match L1 with | .seq _ (.seq _ (.seq _ r))=>r | _=>.skip
noncomputable def L2:Code:=match K8 with | .seq _ (.seq (.seq _ (.block _ (.loop l))) _)=>l | _=>.skip
noncomputable def K13:Code:=match K8 with | .seq _ (.seq _ r)=>r | _=>.skip
noncomputable def R11:Code:=match L2 with | .seq _ (.seq _ (.seq (.block _ r) _))=>r | _=>.skip
noncomputable def KC:Array Oper:=match R11 with | .region _ o _=>o | _=>#[]
noncomputable def R12:Code:=match L2 with | .seq _ (.seq _ (.seq _ r))=>r | _=>.skip
noncomputable def yP:List Item:=[.code L1,.inLoop L1,.inBlock 0,.code K8]
noncomputable def TA (l:List Nat):List Item:=[.inRegion ops6 l,.inBlock 1,.code R7,.inLoop L1,.inBlock 0,.code K8]
noncomputable def head2:List Item:=[.code L2,.inLoop L2,.inBlock 2,.code K13]
noncomputable def ZY:List Item:=[.code R11,.inBlock 3,.code R12,.inLoop L2,.inBlock 2,.code K13]
noncomputable def Au (l:List Nat):List Item:=[.inRegion KC l,.inBlock 3,.code R12,.inLoop L2,.inBlock 2,.code K13]
theorem Vj:orders KC=[[0,1,2,3,4],[1,0,2,3,4],[1,2,0,3,4]]:=by kernel_rfl
theorem abo (p:Nat) (s:SS) (st:Bool) (b4 b5 b6 b7 c g cap n i t:Nat) (x10 x18 x19 x20 x21 x22:Value) (hi:i < n) (hn:n≤6) (hg:V.Cell g i (ptr t)) (w:World) (hV:V.In w) :
  fA Tryd.prog (TA [1]) (fun a w'=>∃ b10,a=⟨iU p s st b4 b5 b6 b7 c (.slice (some ⟨g,0,none⟩) n cap) n i (ptr b10) (.bool true) (.pointer (some ⟨g,i,none⟩)) (ptr t) (.func (.func 123) #[] #[ptr b10,ptr b4,ptr b5,ptr b7]) x22,[]⟩∧St w [] V [.blk b10 124 [ptr t]] w')
   yP ⟨iU p s st b4 b5 b6 b7 c (.slice (some ⟨g,0,none⟩) n cap) n i x10 x18 x19 x20 x21 x22,[]⟩ w:=by
 have hS:=St.start w V hV
 have h0:(0:Int)≤i:=by omega
 have h1:(i:Int) < n:=by omega
 unfold iU ptr at *
 generalize (dJ s).toArray=stv
 refine au (aA ?_)
 go_wp2_with (fail)
 refine au (aA ?_)
 go_wp2_with (fail)
 refine au (jg (au (aA ?_)))
 go_wp2_with (first | ((first | ((with_reducible refine gL ?_);refine nC hS rfl rfl rfl ?_) | ((with_reducible refine gS ?_);refine pX hS rfl rfl rfl ?_));refine ⟨_,zd,?_⟩;clear hS;(try clear w');refine zF ?_;intro w' hS;(try simp only [sE] at hS)) | ((with_reducible refine gA ?_);refine aT 10 rfl hS rfl rfl ?_;clear hS;(try clear w');intro b10;refine zF ?_;intro w' hS))
 refine ig (cO (i:=0) rfl rfl (v:=.func (.func 123) #[] #[.pointer (some ⟨b10,0,none⟩),.pointer (some ⟨b4,0,none⟩),.pointer (some ⟨b5,0,none⟩),.pointer (some ⟨b7,0,none⟩)]) (w':=w') (by unfold execOp;simp [Act.eval,Instr.makeFunc,go_sem]) ?_)
 exact bG ⟨b10,rfl,hS⟩
theorem abm (p:Nat) (s:SS) (st:Bool) (b4 b5 b6 b7 c n i:Nat) (sl x10 x18 x19 x20 x21 x22:Value) (hi:i < n) (hn:n≤6) (w:World) (hV:V.In w) :
  fA Tryd.prog yP (fun a w'=>a=⟨iU p s st b4 b5 b6 b7 c sl n (i+1) x10 x18 x19 x20 x21 (.int .i64 ((i+1:Nat):Int)),[]⟩∧St w [] V [] w')
   (TA []) ⟨iU p s st b4 b5 b6 b7 c sl n i x10 x18 x19 x20 x21 x22,[]⟩ w:=by
 have hS:=St.start w V hV
 have e1:((i+1:Nat):Int)=(i:Int)+1:=by omega
 rw [show iU p s st b4 b5 b6 b7 c sl n (i+1) x10 x18 x19 x20 x21 (.int .i64 ((i+1:Nat):Int))=#[ptr p,.agg (dJ s).toArray,.bool st,undef,ptr b4,ptr b5,ptr b6,ptr b7,sl,undef,x10,undef,.chan (some c),ptr p,sl,sl,.int .i64 n,.int .i64 ((i:Int)+1),x18,x19,x20,x21,.int .i64 ((i:Int)+1),undef,undef,undef,undef,undef,undef,undef,undef,undef,undef] from by unfold iU;rw [e1]]
 unfold iU ptr at *
 generalize (dJ s).toArray=stv
 refine dH (jE (aA ?_))
 conv=>enter [2];whnf
 go_wp2_with (fail)
 refine jr ?_
 exact bG (tgt:=yP) ⟨rfl,hS⟩
def wE (p:Nat) (s:SS) (st:Bool) (b4 b5 b6 b7 c bo:Nat) (sl:Value) (n i j:Nat) (x10 x18 x19 x20 x21 x22 x26 x27 x28 x29 x30 x31:Value):Array Value :=
 #[ptr p,.agg (dJ s).toArray,.bool st,undef,ptr b4,ptr b5,ptr b6,ptr b7,sl,undef,x10,ptr bo,.chan (some c),ptr p,sl,sl,.int .i64 n,.int .i64 i,x18,x19,x20,x21,x22,sl,.int .i64 n,.int .i64 j,x26,x27,x28,x29,x30,x31,undef]
theorem abw (p:Nat) (s:SS) (st:Bool) (b4 b5 b6 b7 c g cap n:Nat) (x10 x18 x19 x20 x21 x22:Value) (hn:n≤6) (w:World) (hV:V.In w) :
  fA Tryd.prog head2 (fun a w'=>∃ bo,a=⟨wE p s st b4 b5 b6 b7 c bo (.slice (some ⟨g,0,none⟩) n cap) n n 0 x10 (.bool false) x19 x20 x21 x22 undef undef undef undef undef undef,[]⟩∧St w [] V [.blk bo 27 [.int .i64 0,.int .i64 0]] w')
   yP ⟨iU p s st b4 b5 b6 b7 c (.slice (some ⟨g,0,none⟩) n cap) n n x10 x18 x19 x20 x21 x22,[]⟩ w:=by
 have hS:=St.start w V hV
 unfold iU wE ptr at *
 generalize (dJ s).toArray=stv
 refine au (aA ?_)
 go_wp2_with (fail)
 refine au (dZ (t:=false) rfl (lG rfl ?_))
 refine au (aA ?_)
 go_wp2_with ((with_reducible refine gA ?_);refine aT 11 rfl hS rfl rfl ?_;clear hS;(try clear w');intro b11;refine zF ?_;intro w' hS)
 refine au (au (aA ?_))
 go_wp2_with (fail)
 refine jg (zh ?_)
 exact bG (tgt:=head2) ⟨b11,rfl,hS⟩
theorem abx (p:Nat) (s:SS) (st:Bool) (b4 b5 b6 b7 c bo n i j:Nat) (sl x10 x18 x19 x20 x21 x22 x26 x27 x28 x29 x30 x31:Value) (hj:j < n) (hn:n≤6) (w:World) (hV:V.In w) :
  fA Tryd.prog ZY (fun a w'=>a=⟨wE p s st b4 b5 b6 b7 c bo sl n i j x10 x18 x19 x20 x21 x22 (.bool true) x27 x28 x29 x30 x31,[]⟩∧St w [] V [] w')
   head2 ⟨wE p s st b4 b5 b6 b7 c bo sl n i j x10 x18 x19 x20 x21 x22 x26 x27 x28 x29 x30 x31,[]⟩ w:=by
 have hS:=St.start w V hV
 have h0:(0:Int)≤j:=by omega
 have h1:(j:Int) < n:=by omega
 unfold wE ptr at *
 generalize (dJ s).toArray=stv
 refine au (aA ?_)
 go_wp2_with (fail)
 refine au (aA ?_)
 go_wp2_with (fail)
 refine au (jg ?_)
 exact bG (tgt:=ZY) ⟨rfl,hS⟩
theorem xK {tgt k:List Item} {S:Act→World→Prop} {a:Act} {w0 w:World} {X:List Nat} {L:List dF} (hS:St w0 X V L w) {ops:Array Oper} {i:Nat} {rest:List Nat} {o:Oper} (ho:ops[i]? = some o) (hw:Region.wanted o (yielded ops a.tmps)=true)
  {ty:TypeId} {x y:Operand} (hop:o.op=.store ty x y) {j b:Nat} {i' n:Nat} {t:TypeId} {cs vs:List Value} (hj:L[j]? = some (.blk b t cs)) (hx:a.eval x=.pointer (some ⟨b,i',none⟩)) (hy:a.eval y=.agg vs.toArray) (hv:∀ v∈vs,v.oneCell'=true) (hty:rowB Tryd.prog ty n=true) (hn:vs.length=n) (hl:i'+n≤cs.length)
  (h:∀ w',St w0 X V (L.set j (.blk b t (splice cs i' vs))) w'→fA Tryd.prog tgt S (.inRegion ops rest :: k) (a.put o.dst undef) w'):fA Tryd.prog tgt S (.inRegion ops (i :: rest) :: k) a w:=by
 obtain ⟨w',hr,hS'⟩:=xJ (P:=Tryd.prog) hS hop hj hx hy hv hty hn hl rfl
 exact Q8 ho hw hr (h w' hS')
theorem St.Zj {w:World} {V:View} (hV:V.In w) {b:Nat} {t:TypeId} {cs:List Value} (hb:w.heap[b]? = some (.cells cs.toArray t (0,0))) (hn:V b=none):St w [b] V [.blk b t cs] w :=
 ⟨rfl,rfl,Nat.le_refl _,fun _ _ _=>rfl,hV,fun e he=>by
  simp only [List.mem_singleton] at he
  subst he
  exact hb,fun e he b' hb'=>by
  simp only [List.mem_singleton] at he
  subst he
  cases hb'
  exact .inr (by simp),fun e he b' hb'=>by
  simp only [List.mem_singleton] at he
  subst he
  cases hb'
  exact hn,by simp [dF.foot]⟩
def l5 (l:List Nat):List Nat:=if l=[1,2,0,3,4] then [0,3,4] else [3,4]
def x5 (l:List Nat) (acc:Int × Int) (x:Value):Value:=if l=[1,2,0,3,4] then x else aJ acc
theorem abu (p:Nat) (s:SS) (st:Bool) (b4 b5 b6 b7 c bo n i j:Nat) (acc:Int × Int) (sl x10 x18 x19 x20 x21 x22 x26 x27 x28 x29 x30 x31:Value) (l:List Nat) (hl:l=[0,1,2,3,4]∨l=[1,0,2,3,4]∨l=[1,2,0,3,4])
  (h7:V.Cell b7 0 (.chan (some c))) (ho:w.rangeAt bo 0 [.int .i64 acc.1,.int .i64 acc.2]) (hV:V.In w) :
  fA Tryd.prog (Au (2 :: l5 l)) (fun a w'=>a=⟨wE p s st b4 b5 b6 b7 c bo sl n i j x10 x18 x19 x20 x21 x22 x26 (x5 l acc x27) (.chan (some c)) x29 x30 x31,[]⟩∧w'=w)
   (Au l) ⟨wE p s st b4 b5 b6 b7 c bo sl n i j x10 x18 x19 x20 x21 x22 x26 x27 x28 x29 x30 x31,[]⟩ w:=by
 have hc7:=h7.cell hV
 rcases hl with rfl | rfl | rfl
 ·rw [show l5 [0,1,2,3,4]=[3,4] from rfl,show x5 [0,1,2,3,4] acc x27=aJ acc from rfl]
  unfold wE ptr
  refine cO (i:=0) rfl rfl (iy (n:=2) rfl rfl jS.ok rfl ho) ?_
  refine cO (i:=1) rfl rfl (fP rfl rfl iR.ok hc7) ?_
  exact bG (tgt:=Au [2,3,4]) ⟨rfl,rfl⟩
 ·rw [show l5 [1,0,2,3,4]=[3,4] from rfl,show x5 [1,0,2,3,4] acc x27=aJ acc from rfl]
  unfold wE ptr
  refine cO (i:=1) rfl rfl (fP rfl rfl iR.ok hc7) ?_
  refine cO (i:=0) rfl rfl (iy (n:=2) rfl rfl jS.ok rfl ho) ?_
  exact bG (tgt:=Au [2,3,4]) ⟨rfl,rfl⟩
 ·rw [show l5 [1,2,0,3,4]=[0,3,4] from rfl,show x5 [1,2,0,3,4] acc x27=x27 from rfl]
  unfold wE ptr
  refine cO (i:=1) rfl rfl (fP rfl rfl iR.ok hc7) ?_
  exact bG (tgt:=Au [2,0,3,4]) ⟨rfl,rfl⟩
theorem abp (p:Nat) (s:SS) (st:Bool) (b4 b5 b6 b7 c bo n i j:Nat) (acc r:Int × Int) (sl x10 x18 x19 x20 x21 x22 x26 x28 x30 x31:Value) (hj:j < n) (hn:n≤6) (hb:Pb 100000000000 acc) (hr:Pb 100000000000 r)
  (hob:w.heap[bo]? = some (.cells #[.int .i64 acc.1,.int .i64 acc.2] 27 (0,0))) (hVo:V bo=none) (hV:V.In w) :
  fA Tryd.prog head2 (fun a w'=>a=⟨wE p s st b4 b5 b6 b7 c bo sl n i (j+1) x10 x18 x19 x20 x21 x22 x26 (aJ acc) x28 (aJ r) (aJ (dX acc r)) (.int .i64 ((j+1:Nat):Int)),[]⟩∧St w [bo] V [.blk bo 27 [.int .i64 (dX acc r).1,.int .i64 (dX acc r).2]] w')
   (Au [3,4]) ⟨wE p s st b4 b5 b6 b7 c bo sl n i j x10 x18 x19 x20 x21 x22 x26 (aJ acc) x28 (aJ r) x30 x31,[]⟩ w:=by
 have hS:St w [bo] V [.blk bo 27 [.int .i64 acc.1,.int .i64 acc.2]] w:=St.Zj hV hob hVo
 have h0:(0:Int)≤j:=by omega
 have e1:((j+1:Nat):Int)=(j:Int)+1:=by omega
 unfold wE
 rw [e1]
 refine rZ (i:=3) rfl rfl (run_call_body rfl Tryd.func127 (by kernel_rfl) rfl) ?_
 simp only [List.map_toArray,List.map_cons,List.map_nil]
 show Calls Tryd.prog 127 #[aJ acc,aJ r] w _
 refine (both_ok acc r (by unfold Pb at *;omega) (by unfold Pb at *;omega) (by unfold Pb at *;omega) (by unfold Pb at *;omega) w).mono ?_
 rintro e w' ⟨rfl,hk⟩
 refine ⟨_,rfl,?_⟩
 replace hS:=hS.kp hk
 refine xK hS (i:=4) (vs:=[.int .i64 (dX acc r).1,.int .i64 (dX acc r).2]) rfl rfl rfl (j:=0) (i':=0) (n:=2) rfl rfl rfl (by simp [Value.oneCell']) (by kernel_rfl) rfl (by simp) ?_
 clear hS hk hob hVo hV
 intro w'' hS
 simp only [List.set_cons_zero,splice] at hS
 show fA Tryd.prog head2 _ _ ⟨wE p s st b4 b5 b6 b7 c bo sl n i j x10 x18 x19 x20 x21 x22 x26 (aJ acc) x28 (aJ r) (aJ (dX acc r)) x31,[]⟩ _
 simp only [wE,aJ,ptr,List.take,List.drop,List.nil_append,List.cons_append,List.length_cons,List.length_nil,List.append_nil,Nat.reduceAdd,Nat.zero_add] at hS ⊢
 generalize (dJ s).toArray=stv
 generalize (dX acc r)=br at *
 refine dH (jE (aA ?_))
 conv=>enter [2];whnf
 go_wp2_with (fail)
 refine jr ?_
 exact bG (tgt:=head2) ⟨rfl,hS⟩
theorem aaQ (p:Nat) (s:SS) (st:Bool) (b4 b5 b6 b7 c bo n i j:Nat) (acc r:Int × Int) (sl x10 x18 x19 x20 x21 x22 x26 x27 x28 x30 x31:Value) (hj:j < n) (hn:n≤6) (hb:Pb 100000000000 acc) (hr:Pb 100000000000 r)
  (hob:w.heap[bo]? = some (.cells #[.int .i64 acc.1,.int .i64 acc.2] 27 (0,0))) (hVo:V bo=none) (hV:V.In w) (l:List Nat) (hl:(l=[3,4]∧x27=aJ acc)∨l=[0,3,4]) :
  fA Tryd.prog head2 (fun a w'=>a=⟨wE p s st b4 b5 b6 b7 c bo sl n i (j+1) x10 x18 x19 x20 x21 x22 x26 (aJ acc) x28 (aJ r) (aJ (dX acc r)) (.int .i64 ((j+1:Nat):Int)),[]⟩∧St w [bo] V [.blk bo 27 [.int .i64 (dX acc r).1,.int .i64 (dX acc r).2]] w')
   (Au l) ⟨wE p s st b4 b5 b6 b7 c bo sl n i j x10 x18 x19 x20 x21 x22 x26 x27 x28 (aJ r) x30 x31,[]⟩ w:=by
 have h6:=abp p s st b4 b5 b6 b7 c bo n i j acc r sl x10 x18 x19 x20 x21 x22 x26 x28 x30 x31 hj hn hb hr hob hVo hV
 rcases hl with ⟨rfl,rfl⟩ | rfl
 ·exact h6
 ·have hr5:w.rangeAt bo 0 [.int .i64 acc.1,.int .i64 acc.2]:=lK (cs:=[.int .i64 acc.1,.int .i64 acc.2]) (n:=2) hob rfl
  have e:wE p s st b4 b5 b6 b7 c bo sl n i j x10 x18 x19 x20 x21 x22 x26 (aJ acc) x28 (aJ r) x30 x31=(Act.put ⟨wE p s st b4 b5 b6 b7 c bo sl n i j x10 x18 x19 x20 x21 x22 x26 x27 x28 (aJ r) x30 x31,[]⟩ (some 27) (aJ acc)).tmps:=rfl
  rw [e] at h6
  exact cO (i:=0) rfl rfl (iy (n:=2) rfl rfl jS.ok rfl hr5) h6
theorem abk (p:Nat) (s:SS) (st:Bool) (b4 b5 b6 b7 c bo n i:Nat) (acc:Int × Int) (sl x10 x18 x19 x20 x21 x22 x26 x27 x28 x29 x30 x31:Value) (hn:n≤6)
  (h6:w.heap[b6]? = some (.cells #[.int .i64 0,.int .i64 0] 27 (0,0))) (hV6:V b6=none) (ho:V.Range bo 0 [.int .i64 acc.1,.int .i64 acc.2]) (hV:V.In w) :
  fA Tryd.prog [.code .ret] (fun a w'=>(∃ x26 x32,a=⟨#[ptr p,.agg (dJ s).toArray,.bool st,undef,ptr b4,ptr b5,ptr b6,ptr b7,sl,undef,x10,ptr bo,.chan (some c),ptr p,sl,sl,.int .i64 n,.int .i64 i,x18,x19,x20,x21,x22,sl,.int .i64 n,.int .i64 n,x26,x27,x28,x29,x30,x31,x32],[]⟩)∧St w [b6] V [.blk b6 27 [.int .i64 acc.1,.int .i64 acc.2]] w')
   head2 ⟨wE p s st b4 b5 b6 b7 c bo sl n i n x10 x18 x19 x20 x21 x22 x26 x27 x28 x29 x30 x31,[]⟩ w:=by
 have hS:St w [b6] V [.blk b6 27 [.int .i64 0,.int .i64 0]] w:=St.Zj hV h6 hV6
 unfold wE ptr at *
 generalize (dJ s).toArray=stv
 refine au (aA ?_)
 go_wp2_with (fail)
 refine au (dZ (t:=false) rfl (lG rfl ?_))
 refine au (aA ?_)
 go_wp2_with ((first | ((with_reducible refine gL ?_);refine zQ hS rfl rfl rfl ?_) | ((with_reducible refine gS ?_);refine bQ hS rfl rfl rfl ?_));refine ⟨_,zd,?_⟩;clear hS;(try clear w');refine zF ?_;intro w' hS;(try simp only [sE] at hS))
 exact bG (tgt:=[.code .ret]) ⟨⟨_,_,rfl⟩,hS⟩
end Go.Proofs.YtjjmefieegcddaaDoor
namespace Go.Ph
open Go
open Go.Tm
open Go.Sr
open Go.Conc
section
variable {DD DD':List Nat} {R:BR}
theorem VT (hR:∀ b∈DD,∀ b',R b b'→b'=b) {v u v':Value} (h:Xe (iq DD) v u) (h':Xe R v v'):v'=v:=by
 cases h with
 | flat hf =>
  cases h' with
  | flat _=>rfl
  | ptr _=>cases hf
  | slice _=>cases hf
  | chan _=>cases hf
 | ptr h =>
  cases h' with
  | flat hf=>cases hf
  | ptr h' =>
   obtain ⟨e1,e2,e3⟩:=h'
   have:=hR _ h.1.2 _ e1
   rename_i a _ a'
   cases a
   cases a'
   simp_all
 | slice h =>
  cases h' with
  | flat hf=>cases hf
  | slice h' =>
   obtain ⟨e1,e2,e3⟩:=h'
   have:=hR _ h.1.2 _ e1
   rename_i a _ _ _ a'
   cases a
   cases a'
   simp_all
 | chan h =>
  cases h' with
  | flat hf=>cases hf
  | chan h'=>rw [hR _ h.2 _ h']
mutual
theorem LU [bT] (hR:∀ b∈DD,∀ b',R b b'→b'=b) {v u v':Value}:qV (iq DD) v u→qV R v v'→v'=v
 | .base h,h'=>by
  cases h' with
  | base h'=>exact VT hR h h'
  | func _ _ _ _ _ =>
   cases h with
   | flat hf=>cases hf
 | .func (a:=a) (c:=c) h0 h1 h2 h3 h4,h'=>by
  cases h' with
  | base h' =>
   cases h' with
   | flat hf=>cases hf
  | func k0 k1 k2 k3 k4 =>
   rename_i a1 c1 a' c'
   congr 1
   ·apply Array.ext k1
    intro i i1 i2
    have i3:i < a1.size:=by rw [h1];exact i2
    exact aI hR (h2 i _ _ (Array.getElem?_eq_getElem i2) (Array.getElem?_eq_getElem i3)) (k2 i _ _ (Array.getElem?_eq_getElem i2) (Array.getElem?_eq_getElem i1))
   ·apply Array.ext k3
    intro i i1 i2
    have i3:i < c1.size:=by rw [h3];exact i2
    exact aI hR (h4 i _ _ (Array.getElem?_eq_getElem i2) (Array.getElem?_eq_getElem i3)) (k4 i _ _ (Array.getElem?_eq_getElem i2) (Array.getElem?_eq_getElem i1))
theorem aI [bT] (hR:∀ b∈DD,∀ b',R b b'→b'=b) {v u v':Value}:VR (iq DD) v u→VR R v v'→v'=v
 | .base h,h'=>by
  cases h' with
  | base h'=>exact LU hR h h'
  | agg _ _ =>
   cases h with
   | base h =>
    cases h with
    | flat hf=>cases hf
 | .agg (c:=c) (c':=c1) h1 h2,h'=>by
  cases h' with
  | base h' =>
   cases h' with
   | base h' =>
    cases h' with
    | flat hf=>cases hf
  | agg k1 k2 =>
   congr 1
   apply Array.ext k1
   intro i i1 i2
   have i3:i < c1.size:=by rw [h1];exact i2
   exact LU hR (h2 i _ _ (Array.getElem?_eq_getElem i2) (Array.getElem?_eq_getElem i3)) (k2 i _ _ (Array.getElem?_eq_getElem i2) (Array.getElem?_eq_getElem i1))
end
def GR [bT] (R:BR):List Value→List Value→Prop
 | [],[]=>True
 | v :: l,u :: m=>(∀ v',VR R v v'→v'=u)∧GR R l m
 | _,_=>False
theorem Gy [bT]:∀ {l m:List Value},GR R l m→m.length=l.length∧∀ (i:Nat) (v u:Value),l[i]? = some v→m[i]? = some u→∀ v',VR R v v'→v'=u
 | [],[],_=>⟨rfl,fun i v u h=>by simp at h⟩
 | v :: l,u :: m,h=>by
  obtain ⟨h1,h2⟩:=Gy h.2
  refine ⟨by simp [h1],fun i x y hx hy=>?_⟩
  cases i with
  | zero=>simp at hx hy;subst hx;subst hy;exact h.1
  | succ i=>simp at hx hy;exact h2 i x y hx hy
theorem CW [bT] {t t':Array Value} {m:List Value} (h:AF (VR R) t t') (ha:GR R t.toList m):t'=m.toArray:=by
 obtain ⟨h1,h2⟩:=Gy ha
 have hsz:t'.size=m.toArray.size:=by rw [h.1];simp [h1]
 apply Array.ext hsz
 intro i i1 i2
 have i3:i < t.size:=by rw [← h.1];exact i1
 have i4:i < m.length:=by simpa using i2
 have:=h2 i t[i] m[i] (by simp [i3]) (by simp [i4]) t'[i] (h.raw i _ _ (Array.getElem?_eq_getElem i3) (Array.getElem?_eq_getElem i1))
 simpa using this
theorem LG [bT] {l:List Value} (h:∀ v∈l,VR (iq DD) v v) (hR:∀ b∈DD,∀ b',R b b'→b'=b):GR R l l:=by
 induction l with
 | nil=>trivial
 | cons v l ih=>exact ⟨fun v' h'=>aI hR (h v (by simp)) h',ih fun u hu=>h u (by simp [hu])⟩
end
end Go.Ph
namespace Go.Proofs.YtjjmefieegcddaaDoor
open Go.RowKit Go.Wg Go.Mm Go.Wk
open Go Go.Sr Go.Ph Go.Tm Go.Conc
noncomputable def aep (x:Item):Bool :=
 match x with
 | .code c | .inLoop c=>Ce Tryd.prog c && bY true c
 | .inRegion ops _=>(ops.all fun o=>NM Tryd.prog o.op) && ops.all fun o=>qj true o.op
 | .inBlock _=>true
 | _=>false
theorem UH {todo:List Item} (h:todo.all aep=true):∀ x∈todo,jB Tryd.prog x∧iC true x:=fun x hx=>by
 have:=List.all_eq_true.1 h x hx
 match x,this with
 | .code c,h=>exact ⟨(Bool.and_eq_true_iff.1 h).1,(Bool.and_eq_true_iff.1 h).2⟩
 | .inLoop c,h=>exact ⟨(Bool.and_eq_true_iff.1 h).1,(Bool.and_eq_true_iff.1 h).2⟩
 | .inRegion ops l,h=>exact ⟨(Bool.and_eq_true_iff.1 h).1,(Bool.and_eq_true_iff.1 h).2⟩
 | .inBlock id,h=>exact ⟨trivial,trivial⟩
theorem Mc:yP.all aep=true:=by kernel_rfl
theorem Lr:head2.all aep=true:=by kernel_rfl
theorem Xw (l:List Nat):(TA l).all aep=true:=(show (TA []).all aep=true by kernel_rfl)
theorem QW (l:List Nat):(Au l).all aep=true:=(show (Au []).all aep=true by kernel_rfl)
structure yD (V:View) (wA:World) (p:Nat) (k:Wk) (ts:List Nat) (vv rv:Value) (s:SS) (st:Bool) (b4 b5 b6 b7 c g cap:Nat) (D:List Nat) (cur:Array Value):Prop where
 inA:V.In wA
 cel:zO V p k ts vv rv
 ok:k.Ok
 wf:s.WF
 lo:∀ i,0≤(s.aP i).1
 hi:∀ i,(s.aP i).2≤1000
 cl:Closed V D
 pD:p∈D
 v4:V b4=some (.cells (dJ s).toArray 100 (0,0))
 v5:V b5=some (.cells #[.bool st] 4 (0,0))
 v7:V b7=some (.cells #[.chan (some c)] 165 (0,0))
 vg:V g=some (.cells cur 124 (0,0))
 curD:∀ v∈cur,IZ D v
 src:∀ (i x:Nat),k.sources[i]? = some x→cur[i]? = some (ptr (ts.getD x 0))
 vc:V c=none
 v6:V b6=none
 h6:wA.heap[b6]? = some (.cells #[.int .i64 0,.int .i64 0] 27 (0,0))
 hc:wA.heap[c]? = some (.chan 0 #[] false 0 0 false)
 ge:Wg.gN≤b4∧Wg.gN≤b5∧Wg.gN≤b6∧Wg.gN≤b7∧Wg.gN≤c∧Wg.gN≤g
 n6:k.sources.length≤6
 npos:0 < k.sources.length
structure FT (wA:World) (b6 c:Nat) (D1 wr1:Nat→Prop) (w:World):Prop where
 kept:∀ b,b < wA.heap.size→b≠b6→b≠c→w.heap[b]? = wA.heap[b]?
 size:wA.heap.size≤w.heap.size
 os:w.os=wA.os
 out:w.output=wA.output
 rd:∀ b,b < wA.heap.size→b≠b6→D1 b
 w6:wr1 b6
 low:∀ b,wr1 b→b=b6∨wA.heap.size≤b
 h6:w.heap[b6]? = some (.cells #[.int .i64 0,.int .i64 0] 27 (0,0))
 hc:∃ o,w.heap[c]? = some o∧DY o=true
section
variable {V:View} {wA w w1 w2:World} {p:Nat} {k:Wk} {ts:List Nat} {vv rv:Value} {s:SS} {st:Bool} {b4 b5 b6 b7 c g cap:Nat} {D:List Nat} {cur:Array Value} {D1 wr1 x:Nat→Prop}
theorem yD.WE (X:yD V wA p k ts vv rv s st b4 b5 b6 b7 c g cap D cur):b6≠c:=by
 rintro rfl
 have h1:=X.h6
 rw [X.hc] at h1
 cases h1
theorem yD.RU (X:yD V wA p k ts vv rv s st b4 b5 b6 b7 c g cap D cur):c < wA.heap.size:=lt_of_heap X.hc
theorem yD.XG (X:yD V wA p k ts vv rv s st b4 b5 b6 b7 c g cap D cur):b6 < wA.heap.size:=lt_of_heap X.h6
theorem yD.QE (X:yD V wA p k ts vv rv s st b4 b5 b6 b7 c g cap D cur) {b:Nat} {o:Obj} (h:V b=some o):b≠b6∧b≠c∧b < wA.heap.size :=
 ⟨(by rintro rfl;rw [X.v6] at h;cases h),(by rintro rfl;rw [X.vc] at h;cases h),lt_of_heap (X.inA _ _ h)⟩
theorem Vt {a b:World} (h:vU c a b c) (ho:∃ o,a.heap[c]? = some o∧DY o=true):∃ o,b.heap[c]? = some o∧DY o=true:=by
 obtain ⟨o,h1,h2⟩:=ho
 rcases h with h | ⟨_,o1,o2,_,h4,_,h6⟩
 ·exact ⟨o,h.trans h1,h2⟩
 ·exact ⟨o2,h4,h6⟩
theorem kY {a b:World} {i:Nat} (h:vU c a b i) (hi:i≠c):b.heap[i]? = a.heap[i]?:=by
 rcases h with h | ⟨h,_⟩
 ·exact h
 ·exact (hi h).elim
theorem FT.rely (X:yD V wA p k ts vv rv s st b4 b5 b6 b7 c g cap D cur) (I:FT wA b6 c D1 wr1 w) (hr:dn c (sK D1 wr1) w w1):FT wA b6 c D1 wr1 w1 :=
 ⟨fun b h1 h2 h3=>(kY (hr.keep b (.inl (I.rd b h1 h2))) h3).trans (I.kept b h1 h2 h3),Nat.le_trans I.size hr.size,hr.os.trans I.os,hr.output.trans I.out,I.rd,I.w6,I.low,
  (kY (hr.keep b6 (.inr I.w6)) X.WE).trans I.h6,Vt (hr.keep c (.inl (I.rd c X.RU (Ne.symm X.WE)))) I.hc⟩
theorem FT.after (X:yD V wA p k ts vv rv s st b4 b5 b6 b7 c g cap D cur) (I:FT wA b6 c D1 wr1 w) (hk:yY c D1 wr1 w w2) (hx:∀ b,x b→wr1 b∨w.heap.size≤b) (h6:w2.heap[b6]? = some (.cells #[.int .i64 0,.int .i64 0] 27 (0,0))) :
  FT wA b6 c D1 (fun b=>wr1 b∨x b) w2:=by
 have hn:∀ b,b < wA.heap.size→b≠b6→¬ wr1 b:=fun b h1 h2 h=>by
  rcases I.low b h with h | h
  ·exact h2 h
  ·omega
 refine ⟨fun b h1 h2 h3=>(kY (hk.keep b (Nat.lt_of_lt_of_le h1 I.size) (I.rd b h1 h2) (hn b h1 h2)) h3).trans (I.kept b h1 h2 h3),Nat.le_trans I.size hk.size,hk.os.trans I.os,hk.output.trans I.out,I.rd,.inl I.w6,fun b hb=>?_,h6,
  Vt (hk.keep c (Nat.lt_of_lt_of_le X.RU I.size) (I.rd c X.RU (Ne.symm X.WE)) (hn c X.RU (Ne.symm X.WE))) I.hc⟩
 rcases hb with hb | hb
 ·exact I.low b hb
 ·rcases hx b hb with h | h
  ·exact I.low b h
  ·exact .inr (Nat.le_trans I.size h)
theorem FT.view (X:yD V wA p k ts vv rv s st b4 b5 b6 b7 c g cap D cur) (I:FT wA b6 c D1 wr1 w):V.In w:=fun b o h=>by
 obtain ⟨h1,h2,h3⟩:=X.QE h
 rw [I.kept b h3 h1 h2]
 exact X.inA b o h
def dK (b4 b5 b7 c g:Nat) (D E:List Nat):List Nat:=b4 :: b5 :: b7 :: c :: g :: (D ++ E)
structure KG (wA:World) (D E:List Nat) (D1 wr1:Nat→Prop) (w:World):Prop where
 obj:∀ b∈E,D1 b∧¬ wr1 b∧wA.heap.size≤b∧∃ t∈D,w.heap[b]? = some (.cells #[ptr t] 124 (0,0))
theorem KG.rely (X:yD V wA p k ts vv rv s st b4 b5 b6 b7 c g cap D cur) {E:List Nat} (h:KG wA D E D1 wr1 w) (hr:dn c (sK D1 wr1) w w1):KG wA D E D1 wr1 w1 :=
 ⟨fun b hb=>by
  obtain ⟨h1,h2,h3,t,h4,h5⟩:=h.obj b hb
  exact ⟨h1,h2,h3,t,h4,(kY (hr.keep b (.inl h1)) (by rintro rfl;have:=X.RU;omega)).trans h5⟩⟩
structure PhW (wA:World) (WW:List Nat) (wr1:Nat→Prop) (w:World):Prop where
 obj:∀ b∈WW,wr1 b∧Wg.gN≤b∧∃ c t,w.heap[b]? = some (.cells c t (0,0))∧∀ v∈c,iL v=true
theorem LM (X:yD V wA p k ts vv rv s st b4 b5 b6 b7 c g cap D cur) (I:FT wA b6 c D1 wr1 w) {E WW:List Nat} (hE:KG wA D E D1 wr1 w) (hW:PhW wA WW wr1 w) (hG:Wg.gN≤wA.heap.size):Seg Tryd.prog D1 wr1 (dK b4 b5 b7 c g D E) WW w:=by
 have hin:=I.view X
 have m4:b4∈dK b4 b5 b7 c g D E:=by simp [dK]
 have mc:c∈dK b4 b5 b7 c g D E:=by simp [dK]
 have mD:∀ b∈D,b∈dK b4 b5 b7 c g D E ++ WW:=fun b hb=>by simp [dK,hb]
 have hvr:∀ {v:Value},iL v=true→qV (iq (dK b4 b5 b7 c g D E ++ WW)) v v:=fun h=>.base (.flat (uU h))
 have hd1:∀ {b:Nat} {o:Obj},V b=some o→D1 b:=fun h=>I.rd _ (X.QE h).2.2 (X.QE h).1
 have hold:∀ b∈dK b4 b5 b7 c g D E,D1 b∧¬ wr1 b:=fun b hb=>by
  have hlow:∀ {b:Nat},b < wA.heap.size→b≠b6→¬ wr1 b:=fun h1 h2 h=>by
   rcases I.low _ h with h | h
   ·exact h2 h
   ·omega
  have hv:∀ {b:Nat} {o:Obj},V b=some o→D1 b∧¬ wr1 b:=fun h=>⟨hd1 h,hlow (X.QE h).2.2 (X.QE h).1⟩
  simp only [dK,List.mem_cons,List.mem_append] at hb
  rcases hb with rfl | rfl | rfl | rfl | rfl | hb | hb
  ·exact hv X.v4
  ·exact hv X.v5
  ·exact hv X.v7
  ·exact ⟨I.rd _ X.RU (Ne.symm X.WE),hlow X.RU (Ne.symm X.WE)⟩
  ·exact hv X.vg
  ·obtain ⟨cs,t,h1,_⟩:=X.cl.cells b hb
   exact hv h1
  ·obtain ⟨h1,h2,_⟩:=hE.obj b hb
   exact ⟨h1,h2⟩
 refine ⟨fun b hb=>.inl (hold b hb).1,fun b hb=>(hW.obj b hb).1,fun b hb hd=>(hold b hd).2 (hW.obj b hb).1,fun b hb=>?_,?_,fun b hb=>?_,fun b hb=>?_⟩
 ·rcases List.mem_append.1 hb with hb | hb
  ·simp only [dK,List.mem_cons,List.mem_append] at hb
   obtain ⟨g1,g2,g3,g4,g5,g6⟩:=X.ge
   rcases hb with rfl | rfl | rfl | rfl | rfl | hb | hb
   ·exact g1
   ·exact g2
   ·exact g4
   ·exact g5
   ·exact g6
   ·exact X.cl.ge b hb
   ·exact Nat.le_trans hG (hE.obj b hb).2.2.1
  ·exact (hW.obj b hb).2.1
 ·exact Nat.le_trans hG I.size
 ·simp only [dK,List.mem_cons,List.mem_append] at hb
  rcases hb with rfl | rfl | rfl | rfl | rfl | hb | hb
  ·exact .inl ⟨_,_,hin _ _ X.v4,fun v hv=>hvr (yL s v (by simpa using hv))⟩
  ·exact .inl ⟨_,_,hin _ _ X.v5,fun v hv=>by
    have:v=.bool st:=by simpa using hv
    subst this
    exact .base (.flat rfl)⟩
  ·exact .inl ⟨_,_,hin _ _ X.v7,fun v hv=>by
    have:v=.chan (some c):=by simpa using hv
    subst this
    exact .base (.chan ⟨rfl,List.mem_append_left _ mc⟩)⟩
  ·exact .inr I.hc
  ·exact .inl ⟨_,_,hin _ _ X.vg,fun v hv=>sF mD (X.curD v hv)⟩
  ·obtain ⟨cs,t,h1,h2⟩:=X.cl.cells b hb
   exact .inl ⟨_,_,hin _ _ h1,fun v hv=>sF mD (h2 v hv)⟩
  ·obtain ⟨_,_,_,t,ht,h5⟩:=hE.obj b hb
   exact .inl ⟨_,_,h5,fun v hv=>by
    have:v=ptr t:=by simpa using hv
    subst this
    exact sF mD (.inr (.inl ⟨_,_,rfl,ht⟩))⟩
 ·obtain ⟨_,_,cs,t,h1,h2⟩:=hW.obj b hb
  exact ⟨cs,t,h1,fun v hv=>hvr (h2 v hv)⟩
noncomputable def lv (DD WW:List Nat) (w:World):View:=fun b=>if b∈DD ++ WW then (oU DD w).heap[b]? else none
theorem Ny (DD WW:List Nat) (w:World) (τ:Nat→Question→Nat) (d:Nat):(lv DD WW w).In ((oU DD w).re τ d):=fun b o h=>by
 unfold lv at h
 split at h
 ·exact h
 ·cases h
theorem Jb {DD WW:List Nat} {w:World} {b i:Nat} {v:Value} {cs:Array Value} {t:TypeId} {fr:Nat × Nat} (hb:b∈DD ++ WW) (h:w.heap[b]? = some (.cells cs t fr)) (hi:cs[i]? = some v):(lv DD WW w).Cell b i v:=by
 by_cases hd:b∈DD
 ·exact ⟨cs,t,(0,cs.size),by simp only [lv,hb,if_true];rw [jT,h];simp [hd,JZ],hi⟩
 ·exact ⟨cs,t,fr,by simp only [lv,hb,if_true];rw [jT,h];simp [hd],hi⟩
theorem Ap {DD WW:List Nat} {w:World} {b:Nat} (hd:b ∉ DD):(oU DD w).heap[b]? = w.heap[b]?:=by
 rw [jT]
 cases w.heap[b]? with
 | none=>rfl
 | some o=>simp [hd]
end
end Go.Proofs.YtjjmefieegcddaaDoor
