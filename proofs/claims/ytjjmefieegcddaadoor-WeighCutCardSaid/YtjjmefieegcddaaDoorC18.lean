/- A part of the proof: T18, W30, T19, W31, T20, V7, T21, T22. -/
import Derived.Test.YtjjmefieegcddaaDoorC17
import Derived.Test.YtjjmefieegcddaaDoorC16
import Derived.Conc.Own2
import Derived.Test.YtjjmefieegcddaaDoorC06
import Derived.Test.YtjjmefieegcddaaDoorC03
set_option linter.unusedVariables false
set_option linter.unusedSimpArgs false
set_option maxHeartbeats 8000000
namespace Go.Ph
open Go
open Go.Tm
open Go.Sr
open Go.Conc
open Go.ConcN (upd upd_same upd_ne)
abbrev wY:=(Nat→Prop)→(Nat→Prop)→List Value→Goroutine→World→Prop
def oK (P:Program) (c:Nat) (D0 wr0:Nat→Prop) (vs:List Value) (a:Goroutine) (w:World) (Q:wY):Prop :=
 ∀ s gs sl t w1,dn c (sK D0 wr0) w w1→oV P c s gs a w1 t→s.D 0=D0→s.wr 0=wr0→(iM s gs.size).Perm vs →
  Out P c gs w1 sl t fun s' gs' a' w'=>∃ vs',(iM s' gs'.size).Perm vs'∧Q (s'.D 0) (s'.wr 0) vs' a' w'
section
variable {P:Program} {c:Nat} {D0 wr0:Nat→Prop} {vs:List Value} {a:Goroutine} {w:World} {Q Q':wY}
theorem oK.mono (h:oK P c D0 wr0 vs a w Q) (hq:∀ D wr vs a w,Q D wr vs a w→Q' D wr vs a w):oK P c D0 wr0 vs a w Q':=by
 intro s gs sl t w1 hr hp h1 h2 h3
 obtain ⟨N,s',gs',a',w',sl',t',k1,k2,vs',k3,k4⟩:=h s gs sl t w1 hr hp h1 h2 h3
 exact ⟨N,s',gs',a',w',sl',t',k1,k2,vs',k3,hq _ _ _ _ _ k4⟩
theorem oK.bind (h:oK P c D0 wr0 vs a w Q) (hq:∀ D wr vs a w,Q D wr vs a w→oK P c D wr vs a w Q'):oK P c D0 wr0 vs a w Q':=by
 intro s gs sl t w1 hr hp h1 h2 h3
 obtain ⟨N,s',gs',a',w',sl',t',k1,k2,vs',k3,k4⟩:=h s gs sl t w1 hr hp h1 h2 h3
 obtain ⟨M,s2,gs2,a2,w2,sl2,t2,m1,m2,m3⟩:=hq _ _ _ _ _ k4 s' gs' sl' t' w' (.refl _ w') k2 rfl rfl k3
 refine ⟨N+M,s2,gs2,a2,w2,sl2,t2,?_,m2,m3⟩
 rw [Go.Tm.runNT_add N M _ _ _ _ k1]
 exact m1
theorem oK.rely {w':World} (h:oK P c D0 wr0 vs a w Q) (hr:dn c (sK D0 wr0) w w'):oK P c D0 wr0 vs a w' Q:=fun s gs sl t w1 hr'=>h s gs sl t w1 (hr.trans hr')
theorem Wn (h:∀ w1,dn c (sK D0 wr0) w w1→Q D0 wr0 vs a w1):oK P c D0 wr0 vs a w Q:=by
 intro s gs sl t w1 hr hp h1 h2 h3
 exact ⟨0,s,gs,a,w1,sl,t,rfl,hp,vs,h3,by rw [h1,h2];exact h w1 hr⟩
theorem oV.XR {s:Sit} {gs:Array Goroutine} {t:Trace} (h:oV P c s gs a w t) (a':Goroutine):oV P c s (gs.setIfInBounds 0 a') a' w t:=by
 have hsz:(gs.setIfInBounds 0 a').size=gs.size:=by simp
 refine ⟨by simp [h.lt],fun i g hi hg=>h.old i g hi ?_,fun j hj=>h.above j (by rw [hsz] at hj;exact hj),h.chan,fun g hg=>h.nochan g (by rw [hsz] at hg;exact hg),h.heap,by rw [hsz];exact h.tr⟩
 rwa [Array.getElem?_setIfInBounds_ne (by omega)] at hg
theorem oV.listed {s:Sit} {gs:Array Goroutine} {t:Trace} (h:oV P c s gs a w t) {es:Array Event} (hev:∀ e∈es,Ae (s.D 0) (s.wr 0) e) (fn:FuncId) (pos:String):oV P c s gs a w (t ++ MemOp.ofEvents 0 fn pos es):=by
 have hu:∀ op∈MemOp.ofEvents 0 fn pos es,op.g=0:=fun op hop=>by obtain ⟨e,_,rfl⟩:=Go.Conc.mem_ofEvents hop;rfl
 have hown:=h.tr.own (.inl rfl) hev (fun _ h=>h) (fun _ h=>.inl h) (Nat.le_refl _) fn pos
 have hwr:upd s.wr 0 (s.wr 0)=s.wr:=by
  funext j
  by_cases e:j=0
  ·subst e;rw [upd_same]
  ·rw [upd_ne _ _ e]
 rw [hwr] at hown
 refine ⟨h.zero,fun i g hi hg=>(h.old i g hi hg).keep rfl rfl rfl rfl (Deaf_other t (by omega) _ hu) fun _=>.refl _ w,fun j hj=>?_,h.chan,h.nochan,h.heap,hown⟩
 have:=h.lt
 rw [Deaf_other t (by omega) _ hu]
 exact h.above j hj
theorem Vb {Stop:vO} (hat:∀ wr fr mine w d,Stop wr fr mine (w.at d)→Stop wr fr mine w) {fr:Frame} {mine cs:List Frame} (h:WT P c D0 Stop wr0 fr mine w)
  (hk:∀ wr' fr' mine' w',Stop wr' fr' mine' w'→oK P c D0 wr' vs (G fr' (mine' ++ cs)) w' Q):oK P c D0 wr0 vs (G fr (mine ++ cs)) w Q:=by
 obtain ⟨τ,h⟩:=h
 have main:∀ (τ:Tr) (wr0:Nat→Prop) (fr:Frame) (mine:List Frame) (w:World),QG P c D0 Stop τ wr0 fr mine w→oK P c D0 wr0 vs (G fr (mine ++ cs)) w Q:=by
  intro τ
  induction τ with
  | leaf =>
   intro wr0 fr mine w h s gs sl t w1 hr hp h1 h2 h3
   exact hk _ _ _ _ (h w1 hr) s gs sl t w1 (.refl _ w1) hp h1 h2 h3
  | node f ih =>
   intro wr0 fr mine w h s gs sl t w1 hr hp h1 h2 h3
   refine AY (s0:=s) (n:=gs.size) (w0:=w1) rfl (fun w=>Stop wr0 fr mine w) (fun s' gs' w' sl' t' hp' hL hn hr' hE=>?_) (fun s' gs' w' sl' t' d hp' hL hn hr' hE=>?_) s gs w1 sl t hp (.refl s) rfl (.refl _ w1)
   ·exact hk _ _ _ _ hE s' gs' sl' t' w' (.refl _ w') hp' (by rw [hL.D,h1]) (by rw [hL.wr0,h2]) (by rw [hn,hL.pend];exact h3)
   ·rw [h1,h2] at hr'
    rcases h (w'.at d) (hr.trans hr') with hs | ⟨fr',mine',w2,es,wr',k1,k2,k3,k4,k5⟩
    ·exact (hE (hat _ _ _ _ _ hs)).elim
    ·have hD:s'.D 0=D0:=by rw [hL.D,h1]
     have hw:s'.wr 0=wr0:=by rw [hL.wr0,h2]
     have hst:=hp'.step (i:=0) (.inl rfl) (g:=G fr (mine ++ cs)) (g':=G fr' (mine' ++ cs)) (x:=.sit) (es:=es) (wr':=wr') hp'.zero (fun h=>(h rfl).elim) (by rw [hD];exact k2) (by rw [hw];exact k3) (by rw [hw];exact k4) (fun h=>(h rfl).elim) (G fr (mine ++ cs)).frame.fn (G fr (mine ++ cs)).frame.place (fun h=>(h rfl).elim)
     simp only [if_true] at hst
     refine ⟨_,_,_,runT_crowd_go hp'.zero (show stepG P (0 == 0) _ _=_ from k1 true cs),?_⟩
     refine ih (w'.at d) wr' fr' mine' w2 k5 _ _ _ _ w2 (.refl _ w2) hst hD (by show upd s'.wr 0 wr' 0=wr';exact upd_same _ _ _) ?_
     have hsz:((gs'.map (woken P (G fr (mine ++ cs)) (G fr' (mine' ++ cs)) w2)).setIfInBounds 0 (G fr' (mine' ++ cs))).size=gs.size:=by simp [hn]
     rw [hsz]
     have e:iM { s' with K:=s'.K,wr:=upd s'.wr 0 wr' } gs.size=iM s gs.size:=by
      rw [← hL.pend]
      exact yj fun _ _=>⟨rfl,rfl⟩
     exact e ▸ h3
 exact main τ wr0 fr mine w h
theorem SA (ha:a.status=.running)
  (hs:∀ w1,dn c (sK D0 wr0) w w1→∃ a' frc es Dc D0' wr0' v,stepG P true a w1=.spawn a' (G frc []) w1 es∧(∀ e∈es,Ae D0 wr0 e)∧(∀ b,Dc b→D0 b∨wr0 b)∧(∀ b,D0' b∨wr0' b→D0 b∨wr0 b)∧(∀ b,wr0' b→wr0 b∧¬ Dc b) ∧
   WT P c Dc (AtSend P c v Dc) (fun _=>False) frc [] w1∧oK P c D0' wr0' (v :: vs) a' w1 Q):oK P c D0 wr0 vs a w Q:=by
 intro s gs sl t w1 hr hp h1 h2 h3
 refine Fa (s0:=s) (n:=gs.size) (w0:=w1) ha (fun s' gs' w' sl' t' hp' hL hn hr'=>?_) s gs w1 sl t hp (.refl s) rfl (.refl _ w1)
 rw [h1,h2] at hr'
 have hD:s'.D 0=D0:=by rw [hL.D,h1]
 have hw:s'.wr 0=wr0:=by rw [hL.wr0,h2]
 obtain ⟨a',frc,es,Dc,D0',wr0',v,k1,k2,k3,k4,k5,⟨τ,k6⟩,k7⟩:=hs w' (hr.trans hr')
 have hlt:=hp'.lt
 have hl:=hp'.listed (es:=es) (by rw [hD,hw];exact k2) a.frame.fn a.frame.place
 have hn0:gs'.size≠0:=by omega
 have hnact:¬ s'.act gs'.size gs'.size:=fun h=>Nat.lt_irrefl _ h.2.1
 have hhire:=hl.tr.hire (c:=gs'.size) ⟨hn0,hnact⟩ (hl.above _ (Nat.le_refl _)) Dc D0' wr0' (by rw [hD,hw];exact k3) (by rw [hD,hw];exact k4) (by rw [hw];exact k5) a.frame.fn a.frame.place frc.fn
 let s2:Sit:={ K:=upd s'.K gs'.size (.work τ),D:=upd (upd s'.D gs'.size Dc) 0 D0',wr:=upd (upd s'.wr gs'.size fun _=>False) 0 wr0',val:=upd s'.val gs'.size v }
 have hact:(fun g=>s'.act gs'.size g∨g=gs'.size)=s2.act (gs'.size+1):=by
  funext g
  apply propext
  unfold Sit.act
  constructor
  ·rintro (⟨x1,x2,x3⟩ | rfl)
   ·exact ⟨x1,by omega,by show (upd s'.K gs'.size (WK.work τ) g).busy=true;rw [upd_ne _ _ (by omega)];exact x3⟩
   ·exact ⟨by omega,by omega,by show (upd s'.K gs'.size (WK.work τ) gs'.size).busy=true;rw [upd_same];rfl⟩
  ·rintro ⟨x1,x2,x3⟩
   by_cases e:g=gs'.size
   ·exact .inr e
   ·refine .inl ⟨x1,by omega,?_⟩
    have x3':(upd s'.K gs'.size (WK.work τ) g).busy=true:=x3
    rwa [upd_ne _ _ e] at x3'
 have hsz:((gs'.setIfInBounds 0 a').push (G frc [])).size=gs'.size+1:=by simp
 generalize hu:(#[{ g:=0,fn:=a.frame.fn,pos:=a.frame.place,act:=.go gs'.size },{ g:=gs'.size,fn:=frc.fn,pos:=a.frame.place,act:=.start }]:Trace)=u at hhire
 have hq:∀ g,∀ op∈u,∀ d,deafStep g d op=d:=by
  intro g op hop d
  subst hu
  simp only [List.mem_toArray,List.mem_cons,List.not_mem_nil,or_false] at hop
  rcases hop with rfl | rfl <;> rfl
 have hdeaf:∀ g,Deaf (t' ++ MemOp.ofEvents 0 a.frame.fn a.frame.place es ++ u) g=Deaf (t' ++ MemOp.ofEvents 0 a.frame.fn a.frame.place es) g:=fun g=>Deaf_quiet (hq g)
 have hpc:oV P c s2 ((gs'.setIfInBounds 0 a').push (G frc [])) a' w' (t' ++ MemOp.ofEvents 0 a.frame.fn a.frame.place es ++ u):=by
  refine ⟨?_,fun i g hi hg=>?_,fun j hj=>?_,hl.chan,fun g hg=>?_,hl.heap,?_⟩
  ·rw [Array.getElem?_push,if_neg (by simp;omega)]
   simp [hlt]
  ·rw [Array.getElem?_push] at hg
   split at hg
   ·rename_i hi2
    simp only [Array.size_setIfInBounds] at hi2
    cases hg
    subst hi2
    unfold qc
    have eK:s2.K gs'.size=.work τ:=upd_same _ _ _
    have eD:s2.D gs'.size=Dc:=by show upd (upd s'.D gs'.size Dc) 0 D0' gs'.size=_;rw [upd_ne _ _ hn0,upd_same]
    have ew:s2.wr gs'.size=fun _=>False:=by show upd (upd s'.wr gs'.size fun _=>False) 0 wr0' gs'.size=_;rw [upd_ne _ _ hn0,upd_same]
    have ev:s2.val gs'.size=v:=upd_same _ _ _
    rw [eK]
    dsimp only
    rw [eD,ew,ev]
    exact ⟨frc,[],rfl,k6⟩
   ·rename_i hi2
    rw [Array.getElem?_setIfInBounds_ne (by omega)] at hg
    have hne:i≠gs'.size:=by simpa using hi2
    refine (hl.old i g hi hg).keep (upd_ne _ _ hne) ?_ ?_ (upd_ne _ _ hne) (hdeaf i) fun _=>.refl _ w'
    ·show upd (upd s'.D gs'.size Dc) 0 D0' i=_
     rw [upd_ne _ _ (by omega),upd_ne _ _ hne]
    ·show upd (upd s'.wr gs'.size fun _=>False) 0 wr0' i=_
     rw [upd_ne _ _ (by omega),upd_ne _ _ hne]
  ·rw [hsz] at hj
   rw [hdeaf]
   exact hl.above j (by omega)
  ·rw [hsz,← hact] at hg
   show ¬ upd (upd s'.wr gs'.size fun _=>False) 0 wr0' g c
   by_cases e:g=0
   ·subst e
    rw [upd_same]
    intro hb
    have:=(k5 c hb).1
    rw [← hw] at this
    exact hl.nochan 0 (.inl rfl) this
   ·rw [upd_ne _ _ e]
    by_cases e':g=gs'.size
    ·subst e';rw [upd_same];exact id
    ·rw [upd_ne _ _ e']
     exact hl.nochan g (hg.elim .inl fun h=>h.elim .inr fun h=>(e' h).elim)
  ·rw [hsz,← hact]
   exact hhire
 refine ⟨_,_,_,runT_crowd_spawn hp'.zero (show stepG P (0 == 0) a w'=_ from k1),?_⟩
 have htr:t' ++ (((MemOp.ofEvents 0 a.frame.fn a.frame.place es).push { g:=0,fn:=a.frame.fn,pos:=a.frame.place,act:=.go gs'.size }).push { g:=gs'.size,fn:=(G frc []).frame.fn,pos:=a.frame.place,act:=.start })=t' ++ MemOp.ofEvents 0 a.frame.fn a.frame.place es ++ u:=by
  subst hu
  rw [Array.append_assoc]
  congr 1
 rw [htr]
 refine k7 s2 _ _ _ w' (.refl _ w') hpc (by show upd (upd s'.D gs'.size Dc) 0 D0' 0=D0';exact upd_same _ _ _) (by show upd (upd s'.wr gs'.size fun _=>False) 0 wr0' 0=wr0';exact upd_same _ _ _) ?_
 rw [hsz,rY]
 have e1:iM s2 gs'.size=iM s gs.size:=by
  rw [← hL.pend,← hn]
  refine yj fun i hi=>⟨?_,?_⟩
  ·show (upd s'.K gs'.size (WK.work τ) i).busy=_
   rw [upd_ne _ _ (by omega)]
  ·show upd s'.val gs'.size v i=_
   rw [upd_ne _ _ (by omega)]
 have e2:(0 < gs'.size∧(s2.K gs'.size).busy=true):=⟨hlt,by show (upd s'.K gs'.size (WK.work τ) gs'.size).busy=true;rw [upd_same];rfl⟩
 have e3:s2.val gs'.size=v:=upd_same _ _ _
 rw [if_pos e2,e1,e3]
 exact (List.perm_append_singleton _ _).trans (h3.cons v)
theorem I9 {s:Sit} {gs:Array Goroutine} {t:Trace} (h:oV P c s gs a w t):∀ j k,(j,k)∈partners (gs.setIfInBounds 0 ph) c true→k=0∧0 < j∧s.act gs.size j∧∃ g₂ z,gs[j]? = some (parked g₂ #[scase c (s.val j) z] .send)∧∃ q,QuitsD P q 0 (Conc.served g₂ undef):=by
 intro j k hjk
 obtain ⟨g,hg,hk⟩:=mem_partners.1 hjk
 rcases getElem?_stand gs 0 j g hg with ⟨_,rfl⟩ | ⟨hj0,hg⟩
 ·rw [offersAt_ph] at hk;cases hk
 ·have hpos:0 < j:=by omega
  have hw:=h.old j g hpos hg
  unfold qc at hw
  cases hK:s.K j with
  | leave q =>
   rw [hK] at hw
   have hs:=QuitsD.status hw
   rw [offersAt_of_not_blocked (fun e=>by rcases hs with hs | hs <;> rw [e] at hs <;> cases hs) _ _] at hk
   cases hk
  | work τ =>
   rw [hK] at hw
   obtain ⟨fr,mine,rfl,_⟩:=hw
   rw [offersAt_of_not_blocked (by simp [G]) _ _] at hk
   cases hk
  | sit =>
   rw [hK] at hw
   obtain ⟨g₂,z,rfl,hq⟩:=hw
   rw [offersAt_parked_send] at hk
   simp at hk
   exact ⟨hk,hpos,⟨hpos,(Array.getElem?_eq_some_iff.1 hg).1,by rw [hK];rfl⟩,g₂,z,hg,hq⟩
theorem Xb (ha:a.status=.running) (hne:vs≠[])
  (hs:∀ w1,dn c (sK D0 wr0) w w1→∃ a₂ z es,stepG P true a w1=.comm a₂ #[rcase c z] true (.recv false) w1 es∧(∀ e∈es,Ae D0 wr0 e) ∧
   ∀ v rest,vs.Perm (v :: rest)→∀ w2,dn c (sK D0 wr0) w1 w2→oK P c D0 wr0 rest (Conc.served a₂ v) w2 Q):oK P c D0 wr0 vs a w Q:=by
 intro s gs sl t w1 hr hp h1 h2 h3
 refine Fa (s0:=s) (n:=gs.size) (w0:=w1) ha (fun s' gs' w' sl' t' hp' hL hn hr'=>?_) s gs w1 sl t hp (.refl s) rfl (.refl _ w1)
 rw [h1,h2] at hr'
 have hD:s'.D 0=D0:=by rw [hL.D,h1]
 have hw:s'.wr 0=wr0:=by rw [hL.wr0,h2]
 obtain ⟨a₂,z,es,k1,k2,k3⟩:=hs w' (hr.trans hr')
 have hl:=hp'.listed (es:=es) (by rw [hD,hw];exact k2) a.frame.fn a.frame.place
 obtain ⟨k,hk⟩:=hp'.chan
 have hpend:(iM s' gs'.size).Perm vs:=by rw [hL.pend,hn];exact h3
 have hst:stepG P (0 == 0) a w'=.comm a₂ #[rcase c z] true (.recv false) w' es:=k1
 have hlt:=hp'.lt
 by_cases hpn:partners (gs'.setIfInBounds 0 ph) c true=[]
 · -- nobody sits there yet: it sits down itself
  refine ⟨_,_,_,crowd_waits hp'.zero hst (fun cc hcc=>?_),?_⟩
  ·simp only [List.mem_toArray,List.mem_singleton] at hcc
   subst hcc
   exact ways_recv_none hk hpn
  ·have hsome:∃ i,s'.act gs'.size i:=by
    apply Classical.byContradiction
    intro hno
    apply hne
    have:iM s' gs'.size=[]:=by
     unfold iM
     rw [List.map_eq_nil_iff,List.filter_eq_nil_iff]
     intro i hi hb
     simp only [Bool.and_eq_true,decide_eq_true_eq] at hb
     exact hno ⟨i,hb.1,List.mem_range.1 hi,hb.2⟩
    rw [this] at hpend
    exact hpend.nil_eq.symm
   refine OT (s0:=s') (n:=gs'.size) (w0:=w') (z:=z) hsome (fun s2 i q gs2 w2 sl2 t2 hi hL2 hn2 hr2 hp2=>?_) s' _ w' _ _ (hl.XR _) (fun i hpos hi hsit=>?_) (.refl s') (by simp) (.refl _ w')
   ·rw [hD,hw] at hr2
    have hperm:vs.Perm (s2.val i :: iM { s2 with K:=upd s2.K i (.leave q) } gs'.size):=by
     refine hpend.symm.trans ?_
     rw [← hL2.pend]
     exact zT hi
    exact k3 _ _ hperm w2 hr2 _ gs2 sl2 t2 w2 (.refl _ w2) hp2 (by show s2.D 0=_;rw [hL2.D,hD]) (by show s2.wr 0=_;rw [hL2.wr0,hw]) (by rw [hn2])
   · -- else it would be a partner
    have hw2:=hp'.old i gs'[i] hpos (Array.getElem?_eq_getElem hi)
    unfold qc at hw2
    rw [hsit] at hw2
    obtain ⟨g₂,z2,e,_⟩:=hw2
    have:(i,0)∈partners (gs'.setIfInBounds 0 ph) c true:=mem_partners.2 ⟨gs'[i],by rw [Array.getElem?_setIfInBounds_ne (by omega)];exact Array.getElem?_eq_getElem hi,by rw [e,offersAt_parked_send];simp⟩
    rw [hpn] at this
    cases this
 ·obtain ⟨j,gj,vj,zj,shj,d,hj0,hgj,hrun⟩:=crowd_recv_meets_some (P:=P) (sl:=sl') hp'.zero hst hk hpn (fun j k hjk=>by
   obtain ⟨x1,x2,_,g₂,z2,x4,_⟩:=I9 hp' j k hjk
   exact ⟨x1,by omega,g₂,_,z2,_,x4⟩)
  have hpos:0 < j:=by omega
  have hwj:=hp'.old j _ hpos hgj
  have hjlt:=(Array.getElem?_eq_some_iff.1 hgj).1
  have hact:s'.act gs'.size j∧vj=s'.val j∧shj=.send∧∃ q,QuitsD P q 0 (Conc.served gj undef):=by
   unfold qc at hwj
   cases hK:s'.K j with
   | leave q =>
    rw [hK] at hwj
    rcases QuitsD.status hwj with hs | hs <;> cases hs
   | work τ =>
    rw [hK] at hwj
    obtain ⟨fr,mine,e,_⟩:=hwj
    have:=congrArg (·.status) e
    cases this
   | sit =>
    rw [hK] at hwj
    obtain ⟨g₂,z2,e,q,hq⟩:=hwj
    refine ⟨⟨hpos,hjlt,by rw [hK];rfl⟩,?_,?_,q,by rw [wZ e];exact hq⟩
    all_goals simp only [parked,Goroutine.mk.injEq,Option.some.injEq,Prod.mk.injEq] at e
    ·have e2:=e.2.2.2.2.1
     simp [scase] at e2
     exact e2.1
    ·exact e.2.2.2.2.2
  obtain ⟨hact,rfl,rfl,q,hq⟩:=hact
  refine ⟨_,_,_,hrun,?_⟩
  have hmet:=hl.met (j:=j) (a':=Conc.served a₂ (s'.val j)) (g':=Conc.served gj undef) (q:=q) (k:=k) (cap:=0) hact hq gj.frame.fn gj.frame.place a₂.frame.fn a₂.frame.place (k+1)
   ((gs'.setIfInBounds j (Conc.served gj undef)).setIfInBounds 0 (Conc.served a₂ (s'.val j))) (by simp) (by simp [hlt]) (by rw [Array.getElem?_setIfInBounds_ne (Ne.symm hj0)];simp [hjlt])
   (fun x hx0 hxj=>by rw [Array.getElem?_setIfInBounds_ne (Ne.symm hx0),Array.getElem?_setIfInBounds_ne (Ne.symm hxj)]) d _ rfl
  rw [Array.append_assoc] at hmet
  have hr2:dn c (sK D0 wr0) w' ((w'.at d).setChan c 0 #[] false (k+1) (k+1) false):=by
   refine ⟨by show w'.heap.size≤(w'.heap.setIfInBounds c _).size;simp,fun b _=>?_,rfl,rfl,rfl⟩
   by_cases e:b=c
   ·subst e
    refine .inr ⟨rfl,_,.chan 0 #[] false (k+1) (k+1) false,hk,?_,rfl,rfl⟩
    show (w'.heap.setIfInBounds b _)[b]? = _
    rw [Array.getElem?_setIfInBounds_self_of_lt (Array.getElem?_eq_some_iff.1 hk).1]
   ·refine .inl ?_
    show (w'.heap.setIfInBounds c _)[b]? = _
    rw [Array.getElem?_setIfInBounds_ne (Ne.symm e)]
  exact k3 _ _ (hpend.symm.trans (zT (q:=q) hact)) _ hr2 _ _ _ _ _ (.refl _ _) hmet hD hw (by rw [Array.size_setIfInBounds,Array.size_setIfInBounds])
theorem Sl {QB:Goroutine→World→Prop} (hheap:ay OC w) (hch:∃ k,w.heap[c]? = some (.chan 0 #[] false k k false)) (hnc:¬ wr0 c) (hlow:∀ b,D0 b∨wr0 b→b < w.heap.size)
  (h:oK P c D0 wr0 [] a w Q) (hQ:∀ D wr vs a w,Q D wr vs a w→ay OC w→vs=[]∧QB a w):kU P a w QB:=by
 intro gs sl t d hc
 obtain ⟨h0,⟨q,hL⟩,hP⟩:=hc
 let s:Sit:={ K:=fun i=>.leave (q i),D:=fun _=>D0,wr:=fun _=>wr0,val:=fun _=>undef }
 have hact:∀ g,¬ s.act gs.size g:=fun g h=>by cases h.2.2
 have hpc:oV P c s gs a (w.at d) t:=by
  refine ⟨h0,fun i g hi hg=>hL.old i g hi hg,hL.above,hch,fun _ _=>hnc,hheap,?_⟩
  have e:s.act gs.size=fun _=>False:=by funext g;exact propext ⟨fun h=>(hact g h).elim,fun h=>h.elim⟩
  rw [e]
  exact Gj.ofPast hP _ _ hlow
 have hnil:iM s gs.size=[]:=by
  unfold iM
  rw [List.map_eq_nil_iff,List.filter_eq_nil_iff]
  intro i hi hb
  simp only [Bool.and_eq_true,decide_eq_true_eq] at hb
  cases hb.2
 obtain ⟨N,s',gs',a',w',sl',t',k1,k2,vs',k3,k4⟩:=h s gs sl t (w.at d) (.at _ w d) hpc rfl rfl (by rw [hnil])
 obtain ⟨rfl,k5⟩:=hQ _ _ _ _ _ k4 k2.heap
 have hnil':iM s' gs'.size=[]:=k3.eq_nil
 have hleave:∀ i,0 < i→i < gs'.size→(s'.K i).busy=false:=by
  intro i h1 h2
  cases hb:(s'.K i).busy with
  | false=>rfl
  | true =>
   unfold iM at hnil'
   rw [List.map_eq_nil_iff,List.filter_eq_nil_iff] at hnil'
   have:=hnil' i (List.mem_range.2 h2)
   simp [h1,hb] at this
 refine ⟨N,gs',a',w',sl',t',k1,⟨k2.zero,⟨fun i=>(match s'.K i with | .leave q=>q | _=>0),fun i g hi hg=>?_,k2.above⟩,k2.tr.toPast fun g hg=>?_⟩,k5⟩
 ·have hw:=k2.old i g hi hg
  have hb:=hleave i hi (Array.getElem?_eq_some_iff.1 hg).1
  unfold qc at hw
  cases hK:s'.K i with
  | leave q=>rw [hK] at hw;exact hw
  | work τ=>rw [hK] at hb;cases hb
  | sit=>rw [hK] at hb;cases hb
 ·have:=hleave g hg.1 hg.2.1
  rw [hg.2.2] at this
  cases this
end
end Go.Ph
namespace Go.Proofs.YtjjmefieegcddaaDoor
open Go Go.Sr Go.Ph Go.Tm
instance abM:bT:=⟨fun f=>[123,124,125,126,127,133].contains f⟩
theorem XJ:F7 Tryd.prog:=by
 intro f hf
 have h:f=123∨f=124∨f=125∨f=126∨f=127∨f=133:=by
  have:[123,124,125,126,127,133].contains f=true:=hf
  simpa using this
 rcases h with rfl | rfl | rfl | rfl | rfl | rfl
 ·exact ⟨Tryd.f123,_,Tryd.func123,rfl,by kernel_rfl,by decide,by kernel_rfl⟩
 ·exact ⟨Tryd.f124,_,Tryd.func124,rfl,by kernel_rfl,by decide,by kernel_rfl⟩
 ·exact ⟨Tryd.f125,_,Tryd.func125,rfl,by kernel_rfl,by decide,by kernel_rfl⟩
 ·exact ⟨Tryd.f126,_,Tryd.func126,rfl,by kernel_rfl,by decide,by kernel_rfl⟩
 ·exact ⟨Tryd.f127,_,Tryd.func127,rfl,by kernel_rfl,by decide,by kernel_rfl⟩
 ·exact ⟨Tryd.f133,_,Tryd.func133,rfl,by kernel_rfl,by decide,by kernel_rfl⟩
end Go.Proofs.YtjjmefieegcddaaDoor
namespace Go.Ph
open Go
open Go.Tm
open Go.Sr
open Go.Conc
def JZ:Obj→Obj
 | .cells c t _=>.cells c t (0,c.size)
 | o=>o
def oU (D:List Nat) (w:World):World:={ w with heap:=w.heap.mapIdx fun b o=>if b∈D then JZ o else o }
def wX (D:List Nat):Nat→Prop:=fun b=>b∈D
def iq (D:List Nat):BR:=fun b b'=>b'=b∧b∈D
section
variable {P:Program} {D:List Nat} {w:World}
theorem jT (D:List Nat) (w:World) (b:Nat):(oU D w).heap[b]? = (w.heap[b]?).map fun o=>if b∈D then JZ o else o:=by
 simp [oU]
theorem oJ (D:List Nat) (w:World):(oU D w).heap.size=w.heap.size:=by simp [oU]
theorem FH (h:ay OC w):ay OC (oU D w):=by
 intro i o ho
 rw [jT] at ho
 cases hw:w.heap[i]? with
 | none=>rw [hw] at ho;cases ho
 | some x =>
  rw [hw] at ho
  have:=h i x hw
  replace ho:(if i∈D then JZ x else x)=o:=by simpa using ho
  split at ho
  ·subst ho;cases x <;> exact this
  ·subst ho;exact this
theorem XH [bT] {N:Nat} (hN:∀ b∈D,N≤b) (hlt:N≤w.heap.size)
  (hobj:∀ b∈D,(∃ c t,w.heap[b]? = some (.cells c t (0,0))∧∀ v∈c,qV (iq D) v v)∨∃ o,w.heap[b]? = some o∧DY o=true):WR N (iq D) (wX D) (oU D w) w:=by
 refine ⟨?_,?_,?_,?_,?_,rfl,rfl,?_,by rw [oJ];exact hlt,hlt⟩
 ·rintro b _ ⟨rfl,hb⟩
  rcases hobj _ hb with ⟨c,t,h1,h2⟩ | ⟨o,h1,h2⟩
  ·refine ⟨.cells c t (0,c.size),.cells c t (0,0),?_,h1,.inl ⟨c,c,t,(0,c.size),(0,0),rfl,rfl,⟨rfl,fun i v hv=>⟨v,hv,h2 v (Array.mem_of_getElem? hv)⟩⟩,fun _=>rfl,fun h=>(h hb).elim⟩⟩
   rw [jT,h1]
   simp [hb,JZ]
  ·refine ⟨o,o,?_,h1,.inr (.inr ⟨hb,h2,h2⟩)⟩
   rw [jT,h1]
   cases o <;> first | (cases h2;done) | (simp only [Option.map_some];split <;> rfl)
 ·rintro b b1 b2 ⟨rfl,_⟩ ⟨rfl,_⟩
  rfl
 ·rintro b1 b2 b ⟨h1,_⟩ ⟨h2,_⟩
  exact h1.symm.trans h2
 ·rintro b b' ⟨rfl,_⟩ _
  rfl
 ·rintro b b' ⟨rfl,h⟩
  exact ⟨hN _ h,hN _ h⟩
 ·intro b hb
  rw [oJ]
  rcases hobj b hb with ⟨c,t,h1,_⟩ | ⟨o,h1,_⟩ <;> exact (Array.getElem?_eq_some_iff.1 h1).1
theorem QF (D:List Nat):own (wX D) (iq D)=fun _=>False:=by
 funext b
 refine propext ⟨fun ⟨x,h1,h2⟩=>h2 h1.2,fun h=>h.elim⟩
theorem zK:(default:Frame).todo=[]:=rfl
def kG (P:Program) (ds:List Deferred):Frame:={ (default:Frame) with fn:=P.funcs.size,defers:=ds,mode:=.panicking [goexitEntry] }
theorem NT {f:FuncId} {fn:Func} {c:Code} {args caps:Array Value} (hf:P.funcs[f]? = some fn) (hname:(fn.name == "runtime.NumGoroutine")=false) (hb:fn.body=some c) (main:Bool) (cs:List Frame) (w:World) :
  stepG P main (G (kG P [{ target:=.fn (.func f) caps,args:=args }]) ([] ++ cs)) w=.go (G (Frame.enter P f (args ++ caps) .deferred) ([kG P []] ++ cs)) w #[]:=by
 have h1:¬ fn.name = "runtime.NumGoroutine" := by simpa using hname
 simp [G,stepG,unwind,callDeferred,kG,invoke,callFunc,hf,h1,hb,GStep.after,seen_none]
theorem OB:QuitsD P 1 0 (G (kG P []) []):=by
 refine .inr ⟨rfl,{ G (kG P []) [] with status:=.finished },#[],by simp,fun w=>?_,rfl,rfl⟩
 simp [G,stepG,unwind,kG,Frame.catches,goexitEntry,zK]
theorem Po {b:Frame} {a:Act} {todo:List Item} {fn:Func} (hk:b.kind=.normal∨b.kind=.deferred) (hd:a.defers=[]) (hf:P.funcs[b.fn]? = some fn) (hr:fn.results=#[]) :
  QuitsD P 2 0 (G { b.at a todo with mode:=.returning } [kG P []]):=by
 refine .ctl rfl (fun w=>?_) OB
 have h1:=results_none hr a.tmps P w
 have h2:=events_results_none (P:=P) (w:=w) hr a.tmps #[]
 rcases hk with hk | hk <;> simp [G,stepG,unwind,doReturn,Frame.at,hk,hd,hf,h1,h2,kG,Frame.finish,goexitEntry,seen,GStep.after,zK]
theorem atSend_of {b:Frame} {a:Act} {fn:Func} {ops:Array Oper} {i:Nat} {o:Oper} {x y:Operand} {c:Nat} {v:Value} {DD wr:Nat→Prop} (ho:ops[i]? = some o) (hw:Region.wanted o (yielded ops a.tmps)=true) (hop:o.op=.send x y)
  (hx:a.eval x=.chan (some c)) (hy:a.eval y=v) (hk:b.kind=.normal∨b.kind=.deferred) (hd:a.defers=[]) (hf:P.funcs[b.fn]? = some fn) (hr:fn.results=#[]) :
  AtSend P c v DD wr (b.at a [.inRegion ops [i]]) [kG P []] w:=by
 have hrun:(execOp a.eval o).run P w=.ok (.comm #[scase c v (.tuple #[])] true .send) w:=by
  unfold execOp
  simp [hop,hx,hy,scase]
 have hev:(execOp a.eval o).events P w #[]=#[]:=by
  unfold execOp
  simp [hop]
 have hk':b.kind≠.early:=by rcases hk with h | h <;> rw [h] <;> decide
 refine ⟨_,.tuple #[],_,stepG_comm ho hw hk' hrun,fun e he=>?_,4,?_⟩
 ·unfold listed at he
  rw [hev,seen_none] at he
  simp at he
 ·have hfin:(b.at a (.inRegion ops [i] :: [])).finish undef=b.at (a.put o.dst undef) (.inRegion ops [] :: []):=by rw [Frame.finish_at,ho];rfl
  have e:Conc.served (G (b.at a [.inRegion ops [i]]) [kG P []]) undef=G (b.at (a.put o.dst undef) [.inRegion ops []]) [kG P []]:=by
   simp only [Conc.served,G,hfin]
  rw [e]
  refine .ctl rfl (fun _=>stepG_region_end) (.ctl rfl (fun _=>stepG_end) (Po hk ?_ hf hr))
  unfold Act.put
  split <;> exact hd
end
end Go.Ph
namespace Go.Proofs.YtjjmefieegcddaaDoor
open Go.RowKit Go.Wg Go.Mm Go.Wk
open Go Go.Sr Go.Ph Go.Tm Go.Conc
variable {w:World} {V:View}
theorem Uf {V V':View} {p:Nat} {k:Wk} {ts:List Nat} {vv rv:Value} (h:zO V p k ts vv rv) (hV:∀ b i v,V.Cell b i v→V'.Cell b i v):zO V' p k ts vv rv:=by
 have rg:∀ {b i vs},V.Range b i vs→V'.Range b i vs:=fun h j v hj=>hV _ _ _ (h j v hj)
 have sl:∀ {v n sz get},pW V v n sz get→pW V' v n sz get:=fun ⟨a,cap,h1,h2,h3,h4⟩ =>
  ⟨a,cap,h1,h2,h3,fun hn=>by obtain ⟨g,off,h5,h6⟩:=h4 hn;exact ⟨g,off,h5,fun i hi=>rg (h6 i hi)⟩⟩
 obtain ⟨g,cap,h2,h3⟩:=h.c2
 exact ⟨hV _ _ _ h.c0,hV _ _ _ h.c1,⟨g,cap,hV _ _ _ h2,fun i hi=>hV _ _ _ (h3 i hi)⟩,sl h.ves,sl h.rdg,fun i hi=>rg (h.tun i hi),fun i hi=>by obtain ⟨v,h1,h2⟩:=h.fil i hi;exact ⟨v,hV _ _ _ h1,sl h2⟩,h.pos,h.le⟩
def Iz (V:View) (D:List Nat):View:=fun b=>if b∈D then (V b).map JZ else none
theorem Yk {D:List Nat} (h:V.In w):(Iz V D).In (oU D w):=fun b o hb=>by
 unfold Iz at hb
 split at hb
 ·rename_i hm
  cases hv:V b with
  | none=>rw [hv] at hb;cases hb
  | some x =>
   rw [hv] at hb
   rw [jT,h b x hv]
   simpa [hm] using hb
 ·cases hb
theorem Ac {D:List Nat} {b i:Nat} {v:Value} (hb:b∈D) (h:V.Cell b i v):(Iz V D).Cell b i v:=by
 obtain ⟨cs,t,fr,h1,h2⟩:=h
 exact ⟨cs,t,(0,cs.size),by simp [Iz,hb,h1,JZ],h2⟩
theorem VA {D E:List Nat} (hE:∀ b∈D,b∈E) {b i:Nat} {v:Value} (h:(keepD V D).Cell b i v):(Iz V E).Cell b i v:=by
 obtain ⟨cs,t,fr,h1,h2⟩:=h
 unfold keepD at h1
 split at h1
 ·rename_i hm
  exact Ac (hE b hm) ⟨cs,t,fr,h1,h2⟩
 ·cases h1
theorem yL (s:SS) (v:Value) (h:v∈dJ s):iL v=true:=by
 unfold dJ mM pY at h
 simp only [List.mem_append,List.mem_map,List.mem_flatMap] at h
 rcases h with ⟨m,_,rfl⟩ | ⟨q,_,h⟩
 ·rfl
 ·simp only [List.mem_cons,List.not_mem_nil,or_false] at h
  rcases h with rfl | rfl <;> rfl
theorem uU {v:Value} (h:iL v=true):Sr.flat v=true:=by
 unfold iL at h
 split at h <;> first | rfl | cases h
theorem sF {D E:List Nat} (hE:∀ b∈D,b∈E) {v:Value} (h:IZ D v):qV (iq E) v v:=by
 rcases h with h | ⟨b,o,rfl,hb⟩ | ⟨b,o,n,c,rfl,hb⟩
 ·exact .base (.flat (uU h))
 ·exact .base (.ptr ⟨⟨rfl,hE b hb⟩,rfl,rfl⟩)
 ·exact .base (.slice ⟨⟨rfl,hE b hb⟩,rfl,rfl⟩)
theorem Xj {R:BR} {x:Int × Int} {v:Value} (h:VR R (aJ x) v):v=aJ x:=by
 unfold aJ at h ⊢
 cases h with
 | base h =>
  cases h with
  | base h =>
   cases h with
   | flat h=>cases h
 | agg hsz h =>
  rename_i c'
  have hi:∀ (u u':Value),Sr.flat u=true→qV R u u'→u'=u:=by
   intro u u' hu h
   cases h with
   | base h =>
    cases h with
    | flat _=>rfl
    | ptr _=>cases hu
    | slice _=>cases hu
    | chan _=>cases hu
   | func _ _ _ _ _=>cases hu
  simp only [List.size_toArray,List.length_cons,List.length_nil] at hsz
  congr 1
  apply Array.ext
  ·simpa using hsz
  ·intro j h1 h2
   simp only [List.size_toArray,List.length_cons,List.length_nil] at h2
   have hj:j=0∨j=1:=by omega
   rcases hj with rfl | rfl
   ·exact hi _ _ rfl (h 0 _ _ rfl (Array.getElem?_eq_getElem h1))
   ·exact hi _ _ rfl (h 1 _ _ rfl (Array.getElem?_eq_getElem h1))
theorem XC {D:Nat→Prop} {R:BR} {G:Nat} {wl wa:World} (hw:WR G R D wl wa) {c:Nat} (hc:D c) {v:Value} (h:VR R (.chan (some c)) v):v=.chan (some c):=by
 cases h with
 | base h =>
  cases h with
  | base h =>
   cases h with
   | flat h=>cases h
   | chan h=>rw [hw.old _ _ h hc]
theorem Ue {f:FuncId} (hf:bT.ok f=true) {D:List Nat} {args:Array Value} (ha:∀ v∈args,VR (iq D) v v):ou Tryd.prog .deferred (iq D) (Frame.enter Tryd.prog f args .normal) [] (Frame.enter Tryd.prog f args .deferred) []:=by
 obtain ⟨fn,c,h1,h2,h3,h4,h5⟩:=XJ f hf
 have hE:Frame.enter Tryd.prog f args .normal=(base f).at { tmps:=args ++ Array.replicate (fn.ntmps - args.size) undef,defers:=[] } [.code c]:=enter_at args h1 h2
 have hE':Frame.enter Tryd.prog f args .deferred=(baseD f).at { tmps:=args ++ Array.replicate (fn.ntmps - args.size) undef,defers:=[] } [.code c]:=enter_atD args h1 h2
 rw [hE,hE']
 refine ⟨⟨rfl,⟨rfl,fun i v hv=>⟨v,hv,?_⟩⟩,rfl,fun x hx=>?_,rfl,rfl,rfl,.inl rfl,.inr rfl,.inl rfl,rfl,rfl,fun fn' hfn=>?_⟩,rfl⟩
 ·have hm:=Array.mem_of_getElem? hv
  rcases Array.mem_append.1 hm with h | h
  ·exact ha v h
  ·have:=(Array.mem_replicate.1 h).2
   subst this
   exact .of_flat rfl
 ·have:x=.code c:=by simpa [Frame.at] using hx
  subst this
  exact h3
 ·have:Tryd.prog.funcs[f]? = some fn':=hfn
  rw [h1] at this
  cases this
  exact h4
theorem SN (p:Nat) (k:Wk) (ts:List Nat) (vv rv:Value) (hC:zO V p k ts vv rv) (hok:k.Ok) (s:SS) (hs:s.WF) (hlo:∀ i,0≤(s.aP i).1) (hhi:∀ i,(s.aP i).2≤1000) (st:Bool) (i:Nat) (hi:i < k.n)
  (D:List Nat) (hD:Closed V D) (hp:p∈D) (bt bs bst bf c:Nat) {t1 t2 t3 t4:TypeId} (h1:V bt=some (.cells #[ptr (ts.getD i 0)] t1 (0,0))) (h2:V bs=some (.cells (dJ s).toArray t2 (0,0)))
  (h3:V bst=some (.cells #[.bool st] t3 (0,0))) (h4:V bf=some (.cells #[.chan (some c)] t4 (0,0))) (hc:∃ o,w.heap[c]? = some o∧DY o=true)
  (hg:Wg.gN≤bt∧Wg.gN≤bs∧Wg.gN≤bst∧Wg.gN≤bf∧Wg.gN≤c) (hV:V.In w) (hh:ay OC w) :
  WT Tryd.prog c (wX (bt :: bs :: bst :: bf :: c :: D)) (AtSend Tryd.prog c (aJ (kX k s st i)) (wX (bt :: bs :: bst :: bf :: c :: D))) (fun _=>False)
   (kG Tryd.prog [{ target:=.fn (.func 123) #[ptr bt,ptr bs,ptr bst,ptr bf],args:=#[] }]) [] w:=by
 obtain ⟨DD,hDD⟩:∃ DD,bt :: bs :: bst :: bf :: c :: D=DD:=⟨_,rfl⟩
 rw [hDD]
 have mt:bt∈DD:=by subst hDD;simp
 have ms:bs∈DD:=by subst hDD;simp
 have mst:bst∈DD:=by subst hDD;simp
 have mf:bf∈DD:=by subst hDD;simp
 have mc:c∈DD:=by subst hDD;simp
 have mD:∀ b∈D,b∈DD:=fun b hb=>by subst hDD;simp [hb]
 obtain ⟨hCk,htk⟩:=hC.keep hD hp
 have hCF:zO (Iz V DD) p k ts vv rv:=Uf hCk fun b i v h=>VA mD h
 have hInF:(Iz V DD).In (oU DD w):=Yk hV
 have hN:∀ b∈DD,Tryd.prog.globals.size≤b:=by
  subst hDD
  intro b hb
  simp only [List.mem_cons] at hb
  rcases hb with rfl | rfl | rfl | rfl | rfl | hb
  ·exact hg.1
  ·exact hg.2.1
  ·exact hg.2.2.1
  ·exact hg.2.2.2.1
  ·exact hg.2.2.2.2
  ·exact hD.ge b hb
 have hlt:Tryd.prog.globals.size≤w.heap.size:=by
  have:=lt_of_heap (hV _ _ h1)
  exact Nat.le_of_lt (Nat.lt_of_le_of_lt hg.1 this)
 have hrel:WR Tryd.prog.globals.size (iq DD) (wX DD) (oU DD w) w:=by
  refine XH hN hlt fun b hb=>?_
  rw [← hDD] at hb
  simp only [List.mem_cons] at hb
  rcases hb with rfl | rfl | rfl | rfl | rfl | hb
  ·refine .inl ⟨_,_,hV _ _ h1,fun v hv=>?_⟩
   have:v=ptr (ts.getD i 0):=by simpa using hv
   subst this
   exact sF mD (.inr (.inl ⟨_,_,rfl,htk i hi⟩))
  ·refine .inl ⟨_,_,hV _ _ h2,fun v hv=>?_⟩
   refine sF mD (.inl ?_)
   have hv':v∈dJ s:=by simpa using hv
   exact yL s v hv'
  ·refine .inl ⟨_,_,hV _ _ h3,fun v hv=>?_⟩
   have:v=.bool st:=by simpa using hv
   subst this
   exact .base (.flat rfl)
  ·refine .inl ⟨_,_,hV _ _ h4,fun v hv=>?_⟩
   have:v=.chan (some c):=by simpa using hv
   subst this
   exact .base (.chan ⟨rfl,mc⟩)
  ·exact .inr hc
  ·obtain ⟨cs,t,hb1,hb2⟩:=hD.cells b hb
   exact .inl ⟨cs,t,hV _ _ hb1,fun v hv=>sF mD (hb2 v hv)⟩
 obtain ⟨fn,cb,hf1,hf2,_,hf4,hf5⟩:=XJ 123 rfl
 have hres:Tryd.f123.results=#[]:=by kernel_rfl
 rw [Tryd.func123] at hf1
 cases hf1
 let args:Array Value:=#[ptr bt,ptr bs,ptr bst,ptr bf]
 let Stop:Frame→List Frame→World→Prop:=fun fr mine _=>mine=[]∧∃ a':Act,fr=(Frame.enter Tryd.prog 123 args .normal).at a' [.inRegion wJ [2]]∧a'.defers=[]∧a'.tmps.toList[40]? = some (.chan (some c))∧a'.tmps.toList[41]? = some (aJ (kX k s st i))
 refine .step fun w1 hr1=>⟨Frame.enter Tryd.prog 123 (#[] ++ args) .deferred,[kG Tryd.prog []],w1,#[],fun _=>False,fun main cs=>NT Tryd.func123 hf5 hf2 main cs w1,by simp,.refl _ w1,.refl _ w1,?_⟩
 have e0:(#[] ++ args:Array Value)=args:=by simp
 rw [e0]
 have hr1':dn c (sK (wX DD) (own (wX DD) (iq DD))) w w1:=by rw [QF];exact hr1
 have hw1:=Jz hrel hr1'
 have hwt:=ER (P:=Tryd.prog) (K:=.deferred) (ch:=c) (D:=wX DD) (R:=iq DD) (f0:=123) (Stop:=Stop) XJ lT (fun fr mine w τ d _ h=>h) (fun fr mine w h=>by obtain ⟨_,a',rfl,_⟩:=h;exact .inl rfl)
  (fr:=Frame.enter Tryd.prog 123 args .normal) (fra:=Frame.enter Tryd.prog 123 args .deferred) (mine:=[]) (minea:=[]) (G8 lT trivial args)
  (Ue rfl fun v hv=>by
   have:v=ptr bt∨v=ptr bs∨v=ptr bst∨v=ptr bf:=by simpa [args] using hv
   rcases this with rfl | rfl | rfl | rfl
   ·exact .base (.base (.ptr ⟨⟨rfl,mt⟩,rfl,rfl⟩))
   ·exact .base (.base (.ptr ⟨⟨rfl,ms⟩,rfl,rfl⟩))
   ·exact .base (.base (.ptr ⟨⟨rfl,mst⟩,rfl,rfl⟩))
   ·exact .base (.base (.ptr ⟨⟨rfl,mf⟩,rfl,rfl⟩)))
  hw1 (FH (w:=w) hh) (fun τ d=>by
   have hcell:∀ {b:Nat} {v:Value} {t:TypeId},b∈DD→V b=some (.cells #[v] t (0,0))→(Iz V DD).Cell b 0 v:=fun hb h=>Ac hb ⟨_,_,_,h,rfl⟩
   have hrg:(Iz V DD).Range bs 0 (dJ s):=fun j v hj=>Ac ms ⟨_,_,_,h2,by rw [Nat.zero_add];simpa using hj⟩
   obtain ⟨a',w',⟨q1,q2,q3,_⟩,q4⟩:=Md (w:=(oU DD w).re τ d) p k ts vv rv hCF hok s hs hlo hhi st i hi bt bs bst bf c (hcell mt h1) hrg (hcell mst h3) (hcell mf h4) hInF [floor Tryd.prog]
   exact ⟨_,[],w',⟨rfl,a',rfl,q1,q2,q3⟩,q4⟩)
 have hwt2:=hwt.below [kG Tryd.prog []]
 rw [QF] at hwt2
 refine hwt2.mono fun wr fr mine w2 ⟨m,hm,hst⟩=>?_
 subst hm
 obtain ⟨R',frl,minel,wl2,hwr,hle,⟨hml,a',hfrl,hdf,h40,h41⟩,_,hstk,hw2⟩:=hst
 subst hml
 cases m with
 | cons x m=>exact hstk.elim
 | nil =>
  have hF:FQ Tryd.prog R' frl fr:=hstk.1
  have hfn:fr.fn=123:=by rw [hF.fn,hfrl];rfl
  have htodo:fr.todo=[.inRegion wJ [2]]:=by rw [hF.todo,hfrl];rfl
  have hmode:fr.mode=.run:=by rw [hF.mode,hfrl];rfl
  have htm:frl.tmps=a'.tmps:=by rw [hfrl];rfl
  have hfr:fr=fr.at ⟨fr.tmps,[]⟩ [.inRegion wJ [2]]:=by
   have h1:=hF.defers'
   have h2:=hF.round'
   cases fr
   simp_all [Frame.at]
  obtain ⟨v40,h40',r40⟩:=hF.tmps.2 40 (.chan (some c)) (by rw [htm];simpa using h40)
  obtain ⟨v41,h41',r41⟩:=hF.tmps.2 41 (aJ (kX k s st i)) (by rw [htm];simpa using h41)
  have e40:=XC hw2 mc r40
  have e41:=Xj r41
  subst e40
  subst e41
  rw [hfr]
  refine atSend_of (i:=2) (o:=wJ[2]!) (x:=.tmp 40) (y:=.tmp 41) rfl rfl rfl ?_ ?_ hF.kind rfl (fn:=Tryd.f123) (by rw [hfn];exact Tryd.func123) hres
  ·show fr.tmps.getD 40 undef=_
   rw [Array.getD_eq_getD_getElem?,h40']
   rfl
  ·show fr.tmps.getD 41 undef=_
   rw [Array.getD_eq_getD_getElem?,h41']
   rfl
end Go.Proofs.YtjjmefieegcddaaDoor
namespace Go.Ph
open Go
open Go.Tm
open Go.Sr
open Go.Conc
section
variable {P:Program} {c:Nat} {D0 wr0:Nat→Prop} {vs:List Value} {w:World} {Q:wY}
theorem oK.aaN {a:Goroutine} {d:Nat} (h:oK P c D0 wr0 vs a (w.at d) Q):oK P c D0 wr0 vs a w Q:=by
 have:=h.rely (w':=(w.at d).at w.drawn) (.at _ _ _)
 exact this
theorem Uu {fr:Frame} {cs:List Frame} (h:∀ w1,dn c (sK D0 wr0) w w1→∃ fr' w2 es wr',(∀ main cs',stepG P main (G fr cs') w1=.go (G fr' cs') w2 es)∧(∀ e∈es,Ae D0 wr' e)∧BI wr0 w1 w2∧Ic wr0 wr' w1 w2∧oK P c D0 wr' vs (G fr' cs) w2 Q) :
  oK P c D0 wr0 vs (G fr cs) w Q:=by
 have hwt:WT P c D0 (fun wr fr mine w=>oK P c D0 wr vs (G fr (mine ++ cs)) w Q) wr0 fr [] w:=by
  refine .step fun w1 hr=>?_
  obtain ⟨fr',w2,es,wr',h1,h2,h3,h4,h5⟩:=h w1 hr
  exact ⟨fr',[],w2,es,wr',fun main cs'=>h1 main cs',h2,h3,h4,.stop fun w3 h6=>h5.rely h6⟩
 exact Vb (mine:=[]) (fun wr fr mine w d h=>h.aaN) hwt fun _ _ _ _ h=>h
theorem WT.widen {ch:Nat} {D D' wr wr0:Nat→Prop} {Stop:vO} {fr:Frame} {mine:List Frame} (hD:∀ b,D b→D' b∨wr0 b) (h:WT P ch D Stop wr fr mine w) :
  WT P ch D' (fun wr' fr mine w=>∃ x,wr'=(fun b=>wr0 b∨x b)∧Stop x fr mine w) (fun b=>wr0 b∨wr b) fr mine w:=by
 obtain ⟨τ,h⟩:=h
 have hsub:∀ wr:Nat→Prop,∀ b,sK D wr b→sK D' (fun b=>wr0 b∨wr b) b:=fun wr b hb=>by
  rcases hb with hb | hb
  ·rcases hD b hb with h | h
   ·exact .inl h
   ·exact .inr (.inl h)
  ·exact .inr (.inr hb)
 induction τ generalizing wr fr mine w with
 | leaf=>exact .stop fun w' hr=>⟨wr,rfl,h w' (hr.sub (hsub wr))⟩
 | node f ih =>
  refine .mk fun w' hr=>?_
  rcases h w' (hr.sub (hsub wr)) with h | ⟨fr',mine',w2,es,wr',h1,h2,h3,h4,h5⟩
  ·exact .inl ⟨wr,rfl,h⟩
  ·refine .inr ⟨fr',mine',w2,es,fun b=>wr0 b∨wr' b,h1,fun e he=>?_,?_,?_,ih w' h5⟩
   ·have he:=h2 e he
    obtain ⟨loc,wrt,sy⟩:=e
    unfold Ae at he ⊢
    cases loc with
    | cell a =>
     refine ⟨he.1,?_⟩
     rcases he.2 with h | ⟨h,hw⟩
     ·exact .inl (.inr h)
     ·rcases hD _ h with h | h
      ·exact .inr ⟨h,hw⟩
      ·exact .inl (.inl h)
    | obj r =>
     refine ⟨he.1,?_⟩
     rcases he.2 with h | h
     ·exact .inl (.inr h)
     ·rcases hD _ h with h | h
      ·exact .inr h
      ·exact .inl (.inl h)
    | mark m=>exact he
    | _=>exact he.elim
   ·exact ⟨h3.size,fun b hb hn=>h3.keep b hb fun h=>hn (.inr h),h3.os,h3.output,h3.tape,h3.okh⟩
   ·refine ⟨fun b hb=>hb.imp id (h4.le b),fun b hb=>?_⟩
    rcases hb with hb | hb
    ·exact .inl (.inl hb)
    ·rcases h4.fresh b hb with h | h
     ·exact .inl (.inr h)
     ·exact .inr h
structure yY (ch:Nat) (D wr:Nat→Prop) (w w':World):Prop where
 size:w.heap.size≤w'.heap.size
 keep:∀ b,b < w.heap.size→D b→¬ wr b→vU ch w w' b
 os:w'.os=w.os
 output:w'.output=w.output
 tape:w'.tape=w.tape
theorem WT.kept {ch:Nat} {D wr:Nat→Prop} {Stop:vO} {fr:Frame} {mine:List Frame} (h:WT P ch D Stop wr fr mine w) :
  WT P ch D (fun wr' fr mine w'=>Stop wr' fr mine w'∧yY ch D wr w w'∧∀ b,wr' b→wr b∨w.heap.size≤b) wr fr mine w:=by
 have key:∀ (w0:World) (wr0:Nat→Prop) (τ:Tr) (wr:Nat→Prop) (fr:Frame) (mine:List Frame) (w:World),QG P ch D Stop τ wr fr mine w→yY ch D wr0 w0 w→(∀ b,wr b→wr0 b∨w0.heap.size≤b) →
   WT P ch D (fun wr' fr mine w'=>Stop wr' fr mine w'∧yY ch D wr0 w0 w'∧∀ b,wr' b→wr0 b∨w0.heap.size≤b) wr fr mine w:=by
  intro w0 wr0 τ
  have rl:∀ {wr:Nat→Prop} {w w':World},yY ch D wr0 w0 w→dn ch (sK D wr) w w'→yY ch D wr0 w0 w':=fun hk hr =>
   ⟨Nat.le_trans hk.size hr.size,fun b hb hD hw=>(hk.keep b hb hD hw).trans (hr.keep b (.inl hD)),hr.os.trans hk.os,hr.output.trans hk.output,hr.tape.trans hk.tape⟩
  induction τ with
  | leaf=>exact fun wr fr mine w h hk hf=>.stop fun w' hr=>⟨h w' hr,rl hk hr,hf⟩
  | node f ih =>
   intro wr fr mine w h hk hf
   refine .mk fun w' hr=>?_
   have hk':=rl hk hr
   rcases h w' hr with h | ⟨fr',mine',w2,es,wr',h1,h2,h3,h4,h5⟩
   ·exact .inl ⟨h,hk',hf⟩
   ·refine .inr ⟨fr',mine',w2,es,wr',h1,h2,h3,h4,ih w' wr' fr' mine' w2 h5 ⟨Nat.le_trans hk'.size h3.size,fun b hb hD hw=>(hk'.keep b hb hD hw).trans (.inl (h3.keep b (Nat.lt_of_lt_of_le hb hk'.size) fun h=>?_)),h3.os.trans hk'.os,h3.output.trans hk'.output,h3.tape.trans hk'.tape⟩ fun b hb=>?_⟩
    ·rcases hf b h with h | h
     ·exact hw h
     ·omega
    ·rcases h4.fresh b hb with h | h
     ·exact hf b h
     ·exact .inr (Nat.le_trans hk'.size h.1)
 obtain ⟨τ,h⟩:=h
 exact key w wr τ wr fr mine w h ⟨Nat.le_refl _,fun b _ _ _=>.refl w b,rfl,rfl,rfl⟩ fun b hb=>.inl hb
theorem tV {a:Goroutine} (h:∀ w1,dn c (sK D0 wr0) w w1→ay OC w1→(∃ k,w1.heap[c]? = some (.chan 0 #[] false k k false))→oK P c D0 wr0 vs a w1 Q):oK P c D0 wr0 vs a w Q:=by
 intro s gs sl t w1 hr hp
 exact h w1 hr hp.heap hp.chan s gs sl t w1 (.refl _ w1) hp
theorem V8 [bT] {N:Nat} {DD WW:List Nat} (hN:∀ b∈DD ++ WW,N≤b) (hlt:N≤w.heap.size) (hdis:∀ b∈WW,b ∉ DD)
  (hobj:∀ b∈DD,(∃ c t,w.heap[b]? = some (.cells c t (0,0))∧∀ v∈c,qV (iq (DD ++ WW)) v v)∨∃ o,w.heap[b]? = some o∧DY o=true)
  (hobjW:∀ b∈WW,∃ c t,w.heap[b]? = some (.cells c t (0,0))∧∀ v∈c,qV (iq (DD ++ WW)) v v):WR N (iq (DD ++ WW)) (wX DD) (oU DD w) w:=by
 refine ⟨?_,?_,?_,?_,?_,rfl,rfl,?_,by rw [oJ];exact hlt,hlt⟩
 ·rintro x b ⟨h,hb⟩
  subst h
  by_cases hd:b∈DD
  ·rcases hobj _ hd with ⟨c,t,h1,h2⟩ | ⟨o,h1,h2⟩
   ·refine ⟨.cells c t (0,c.size),.cells c t (0,0),?_,h1,.inl ⟨c,c,t,(0,c.size),(0,0),rfl,rfl,⟨rfl,fun i v hv=>⟨v,hv,h2 v (Array.mem_of_getElem? hv)⟩⟩,fun _=>rfl,fun h=>(h hd).elim⟩⟩
    rw [jT,h1]
    simp [hd,JZ]
   ·refine ⟨o,o,?_,h1,.inr (.inr ⟨hd,h2,h2⟩)⟩
    rw [jT,h1]
    cases o <;> first | (cases h2;done) | (simp only [Option.map_some];split <;> rfl)
  ·have hw:b∈WW:=(List.mem_append.1 hb).resolve_left hd
   obtain ⟨c,t,h1,h2⟩:=hobjW _ hw
   refine ⟨.cells c t (0,0),.cells c t (0,0),?_,h1,.inl ⟨c,c,t,(0,0),(0,0),rfl,rfl,⟨rfl,fun i v hv=>⟨v,hv,h2 v (Array.mem_of_getElem? hv)⟩⟩,fun h=>(hd h).elim,fun _=>⟨rfl,rfl⟩⟩⟩
   rw [jT,h1]
   simp [hd]
 ·rintro b b1 b2 ⟨rfl,_⟩ ⟨rfl,_⟩
  rfl
 ·rintro b1 b2 b ⟨h1,_⟩ ⟨h2,_⟩
  exact h1.symm.trans h2
 ·rintro b b' ⟨rfl,_⟩ _
  rfl
 ·rintro b b' ⟨rfl,h⟩
  exact ⟨hN _ h,hN _ h⟩
 ·intro b hb
  rw [oJ]
  rcases hobj b hb with ⟨c,t,h1,_⟩ | ⟨o,h1,_⟩ <;> exact (Array.getElem?_eq_some_iff.1 h1).1
theorem UG {DD WW:List Nat} (hdis:∀ b∈WW,b ∉ DD):own (wX DD) (iq (DD ++ WW))=wX WW:=by
 funext b
 refine propext ⟨fun ⟨x,⟨h1,h2⟩,h3⟩=>?_,fun h=>⟨b,⟨rfl,List.mem_append_right _ h⟩,hdis b h⟩⟩
 subst h1
 exact (List.mem_append.1 h2).resolve_left h3
structure Seg [bT] (P:Program) (D0 wr0:Nat→Prop) (DD WW:List Nat) (w:World):Prop where
 rd:∀ b∈DD,D0 b∨wr0 b
 wr:∀ b∈WW,wr0 b
 dis:∀ b∈WW,b ∉ DD
 ge:∀ b∈DD ++ WW,P.globals.size≤b
 lt:P.globals.size≤w.heap.size
 obj:∀ b∈DD,(∃ c t,w.heap[b]? = some (.cells c t (0,0))∧∀ v∈c,qV (iq (DD ++ WW)) v v)∨∃ o,w.heap[b]? = some o∧DY o=true
 objW:∀ b∈WW,∃ c t,w.heap[b]? = some (.cells c t (0,0))∧∀ v∈c,qV (iq (DD ++ WW)) v v
theorem WB [bT] (hC:F7 P) (hS:ED P fun _=>True) {DD WW:List Nat} (hg:Seg P D0 wr0 DD WW w) (hh:ay OC w)
  {f0:FuncId} {b:Frame} {a:Act} {todo:List Item} {cs:List Frame} (hst:uw f0 (b.at a todo) []) (hsr:FQ P (iq (DD ++ WW)) (b.at a todo) (b.at a todo))
  {S:Act→List Item→World→Prop} (hS':∀ a t w τ d,S a t w→S a t (w.re τ d))
  (hrun:∀ τ d,∃ a' todo' w',S a' todo' w'∧Steps P (lone (b.at a todo) [floor P] ((oU DD w).re τ d)) (lone (b.at a' todo') [floor P] w'))
  (hk:∀ R' a' a2 todo' wl w2,S a' todo' wl→le (iq (DD ++ WW)) R'→AF (VR R') a'.tmps a2.tmps→a2.defers=[]→WR P.globals.size R' (wX DD) wl w2→yY c D0 wr0 w w2→(∀ b,own (wX DD) R' b→wr0 b∨w.heap.size≤b)→ay OC wl →
   oK P c D0 (fun b=>wr0 b∨own (wX DD) R' b) vs (G (b.at a2 todo') cs) w2 Q) :
  oK P c D0 wr0 vs (G (b.at a todo) cs) w Q:=by
 have hrel:=V8 (w:=w) hg.ge hg.lt hg.dis hg.obj hg.objW
 let Stop:Frame→List Frame→World→Prop:=fun fr mine w=>mine=[]∧∃ a' todo',fr=b.at a' todo'∧S a' todo' w
 have hwt:=ER (P:=P) (K:=.normal) (ch:=c) (D:=wX DD) (R:=iq (DD ++ WW)) (f0:=f0) (Stop:=Stop) hC hS (fun fr mine w τ d _ h=>by obtain ⟨h1,a',t',h2,h3⟩:=h;exact ⟨h1,a',t',h2,hS' _ _ _ _ _ h3⟩)
  (fun fr mine w h=>by obtain ⟨_,a',t',rfl,_⟩:=h;exact .inl rfl) (mine:=[]) (minea:=[]) hst ⟨hsr,hst.2.2.1⟩ hrel (FH hh) (fun τ d=>by
   obtain ⟨a',t',w',h1,h2⟩:=hrun τ d
   exact ⟨_,[],w',⟨rfl,a',t',rfl,h1⟩,h2⟩)
 rw [UG hg.dis] at hwt
 have hwd:=hwt.widen (D':=D0) (wr0:=wr0) hg.rd
 have e0:(fun b=>wr0 b∨wX WW b)=wr0:=by
  funext b
  exact propext ⟨fun h=>h.elim id (hg.wr b),.inl⟩
 rw [e0] at hwd
 have hwd2:WT P c D0 (fun wr fr mine w=>oK P c D0 wr vs (G fr (mine ++ cs)) w Q) wr0 (b.at a todo) [] w:=by
  refine hwd.kept.mono fun wr fr mine w2 ⟨⟨x,hx,R',frl,minel,wl,hxo,hle,⟨hm,a',t',hfrl,hs⟩,hhl,hstk,hw2⟩,hkept,hfrs⟩=>?_
  subst hm
  cases mine with
  | cons y m=>exact hstk.elim
  | nil =>
   have hF:FQ P R' frl fr:=hstk.1
   have hfr:fr=b.at ⟨fr.tmps,[]⟩ t':=by
    have h1:=hF.defers'
    have h2:=hF.round'
    have h3:=hF.fn
    have h4:=hF.todo
    have h5:=hF.mode
    have h6:fr.kind=b.kind:=hstk.2.trans hst.2.2.1.symm
    subst hfrl
    cases fr
    simp_all [Frame.at]
   rw [hfr,hx,hxo]
   have hT:=hF.tmps
   rw [hfrl] at hT
   exact hk R' a' ⟨fr.tmps,[]⟩ t' wl w2 hs hle hT rfl hw2 hkept (fun b hb=>hfrs b (by rw [hx,hxo];exact .inr hb)) hhl
 exact Vb (mine:=[]) (fun wr fr mine w d h=>h.aaN) hwd2 fun _ _ _ _ h=>h
end
def MN (m:Region.Mode) (ops:Array Oper):Nat→Array Bool→List Nat→List (List Nat)
 | 0,_,acc=>[acc.reverse]
 | fuel+1,listed,acc =>
  let rs:=(List.range ops.size).filter fun i=>!listed.getD i true && ((ops[i]?).map (·.after.all fun e=>!Region.binds m e || listed.getD e.on false)).getD false
  if rs.isEmpty then [acc.reverse] else rs.flatMap fun i=>MN m ops fuel (listed.setIfInBounds i true) (i :: acc)
theorem go_mem (m:Region.Mode) (ops:Array Oper):∀ (fuel t:Nat) (listed:Array Bool) (acc:List Nat),Region.linearise.go m ops fuel t listed acc∈MN m ops fuel listed acc
 | 0,_,_,_=>by simp [Region.linearise.go,MN]
 | fuel+1,t,listed,acc=>by
  unfold Region.linearise.go MN
  generalize ((List.range ops.size).filter fun i=>!listed.getD i true && ((ops[i]?).map (·.after.all fun e=>!Region.binds m e || listed.getD e.on false)).getD false)=rs
  dsimp only
  cases h:rs[t % rs.length]? with
  | none =>
   have:rs.isEmpty=true:=by
    rw [List.isEmpty_iff]
    rcases Nat.eq_zero_or_pos rs.length with h0 | h0
    ·exact List.length_eq_zero_iff.1 h0
    ·rw [List.getElem?_eq_getElem (Nat.mod_lt t h0)] at h
     cases h
   simp [this]
  | some i =>
   have hm:=List.mem_of_getElem? h
   have:rs.isEmpty=false:=by
    cases rs with
    | nil=>cases hm
    | cons=>rfl
   simp only [this,Bool.false_eq_true,if_false,List.mem_flatMap]
   exact ⟨i,hm,go_mem m ops fuel _ _ _⟩
def orders (ops:Array Oper):List (List Nat):=MN .any ops ops.size (Array.replicate ops.size false) []
theorem Je (ops:Array Oper) (t:Nat):Region.schedule true ops t∈orders ops:=by
 have:Region.schedule true ops t=Region.linearise.go .any ops ops.size t (Array.replicate ops.size false) []:=by simp [Region.schedule,Region.linearise]
 rw [this]
 exact go_mem _ _ _ _ _ _
end Go.Ph
namespace Go.Tm
open Go
open Go.Conc
section
variable {P:Program}
theorem uF (hS:ED P fun _=>True) {f:FuncId} {args:Array Value} {R:Ending→World→Prop} (hins:Ins R) (hout:∀ w,¬ R .outgrown w) {w:World} (hw:ay OC w)
  (h:∀ τ d,Calls P f args (w.re τ d) R):kL P f args w R:=by
 intro cs
 let Stop:Frame→List Frame→World→Prop:=fun fr mine w=>mine=[]∧∃ e,R e w∧e≠.outgrown∧fr.fn=f∧fr.leaving P w e
 have hterm:Term P (SH f Stop) (Frame.enter P f args .normal) [] w:=by
  refine qU hS ?_ (G8 hS trivial args) hw ?_
  ·rintro fr mine w τ d hw ⟨rfl,e,h1,h2,h3,h4⟩
   exact ⟨rfl,e,hins _ _ _ _ h1,h2,h3,kD hw h4 τ d⟩
  ·intro τ d
   obtain ⟨e,w',fr',h1,h2,h3,h4⟩:=h τ d [floor P]
   cases e with
   | outgrown=>exact (hout _ h1).elim
   | returned v=>exact ⟨fr',[],w',⟨rfl,_,h1,by simp,h3,h4⟩,h2⟩
   | panicked chain=>exact ⟨fr',[],w',⟨rfl,_,h1,by simp,h3,h4⟩,h2⟩
 have:=uS (fun fr mine w d h=>by
  obtain ⟨⟨rfl,e,h1,h2,h3,h4⟩,h5,h6⟩:=h
  exact ⟨⟨rfl,e,hins _ _ w.tape d h1,h2,h3,kD h5 h4 w.tape d⟩,h5,h6⟩) hterm cs
 refine this.mono fun a' w' ⟨fr',mine',h1,⟨h2,e,h3,h4,h5,h6⟩,h7,h8⟩=>?_
 subst h2
 exact ⟨e,fr',h1,h3,h5,h6,h4,h7⟩
section
variable {b:Frame} {a:Act} {k:List Item} {cs:List Frame} {w:World} {Q:Goroutine→World→Prop}
end
end
variable {P:Program}
def fA (P:Program) (tgt:List Item) (S:Act→World→Prop) (todo:List Item) (a:Act) (w:World):Prop :=
 ∀ (b:Frame) (cs:List Frame),b.kind=.normal→∃ a' w',S a' w'∧Steps P (lone (b.at a todo) cs w) (lone (b.at a' tgt) cs w')
section
variable {tgt k:List Item} {S:Act→World→Prop} {a:Act} {w:World}
theorem bG (h:S a w):fA P tgt S tgt a w:=fun _ _ _=>⟨a,w,h,.refl _ _⟩
theorem jd {todo todo':List Item} {a':Act} {w':World} (hs:∀ (b:Frame) (cs:List Frame),b.kind=.normal→∃ es,stepG P true (G (b.at a todo) cs) w=.go (G (b.at a' todo') cs) w' es) (h:fA P tgt S todo' a' w'):fA P tgt S todo a w:=by
 intro b cs hb
 obtain ⟨es,he⟩:=hs b cs hb
 obtain ⟨a2,w2,h1,h2⟩:=h b cs hb
 exact ⟨a2,w2,h1,.head (jZ he) h2⟩
theorem au {x y:Code} (h:fA P tgt S (.code x :: .code y :: k) a w):fA P tgt S (.code (.seq x y) :: k) a w:=jd (fun _ _ _=>⟨_,stepG_seq⟩) h
theorem jg {id:Nat} {x:Code} (h:fA P tgt S (.code x :: .inBlock id :: k) a w):fA P tgt S (.code (.block id x) :: k) a w:=jd (fun _ _ _=>⟨_,stepG_block⟩) h
theorem jE {id:Nat} (h:fA P tgt S k a w):fA P tgt S (.inBlock id :: k) a w:=jd (fun _ _ _=>⟨_,stepG_inBlock⟩) h
theorem zh {x:Code} (h:fA P tgt S (.code x :: .inLoop x :: k) a w):fA P tgt S (.code (.loop x) :: k) a w:=jd (fun _ _ _=>⟨_,stepG_loop⟩) h
theorem jr {x:Code} (h:fA P tgt S (.code x :: .inLoop x :: k) a w):fA P tgt S (.inLoop x :: k) a w:=jd (fun _ _ _=>⟨_,stepG_inLoop⟩) h
theorem lu (h:fA P tgt S k a w):fA P tgt S (.code .skip :: k) a w:=jd (fun _ _ _=>⟨_,stepG_skip⟩) h
theorem dZ {o:Operand} {x y:Code} {t:Bool} (hc:a.eval o=.bool t) (h:fA P tgt S (.code (if t then x else y) :: k) a w):fA P tgt S (.code (.cond o x y) :: k) a w:=jd (fun _ _ _=>⟨_,stepG_cond hc⟩) h
theorem lG {id:Nat} {k':List Item} (hk:exitTo id k=some k') (h:fA P tgt S k' a w):fA P tgt S (.code (.exit id) :: k) a w:=jd (fun _ _ _=>⟨_,stepG_exit hk⟩) h
theorem ig {id:Nat} {ops:Array Oper} (h:fA P tgt S (.inRegion ops (List.range ops.size) :: k) a w):fA P tgt S (.code (.region id ops false) :: k) a w:=jd (fun _ _ _=>⟨_,stepG_region⟩) h
theorem dH {ops:Array Oper} (h:fA P tgt S k a w):fA P tgt S (.inRegion ops [] :: k) a w:=jd (fun _ _ _=>⟨_,stepG_region_end⟩) h
theorem cO {ops:Array Oper} {i:Nat} {rest:List Nat} {o:Oper} {v:Value} {w':World} (ho:ops[i]? = some o) (hw:Region.wanted o (yielded ops a.tmps)=true) (hr:(execOp a.eval o).run P w=.ok (.value v) w')
  (h:fA P tgt S (.inRegion ops rest :: k) (a.put o.dst v) w'):fA P tgt S (.inRegion ops (i :: rest) :: k) a w :=
 jd (fun _ _ hb=>⟨_,stepG_value ho hw (by simp [Frame.at,hb]) hr⟩) h
theorem Q8 {ops:Array Oper} {i:Nat} {rest:List Nat} {o:Oper} {w':World} (ho:ops[i]? = some o) (hw:Region.wanted o (yielded ops a.tmps)=true) (hr:(execOp a.eval o).run P w=.ok .skip w')
  (h:fA P tgt S (.inRegion ops rest :: k) (a.put o.dst undef) w'):fA P tgt S (.inRegion ops (i :: rest) :: k) a w :=
 jd (fun _ _ hb=>⟨_,stepG_none ho hw (by simp [Frame.at,hb]) hr⟩) h
theorem aA {x:Code} (h:x.wp P (fun e a' w'=>e=.normal∧fA P tgt S k a' w') a w):fA P tgt S (.code x :: k) a w:=by
 intro b cs hb
 obtain ⟨e,a1,w1,⟨rfl,hR⟩,harr⟩:=h b k cs
 obtain ⟨a',w',hs,hst⟩:=hR b cs hb
 exact ⟨a',w',hs,Steps.trans harr hst⟩
theorem rZ {ops:Array Oper} {i:Nat} {rest:List Nat} {o:Oper} {f:FuncId} {args:Array Value} {w':World} (ho:ops[i]? = some o) (hw:Region.wanted o (yielded ops a.tmps)=true) (hr:(execOp a.eval o).run P w=.ok (.enter f args) w')
  (h:Calls P f args w' fun e w''=>∃ v,e=.returned v∧fA P tgt S (.inRegion ops rest :: k) (a.put o.dst v) w''):fA P tgt S (.inRegion ops (i :: rest) :: k) a w:=by
 intro b cs hb
 obtain ⟨e,w2,fr,⟨v,rfl,hR⟩,hst,hfn,hm,hd,hk,fn,hf,hrs⟩:=h (b.at a (.inRegion ops (i :: rest) :: k) :: cs)
 obtain ⟨a',w3,hs,hst2⟩:=hR b cs hb
 refine ⟨a',w3,hs,.head (jZ (stepG_enter ho hw (by simp [hb]) hr)) (Steps.trans hst (.head (jZ (es:=seen P fr.fn ((results fn fr.tmps).events P w2 #[])) ?_) hst2))⟩
 have hu:stepG P true (G fr (b.at a (.inRegion ops (i :: rest) :: k) :: cs)) w2=unwind P true fr (b.at a (.inRegion ops (i :: rest) :: k) :: cs) none w2:=by simp only [stepG,G,hm]
 have hfin:(b.at a (.inRegion ops (i :: rest) :: k)).finish v=b.at (a.put o.dst v) (.inRegion ops rest :: k):=by rw [Frame.finish_at,ho];rfl
 rw [hu]
 simp only [unwind,hd,hm,hf,Sem.runT_eq,hrs,doReturn,hk,GStep.after,Array.append_empty,G,hfin]
theorem fA.mono {S':Act→World→Prop} {todo:List Item} (h:fA P tgt S todo a w) (hs:∀ a w,S a w→S' a w):fA P tgt S' todo a w:=fun b cs hb=>by
 obtain ⟨a',w',h1,h2⟩:=h b cs hb
 exact ⟨a',w',hs _ _ h1,h2⟩
end
theorem yE (hS:ED P fun _=>True) {f0:FuncId} {b:Frame} {a:Act} {todo tgt:List Item} {cs:List Frame} {w:World} {Q:Goroutine→World→Prop} (hst:uw f0 (b.at a todo) []) (hw:ay OC w)
  {S:Act→World→Prop} (hS':∀ a w τ d,S a w→S a (w.re τ d)) (hrun:∀ τ d,fA P tgt S todo a (w.re τ d))
  (hk:∀ a' w',S a' w'→ay OC w'→qh (b.at a' tgt)→kU P (G (b.at a' tgt) cs) w' Q):kU P (G (b.at a todo) cs) w Q:=by
 let Stop:Frame→List Frame→World→Prop:=fun fr mine w=>mine=[]∧∃ a',fr=b.at a' tgt∧S a' w
 have hterm:Term P (SH f0 Stop) (b.at a todo) [] w:=by
  refine qU hS ?_ hst hw ?_
  ·rintro fr mine w τ d hw ⟨rfl,a',h1,h2⟩
   exact ⟨rfl,a',h1,hS' _ _ _ _ h2⟩
  ·intro τ d
   obtain ⟨a',w',h1,h2⟩:=hrun τ d b [floor P] hst.2.2.1
   exact ⟨_,[],w',⟨rfl,a',rfl,h1⟩,h2⟩
 have hB:=uS (fun fr mine w d h=>by
  obtain ⟨⟨rfl,a',h1,h2⟩,h5,h6⟩:=h
  exact ⟨⟨rfl,a',h1,hS' _ _ w.tape d h2⟩,h5,h6⟩) hterm cs
 refine hB.bind fun a1 w1 ⟨fr',mine',h1,⟨h2,a',h3,h4⟩,h5,h6⟩=>?_
 subst h2
 subst h1
 subst h3
 exact hk a' w1 h4 h5 h6.ok
end Go.Tm
namespace Go.Ph
open Go
open Go.Tm
open Go.Sr
open Go.Conc
inductive Fix (DD:List Nat):Value→Prop
 | flat {v:Value}:Sr.flat v=true→Fix DD v
 | ptr {a:Addr}:a.block∈DD→Fix DD (.pointer (some a))
 | slice {a:Addr} {l c:Nat}:a.block∈DD→Fix DD (.slice (some a) l c)
 | chan {r:Nat}:r∈DD→Fix DD (.chan (some r))
 | agg {c:Array Value}:(∀ v∈c,Sr.flat v=true)→Fix DD (.agg c)
section
variable {P:Program} {DD DD':List Nat} {R:BR}
theorem ML [bT] {u u':Value} (hu:Sr.flat u=true) (h:qV R u u'):u'=u:=by
 cases h with
 | base h =>
  cases h with
  | flat _=>rfl
  | ptr _=>cases hu
  | slice _=>cases hu
  | chan _=>cases hu
 | func _ _ _ _ _=>cases hu
theorem Uk [bT] (hR:∀ b∈DD,∀ b',R b b'→b'=b) {v v':Value} (h:Fix DD v) (hv:VR R v v'):v'=v:=by
 cases h with
 | flat hf =>
  cases hv with
  | base h1=>exact ML hf h1
  | agg _ _=>cases hf
 | ptr hb =>
  cases hv with
  | base h1 =>
   cases h1 with
   | base h0 =>
    cases h0 with
    | flat h=>cases h
    | ptr h =>
     obtain ⟨e1,e2,e3⟩:=h
     have:=hR _ hb _ e1
     rename_i a a'
     cases a
     cases a'
     simp_all
 | slice hb =>
  cases hv with
  | base h1 =>
   cases h1 with
   | base h0 =>
    cases h0 with
    | flat h=>cases h
    | slice h =>
     obtain ⟨e1,e2,e3⟩:=h
     have:=hR _ hb _ e1
     rename_i a _ _ a'
     cases a
     cases a'
     simp_all
 | chan hb =>
  cases hv with
  | base h1 =>
   cases h1 with
   | base h0 =>
    cases h0 with
    | flat h=>cases h
    | chan h=>rw [hR _ hb _ h]
 | agg hc =>
  cases hv with
  | base h1 =>
   cases h1 with
   | base h0 =>
    cases h0 with
    | flat h=>cases h
  | agg hsz h =>
   congr 1
   apply Array.ext hsz
   intro i h1 h2
   exact ML (hc _ (Array.getElem_mem h2)) (h i _ _ (Array.getElem?_eq_getElem h2) (Array.getElem?_eq_getElem h1))
theorem bJ [bT] {v:Value} (h:Fix DD v):VR (iq DD) v v:=by
 cases h with
 | flat hf=>exact .of_flat hf
 | ptr hb=>exact .base (.base (.ptr ⟨⟨rfl,hb⟩,rfl,rfl⟩))
 | slice hb=>exact .base (.base (.slice ⟨⟨rfl,hb⟩,rfl,rfl⟩))
 | chan hb=>exact .base (.base (.chan ⟨rfl,hb⟩))
 | agg hc=>exact .Kr ⟨rfl,fun i v hv=>⟨v,hv,.base (.flat (hc v (Array.mem_of_getElem? hv)))⟩⟩
theorem Fix.mono (h:∀ b∈DD,b∈DD') {v:Value} (x:Fix DD v):Fix DD' v:=by
 cases x with
 | flat hf=>exact .flat hf
 | ptr hb=>exact .ptr (h _ hb)
 | slice hb=>exact .slice (h _ hb)
 | chan hb=>exact .chan (h _ hb)
 | agg hc=>exact .agg hc
theorem aag [bT] (hR:∀ b∈DD,∀ b',R b b'→b'=b) {t t':Array Value} (h:AF (VR R) t t') {j:Nat} {v:Value} (hj:t[j]? = some v) (hv:Fix DD v):t'[j]? = some v:=by
 obtain ⟨v',h1,h2⟩:=h.2 j v hj
 rw [Uk hR hv h2] at h1
 exact h1
theorem sQ [bT] {N:Nat} {D:Nat→Prop} {wl wa:World} (hw:WR N R D wl wa) (hle:le (iq DD) R):∀ b∈DD,∀ b',R b b'→b'=b:=fun b hb b' h=>hw.fn b b' b h (hle _ _ ⟨rfl,hb⟩)
theorem WM [bT] {b:Frame} {a:Act} {todo:List Item} (hd:a.defers=[]) (hs:∀ v∈a.tmps,VR (iq DD) v v) (hi:∀ x∈todo,jB P x) (hk:b.kind=.normal) (hr:∀ fn,P.funcs[b.fn]? = some fn→fn.results.size≤1):FQ P (iq DD) (b.at a todo) (b.at a todo) :=
 ⟨rfl,⟨rfl,fun i v hv=>⟨v,hv,hs v (Array.mem_of_getElem? hv)⟩⟩,rfl,hi,hd,hd,rfl,.inl rfl,.inl hk,.inl hk,rfl,rfl,hr⟩
theorem wP [bT] {N:Nat} {D:Nat→Prop} {wl wa:World} (hw:WR N R D wl wa) {b b':Nat} (h:R b b') (hD:¬ D b) {c:Array Value} {t:TypeId} {f:Nat × Nat} (hb:wl.heap[b]? = some (.cells c t f)) :
  ∃ c',wa.heap[b']? = some (.cells c' t (0,0))∧AF (qV R) c c':=by
 obtain ⟨o,o',h1,h2,h3⟩:=hw.obj b b' h
 rw [hb] at h1
 cases h1
 rcases h3 with ⟨c1,c',e,f1,f',e1,rfl,h4,_,h5⟩ | ⟨a,a',l,e1,_⟩ | ⟨h4,_⟩
 ·cases e1
  obtain ⟨_,rfl⟩:=h5 hD
  exact ⟨c',h2,h4⟩
 ·cases e1
 ·exact (hD h4).elim
theorem CX [bT] (hR:∀ b∈DD,∀ b',R b b'→b'=b) {c c':Array Value} (h:AF (qV R) c c') (hc:∀ v∈c,Fix DD v):c'=c:=by
 apply Array.ext h.1
 intro i h1 h2
 exact Uk hR (hc _ (Array.getElem_mem h2)) (.base (h.raw i _ _ (Array.getElem?_eq_getElem h2) (Array.getElem?_eq_getElem h1)))
end
end Go.Ph
