/- A part of the proof: T18, W30, T19, W31, T20, V7. -/
import Derived.Test.YtjjmefieegcddaaDoorA23
import Derived.Test.YtjjmefieegcddaaDoorA21
import Derived.Conc.Own2
import Derived.Test.YtjjmefieegcddaaDoorA08
import Derived.Test.YtjjmefieegcddaaDoorA04
import Derived.Test.YtjjmefieegcddaaDoorA22
set_option linter.unusedVariables false
set_option linter.unusedSimpArgs false
namespace Go.Ph
open Go
open Go.Tm
open Go.Sr
open Go.Conc
open Go.ConcN (upd upd_same upd_ne)
abbrev PostC:=(Nat→Prop)→(Nat→Prop)→List Value→Goroutine→World→Prop
def ToC (P:Program) (c:Nat) (D0 wr0:Nat→Prop) (vs:List Value) (a:Goroutine) (w:World) (Q:PostC):Prop :=
 ∀ s gs sl t w1,RelyW c (orS D0 wr0) w w1→PhC P c s gs a w1 t→s.D 0=D0→s.wr 0=wr0→(pendL s gs.size).Perm vs →
  Out P c gs w1 sl t fun s' gs' a' w'=>∃ vs',(pendL s' gs'.size).Perm vs'∧Q (s'.D 0) (s'.wr 0) vs' a' w'
section
variable {P:Program} {c:Nat} {D0 wr0:Nat→Prop} {vs:List Value} {a:Goroutine} {w:World} {Q Q':PostC}
theorem ToC.mono (h:ToC P c D0 wr0 vs a w Q) (hq:∀ D wr vs a w,Q D wr vs a w→Q' D wr vs a w):ToC P c D0 wr0 vs a w Q':=by
 intro s gs sl t w1 hr hp h1 h2 h3
 obtain ⟨N,s',gs',a',w',sl',t',k1,k2,vs',k3,k4⟩:=h s gs sl t w1 hr hp h1 h2 h3
 exact ⟨N,s',gs',a',w',sl',t',k1,k2,vs',k3,hq _ _ _ _ _ k4⟩
theorem ToC.bind (h:ToC P c D0 wr0 vs a w Q) (hq:∀ D wr vs a w,Q D wr vs a w→ToC P c D wr vs a w Q'):ToC P c D0 wr0 vs a w Q':=by
 intro s gs sl t w1 hr hp h1 h2 h3
 obtain ⟨N,s',gs',a',w',sl',t',k1,k2,vs',k3,k4⟩:=h s gs sl t w1 hr hp h1 h2 h3
 obtain ⟨M,s2,gs2,a2,w2,sl2,t2,m1,m2,m3⟩:=hq _ _ _ _ _ k4 s' gs' sl' t' w' (.refl _ w') k2 rfl rfl k3
 refine ⟨N+M,s2,gs2,a2,w2,sl2,t2,?_,m2,m3⟩
 rw [Go.Tm.runNT_add N M _ _ _ _ k1]
 exact m1
theorem ToC.rely {w':World} (h:ToC P c D0 wr0 vs a w Q) (hr:RelyW c (orS D0 wr0) w w'):ToC P c D0 wr0 vs a w' Q:=fun s gs sl t w1 hr'=>h s gs sl t w1 (hr.trans hr')
theorem toC_here (h:∀ w1,RelyW c (orS D0 wr0) w w1→Q D0 wr0 vs a w1):ToC P c D0 wr0 vs a w Q:=by
 intro s gs sl t w1 hr hp h1 h2 h3
 exact ⟨0,s,gs,a,w1,sl,t,rfl,hp,vs,h3,by rw [h1,h2];exact h w1 hr⟩
theorem PhC.setMain {s:Sit} {gs:Array Goroutine} {t:Trace} (h:PhC P c s gs a w t) (a':Goroutine):PhC P c s (gs.setIfInBounds 0 a') a' w t:=by
 have hsz:(gs.setIfInBounds 0 a').size=gs.size:=by simp
 refine ⟨by simp [h.lt],fun i g hi hg=>h.old i g hi ?_,fun j hj=>h.above j (by rw [hsz] at hj;exact hj),h.chan,fun g hg=>h.nochan g (by rw [hsz] at hg;exact hg),h.heap,by rw [hsz];exact h.tr⟩
 rwa [Array.getElem?_setIfInBounds_ne (by omega)] at hg
theorem PhC.listed {s:Sit} {gs:Array Goroutine} {t:Trace} (h:PhC P c s gs a w t) {es:Array Event} (hev:∀ e∈es,EvOk (s.D 0) (s.wr 0) e) (fn:FuncId) (pos:String):PhC P c s gs a w (t ++ MemOp.ofEvents 0 fn pos es):=by
 have hu:∀ op∈MemOp.ofEvents 0 fn pos es,op.g=0:=fun op hop=>by obtain ⟨e,_,rfl⟩:=Go.Conc.mem_ofEvents hop;rfl
 have hown:=h.tr.own (.inl rfl) hev (fun _ h=>h) (fun _ h=>.inl h) (Nat.le_refl _) fn pos
 have hwr:upd s.wr 0 (s.wr 0)=s.wr:=by
  funext j
  by_cases e:j=0
  ·subst e;rw [upd_same]
  ·rw [upd_ne _ _ e]
 rw [hwr] at hown
 refine ⟨h.zero,fun i g hi hg=>(h.old i g hi hg).keep rfl rfl rfl rfl (Deaf_other t (by omega) _ hu) fun _=>.refl _ w,fun j hj=>?_,h.chan,h.nochan,h.heap,hown⟩
 have:=h.lt
 rw [Deaf_other t (by omega) _ hu]
 exact h.above j hj
theorem toC_wt {Stop:StopW} (hat:∀ wr fr mine w d,Stop wr fr mine (w.at d)→Stop wr fr mine w) {fr:Frame} {mine cs:List Frame} (h:WT P c D0 Stop wr0 fr mine w)
  (hk:∀ wr' fr' mine' w',Stop wr' fr' mine' w'→ToC P c D0 wr' vs (G fr' (mine' ++ cs)) w' Q):ToC P c D0 wr0 vs (G fr (mine ++ cs)) w Q:=by
 obtain ⟨τ,h⟩:=h
 have main:∀ (τ:Tr) (wr0:Nat→Prop) (fr:Frame) (mine:List Frame) (w:World),WTr P c D0 Stop τ wr0 fr mine w→ToC P c D0 wr0 vs (G fr (mine ++ cs)) w Q:=by
  intro τ
  induction τ with
  | leaf =>
   intro wr0 fr mine w h s gs sl t w1 hr hp h1 h2 h3
   exact hk _ _ _ _ (h w1 hr) s gs sl t w1 (.refl _ w1) hp h1 h2 h3
  | node f ih =>
   intro wr0 fr mine w h s gs sl t w1 hr hp h1 h2 h3
   refine await_main' (s0:=s) (n:=gs.size) (w0:=w1) rfl (fun w=>Stop wr0 fr mine w) (fun s' gs' w' sl' t' hp' hL hn hr' hE=>?_) (fun s' gs' w' sl' t' d hp' hL hn hr' hE=>?_) s gs w1 sl t hp (.refl s) rfl (.refl _ w1)
   ·exact hk _ _ _ _ hE s' gs' sl' t' w' (.refl _ w') hp' (by rw [hL.D,h1]) (by rw [hL.wr0,h2]) (by rw [hn,hL.pend];exact h3)
   ·rw [h1,h2] at hr'
    rcases h (w'.at d) (hr.trans hr') with hs | ⟨fr',mine',w2,es,wr',k1,k2,k3,k4,k5⟩
    ·exact (hE (hat _ _ _ _ _ hs)).elim
    ·have hD:s'.D 0=D0:=by rw [hL.D,h1]
     have hw:s'.wr 0=wr0:=by rw [hL.wr0,h2]
     have hst:=hp'.step (i:=0) (.inl rfl) (g:=G fr (mine ++ cs)) (g':=G fr' (mine' ++ cs)) (x:=.sit) (es:=es) (wr':=wr') hp'.zero (fun h=>(h rfl).elim) (by rw [hD];exact k2) (by rw [hw];exact k3) (by rw [hw];exact k4) (fun h=>(h rfl).elim) (G fr (mine ++ cs)).frame.fn (G fr (mine ++ cs)).frame.place (fun h=>(h rfl).elim)
     simp only [if_true] at hst
     refine ⟨_,_,_,runT_crowd_go hp'.zero (show stepG P (0 == 0) _ _=_ from k1 true cs),?_⟩
     refine ih (w'.at d) wr' fr' mine' w2 k5 _ _ _ _ w2 (.refl _ w2) hst hD (by show upd s'.wr 0 wr' 0=wr';exact upd_same _ _ _) ?_
     have hsz:((gs'.map (woken P (G fr (mine ++ cs)) (G fr' (mine' ++ cs)) w2)).setIfInBounds 0 (G fr' (mine' ++ cs))).size=gs.size:=by simp [hn]
     rw [hsz]
     have e:pendL { s' with K:=s'.K,wr:=upd s'.wr 0 wr' } gs.size=pendL s gs.size:=by
      rw [← hL.pend]
      exact pend_congr fun _ _=>⟨rfl,rfl⟩
     exact e ▸ h3
 exact main τ wr0 fr mine w h
theorem toC_spawn (ha:a.status=.running)
  (hs:∀ w1,RelyW c (orS D0 wr0) w w1→∃ a' frc es Dc D0' wr0' v,stepG P true a w1=.spawn a' (G frc []) w1 es∧(∀ e∈es,EvOk D0 wr0 e)∧(∀ b,Dc b→D0 b∨wr0 b)∧(∀ b,D0' b∨wr0' b→D0 b∨wr0 b)∧(∀ b,wr0' b→wr0 b∧¬ Dc b) ∧
   WT P c Dc (AtSend P c v Dc) (fun _=>False) frc [] w1∧ToC P c D0' wr0' (v :: vs) a' w1 Q):ToC P c D0 wr0 vs a w Q:=by
 intro s gs sl t w1 hr hp h1 h2 h3
 refine await_main (s0:=s) (n:=gs.size) (w0:=w1) ha (fun s' gs' w' sl' t' hp' hL hn hr'=>?_) s gs w1 sl t hp (.refl s) rfl (.refl _ w1)
 rw [h1,h2] at hr'
 have hD:s'.D 0=D0:=by rw [hL.D,h1]
 have hw:s'.wr 0=wr0:=by rw [hL.wr0,h2]
 obtain ⟨a',frc,es,Dc,D0',wr0',v,k1,k2,k3,k4,k5,⟨τ,k6⟩,k7⟩:=hs w' (hr.trans hr')
 have hlt:=hp'.lt
 have hl:=hp'.listed (es:=es) (by rw [hD,hw];exact k2) a.frame.fn a.frame.place
 have hn0:gs'.size≠0:=by omega
 have hnact:¬ s'.act gs'.size gs'.size:=fun h=>Nat.lt_irrefl _ h.2.1
 have hhire:=hl.tr.hire (c:=gs'.size) ⟨hn0,hnact⟩ (hl.above _ (Nat.le_refl _)) Dc D0' wr0' (by rw [hD,hw];exact k3) (by rw [hD,hw];exact k4) (by rw [hw];exact k5) a.frame.fn a.frame.place frc.fn
 let s2:Sit:={ K:=upd s'.K gs'.size (.work τ),D:=upd (upd s'.D gs'.size Dc) 0 D0',wr:=upd (upd s'.wr gs'.size fun _=>False) 0 wr0',val:=upd s'.val gs'.size v }
 have hact:(fun g=>s'.act gs'.size g∨g=gs'.size)=s2.act (gs'.size+1):=by
  funext g
  apply propext
  unfold Sit.act
  constructor
  ·rintro (⟨x1,x2,x3⟩ | rfl)
   ·exact ⟨x1,by omega,by show (upd s'.K gs'.size (WK.work τ) g).busy=true;rw [upd_ne _ _ (by omega)];exact x3⟩
   ·exact ⟨by omega,by omega,by show (upd s'.K gs'.size (WK.work τ) gs'.size).busy=true;rw [upd_same];rfl⟩
  ·rintro ⟨x1,x2,x3⟩
   by_cases e:g=gs'.size
   ·exact .inr e
   ·refine .inl ⟨x1,by omega,?_⟩
    have x3':(upd s'.K gs'.size (WK.work τ) g).busy=true:=x3
    rwa [upd_ne _ _ e] at x3'
 have hsz:((gs'.setIfInBounds 0 a').push (G frc [])).size=gs'.size+1:=by simp
 generalize hu:(#[{ g:=0,fn:=a.frame.fn,pos:=a.frame.place,act:=.go gs'.size },{ g:=gs'.size,fn:=frc.fn,pos:=a.frame.place,act:=.start }]:Trace)=u at hhire
 have hq:∀ g,∀ op∈u,∀ d,deafStep g d op=d:=by
  intro g op hop d
  subst hu
  simp only [List.mem_toArray,List.mem_cons,List.not_mem_nil,or_false] at hop
  rcases hop with rfl | rfl <;> rfl
 have hdeaf:∀ g,Deaf (t' ++ MemOp.ofEvents 0 a.frame.fn a.frame.place es ++ u) g=Deaf (t' ++ MemOp.ofEvents 0 a.frame.fn a.frame.place es) g:=fun g=>Deaf_quiet (hq g)
 have hpc:PhC P c s2 ((gs'.setIfInBounds 0 a').push (G frc [])) a' w' (t' ++ MemOp.ofEvents 0 a.frame.fn a.frame.place es ++ u):=by
  refine ⟨?_,fun i g hi hg=>?_,fun j hj=>?_,hl.chan,fun g hg=>?_,hl.heap,?_⟩
  ·rw [Array.getElem?_push,if_neg (by simp;omega)]
   simp [hlt]
  ·rw [Array.getElem?_push] at hg
   split at hg
   ·rename_i hi2
    simp only [Array.size_setIfInBounds] at hi2
    cases hg
    subst hi2
    unfold WkOk
    have eK:s2.K gs'.size=.work τ:=upd_same _ _ _
    have eD:s2.D gs'.size=Dc:=by show upd (upd s'.D gs'.size Dc) 0 D0' gs'.size=_;rw [upd_ne _ _ hn0,upd_same]
    have ew:s2.wr gs'.size=fun _=>False:=by show upd (upd s'.wr gs'.size fun _=>False) 0 wr0' gs'.size=_;rw [upd_ne _ _ hn0,upd_same]
    have ev:s2.val gs'.size=v:=upd_same _ _ _
    rw [eK]
    dsimp only
    rw [eD,ew,ev]
    exact ⟨frc,[],rfl,k6⟩
   ·rename_i hi2
    rw [Array.getElem?_setIfInBounds_ne (by omega)] at hg
    have hne:i≠gs'.size:=by simpa using hi2
    refine (hl.old i g hi hg).keep (upd_ne _ _ hne) ?_ ?_ (upd_ne _ _ hne) (hdeaf i) fun _=>.refl _ w'
    ·show upd (upd s'.D gs'.size Dc) 0 D0' i=_
     rw [upd_ne _ _ (by omega),upd_ne _ _ hne]
    ·show upd (upd s'.wr gs'.size fun _=>False) 0 wr0' i=_
     rw [upd_ne _ _ (by omega),upd_ne _ _ hne]
  ·rw [hsz] at hj
   rw [hdeaf]
   exact hl.above j (by omega)
  ·rw [hsz,← hact] at hg
   show ¬ upd (upd s'.wr gs'.size fun _=>False) 0 wr0' g c
   by_cases e:g=0
   ·subst e
    rw [upd_same]
    intro hb
    have:=(k5 c hb).1
    rw [← hw] at this
    exact hl.nochan 0 (.inl rfl) this
   ·rw [upd_ne _ _ e]
    by_cases e':g=gs'.size
    ·subst e';rw [upd_same];exact id
    ·rw [upd_ne _ _ e']
     exact hl.nochan g (hg.elim .inl fun h=>h.elim .inr fun h=>(e' h).elim)
  ·rw [hsz,← hact]
   exact hhire
 refine ⟨_,_,_,runT_crowd_spawn hp'.zero (show stepG P (0 == 0) a w'=_ from k1),?_⟩
 have htr:t' ++ (((MemOp.ofEvents 0 a.frame.fn a.frame.place es).push { g:=0,fn:=a.frame.fn,pos:=a.frame.place,act:=.go gs'.size }).push { g:=gs'.size,fn:=(G frc []).frame.fn,pos:=a.frame.place,act:=.start })=t' ++ MemOp.ofEvents 0 a.frame.fn a.frame.place es ++ u:=by
  subst hu
  rw [Array.append_assoc]
  congr 1
 rw [htr]
 refine k7 s2 _ _ _ w' (.refl _ w') hpc (by show upd (upd s'.D gs'.size Dc) 0 D0' 0=D0';exact upd_same _ _ _) (by show upd (upd s'.wr gs'.size fun _=>False) 0 wr0' 0=wr0';exact upd_same _ _ _) ?_
 rw [hsz,pend_succ]
 have e1:pendL s2 gs'.size=pendL s gs.size:=by
  rw [← hL.pend,← hn]
  refine pend_congr fun i hi=>⟨?_,?_⟩
  ·show (upd s'.K gs'.size (WK.work τ) i).busy=_
   rw [upd_ne _ _ (by omega)]
  ·show upd s'.val gs'.size v i=_
   rw [upd_ne _ _ (by omega)]
 have e2:(0 < gs'.size∧(s2.K gs'.size).busy=true):=⟨hlt,by show (upd s'.K gs'.size (WK.work τ) gs'.size).busy=true;rw [upd_same];rfl⟩
 have e3:s2.val gs'.size=v:=upd_same _ _ _
 rw [if_pos e2,e1,e3]
 exact (List.perm_append_singleton _ _).trans (h3.cons v)
theorem send_partner {s:Sit} {gs:Array Goroutine} {t:Trace} (h:PhC P c s gs a w t):∀ j k,(j,k)∈partners (gs.setIfInBounds 0 ph) c true→k=0∧0 < j∧s.act gs.size j∧∃ g₂ z,gs[j]? = some (parked g₂ #[scase c (s.val j) z] .send)∧∃ q,QuitsD P q 0 (Conc.served g₂ undef):=by
 intro j k hjk
 obtain ⟨g,hg,hk⟩:=mem_partners.1 hjk
 rcases getElem?_stand gs 0 j g hg with ⟨_,rfl⟩ | ⟨hj0,hg⟩
 ·rw [offersAt_ph] at hk;cases hk
 ·have hpos:0 < j:=by omega
  have hw:=h.old j g hpos hg
  unfold WkOk at hw
  cases hK:s.K j with
  | leave q =>
   rw [hK] at hw
   have hs:=QuitsD.status hw
   rw [offersAt_of_not_blocked (fun e=>by rcases hs with hs | hs <;> rw [e] at hs <;> cases hs) _ _] at hk
   cases hk
  | work τ =>
   rw [hK] at hw
   obtain ⟨fr,mine,rfl,_⟩:=hw
   rw [offersAt_of_not_blocked (by simp [G]) _ _] at hk
   cases hk
  | sit =>
   rw [hK] at hw
   obtain ⟨g₂,z,rfl,hq⟩:=hw
   rw [offersAt_parked_send] at hk
   simp at hk
   exact ⟨hk,hpos,⟨hpos,(Array.getElem?_eq_some_iff.1 hg).1,by rw [hK];rfl⟩,g₂,z,hg,hq⟩
theorem toC_recv (ha:a.status=.running) (hne:vs≠[])
  (hs:∀ w1,RelyW c (orS D0 wr0) w w1→∃ a₂ z es,stepG P true a w1=.comm a₂ #[rcase c z] true (.recv false) w1 es∧(∀ e∈es,EvOk D0 wr0 e) ∧
   ∀ v rest,vs.Perm (v :: rest)→∀ w2,RelyW c (orS D0 wr0) w1 w2→ToC P c D0 wr0 rest (Conc.served a₂ v) w2 Q):ToC P c D0 wr0 vs a w Q:=by
 intro s gs sl t w1 hr hp h1 h2 h3
 refine await_main (s0:=s) (n:=gs.size) (w0:=w1) ha (fun s' gs' w' sl' t' hp' hL hn hr'=>?_) s gs w1 sl t hp (.refl s) rfl (.refl _ w1)
 rw [h1,h2] at hr'
 have hD:s'.D 0=D0:=by rw [hL.D,h1]
 have hw:s'.wr 0=wr0:=by rw [hL.wr0,h2]
 obtain ⟨a₂,z,es,k1,k2,k3⟩:=hs w' (hr.trans hr')
 have hl:=hp'.listed (es:=es) (by rw [hD,hw];exact k2) a.frame.fn a.frame.place
 obtain ⟨k,hk⟩:=hp'.chan
 have hpend:(pendL s' gs'.size).Perm vs:=by rw [hL.pend,hn];exact h3
 have hst:stepG P (0 == 0) a w'=.comm a₂ #[rcase c z] true (.recv false) w' es:=k1
 have hlt:=hp'.lt
 by_cases hpn:partners (gs'.setIfInBounds 0 ph) c true=[]
 ·refine ⟨_,_,_,crowd_waits hp'.zero hst (fun cc hcc=>?_),?_⟩
  ·simp only [List.mem_toArray,List.mem_singleton] at hcc
   subst hcc
   exact ways_recv_none hk hpn
  ·have hsome:∃ i,s'.act gs'.size i:=by
    apply Classical.byContradiction
    intro hno
    apply hne
    have:pendL s' gs'.size=[]:=by
     unfold pendL
     rw [List.map_eq_nil_iff,List.filter_eq_nil_iff]
     intro i hi hb
     simp only [Bool.and_eq_true,decide_eq_true_eq] at hb
     exact hno ⟨i,hb.1,List.mem_range.1 hi,hb.2⟩
    rw [this] at hpend
    exact hpend.nil_eq.symm
   refine await_meet (s0:=s') (n:=gs'.size) (w0:=w') (z:=z) hsome (fun s2 i q gs2 w2 sl2 t2 hi hL2 hn2 hr2 hp2=>?_) s' _ w' _ _ (hl.setMain _) (fun i hpos hi hsit=>?_) (.refl s') (by simp) (.refl _ w')
   ·rw [hD,hw] at hr2
    have hperm:vs.Perm (s2.val i :: pendL { s2 with K:=upd s2.K i (.leave q) } gs'.size):=by
     refine hpend.symm.trans ?_
     rw [← hL2.pend]
     exact pend_meet hi
    exact k3 _ _ hperm w2 hr2 _ gs2 sl2 t2 w2 (.refl _ w2) hp2 (by show s2.D 0=_;rw [hL2.D,hD]) (by show s2.wr 0=_;rw [hL2.wr0,hw]) (by rw [hn2])
   ·have hw2:=hp'.old i gs'[i] hpos (Array.getElem?_eq_getElem hi)
    unfold WkOk at hw2
    rw [hsit] at hw2
    obtain ⟨g₂,z2,e,_⟩:=hw2
    have:(i,0)∈partners (gs'.setIfInBounds 0 ph) c true:=mem_partners.2 ⟨gs'[i],by rw [Array.getElem?_setIfInBounds_ne (by omega)];exact Array.getElem?_eq_getElem hi,by rw [e,offersAt_parked_send];simp⟩
    rw [hpn] at this
    cases this
 ·obtain ⟨j,gj,vj,zj,shj,d,hj0,hgj,hrun⟩:=crowd_recv_meets_some (P:=P) (sl:=sl') hp'.zero hst hk hpn (fun j k hjk=>by
   obtain ⟨x1,x2,_,g₂,z2,x4,_⟩:=send_partner hp' j k hjk
   exact ⟨x1,by omega,g₂,_,z2,_,x4⟩)
  have hpos:0 < j:=by omega
  have hwj:=hp'.old j _ hpos hgj
  have hjlt:=(Array.getElem?_eq_some_iff.1 hgj).1
  have hact:s'.act gs'.size j∧vj=s'.val j∧shj=.send∧∃ q,QuitsD P q 0 (Conc.served gj undef):=by
   unfold WkOk at hwj
   cases hK:s'.K j with
   | leave q =>
    rw [hK] at hwj
    rcases QuitsD.status hwj with hs | hs <;> cases hs
   | work τ =>
    rw [hK] at hwj
    obtain ⟨fr,mine,e,_⟩:=hwj
    have:=congrArg (·.status) e
    cases this
   | sit =>
    rw [hK] at hwj
    obtain ⟨g₂,z2,e,q,hq⟩:=hwj
    refine ⟨⟨hpos,hjlt,by rw [hK];rfl⟩,?_,?_,q,by rw [served_parked e];exact hq⟩
    all_goals simp only [parked,Goroutine.mk.injEq,Option.some.injEq,Prod.mk.injEq] at e
    ·have e2:=e.2.2.2.2.1
     simp [scase] at e2
     exact e2.1
    ·exact e.2.2.2.2.2
  obtain ⟨hact,rfl,rfl,q,hq⟩:=hact
  refine ⟨_,_,_,hrun,?_⟩
  have hmet:=hl.met (j:=j) (a':=Conc.served a₂ (s'.val j)) (g':=Conc.served gj undef) (q:=q) (k:=k) (cap:=0) hact hq gj.frame.fn gj.frame.place a₂.frame.fn a₂.frame.place (k+1)
   ((gs'.setIfInBounds j (Conc.served gj undef)).setIfInBounds 0 (Conc.served a₂ (s'.val j))) (by simp) (by simp [hlt]) (by rw [Array.getElem?_setIfInBounds_ne (Ne.symm hj0)];simp [hjlt])
   (fun x hx0 hxj=>by rw [Array.getElem?_setIfInBounds_ne (Ne.symm hx0),Array.getElem?_setIfInBounds_ne (Ne.symm hxj)]) d _ rfl
  rw [Array.append_assoc] at hmet
  have hr2:RelyW c (orS D0 wr0) w' ((w'.at d).setChan c 0 #[] false (k+1) (k+1) false):=by
   refine ⟨by show w'.heap.size≤(w'.heap.setIfInBounds c _).size;simp,fun b _=>?_,rfl,rfl,rfl⟩
   by_cases e:b=c
   ·subst e
    refine .inr ⟨rfl,_,.chan 0 #[] false (k+1) (k+1) false,hk,?_,rfl,rfl⟩
    show (w'.heap.setIfInBounds b _)[b]? = _
    rw [Array.getElem?_setIfInBounds_self_of_lt (Array.getElem?_eq_some_iff.1 hk).1]
   ·refine .inl ?_
    show (w'.heap.setIfInBounds c _)[b]? = _
    rw [Array.getElem?_setIfInBounds_ne (Ne.symm e)]
  exact k3 _ _ (hpend.symm.trans (pend_meet (q:=q) hact)) _ hr2 _ _ _ _ _ (.refl _ _) hmet hD hw (by rw [Array.size_setIfInBounds,Array.size_setIfInBounds])
theorem toB_phase {QB:Goroutine→World→Prop} (hheap:HeapOk OC w) (hch:∃ k,w.heap[c]? = some (.chan 0 #[] false k k false)) (hnc:¬ wr0 c) (hlow:∀ b,D0 b∨wr0 b→b < w.heap.size)
  (h:ToC P c D0 wr0 [] a w Q) (hQ:∀ D wr vs a w,Q D wr vs a w→HeapOk OC w→vs=[]∧QB a w):ToB P a w QB:=by
 intro gs sl t d hc
 obtain ⟨h0,⟨q,hL⟩,hP⟩:=hc
 let s:Sit:={ K:=fun i=>.leave (q i),D:=fun _=>D0,wr:=fun _=>wr0,val:=fun _=>undef }
 have hact:∀ g,¬ s.act gs.size g:=fun g h=>by cases h.2.2
 have hpc:PhC P c s gs a (w.at d) t:=by
  refine ⟨h0,fun i g hi hg=>hL.old i g hi hg,hL.above,hch,fun _ _=>hnc,hheap,?_⟩
  have e:s.act gs.size=fun _=>False:=by funext g;exact propext ⟨fun h=>(hact g h).elim,fun h=>h.elim⟩
  rw [e]
  exact PhT.ofPast hP _ _ hlow
 have hnil:pendL s gs.size=[]:=by
  unfold pendL
  rw [List.map_eq_nil_iff,List.filter_eq_nil_iff]
  intro i hi hb
  simp only [Bool.and_eq_true,decide_eq_true_eq] at hb
  cases hb.2
 obtain ⟨N,s',gs',a',w',sl',t',k1,k2,vs',k3,k4⟩:=h s gs sl t (w.at d) (.at _ w d) hpc rfl rfl (by rw [hnil])
 obtain ⟨rfl,k5⟩:=hQ _ _ _ _ _ k4 k2.heap
 have hnil':pendL s' gs'.size=[]:=k3.eq_nil
 have hleave:∀ i,0 < i→i < gs'.size→(s'.K i).busy=false:=by
  intro i h1 h2
  cases hb:(s'.K i).busy with
  | false=>rfl
  | true =>
   unfold pendL at hnil'
   rw [List.map_eq_nil_iff,List.filter_eq_nil_iff] at hnil'
   have:=hnil' i (List.mem_range.2 h2)
   simp [h1,hb] at this
 refine ⟨N,gs',a',w',sl',t',k1,⟨k2.zero,⟨fun i=>(match s'.K i with | .leave q=>q | _=>0),fun i g hi hg=>?_,k2.above⟩,k2.tr.toPast fun g hg=>?_⟩,k5⟩
 ·have hw:=k2.old i g hi hg
  have hb:=hleave i hi (Array.getElem?_eq_some_iff.1 hg).1
  unfold WkOk at hw
  cases hK:s'.K i with
  | leave q=>rw [hK] at hw;exact hw
  | work τ=>rw [hK] at hb;cases hb
  | sit=>rw [hK] at hb;cases hb
 ·have:=hleave g hg.1 hg.2.1
  rw [hg.2.2] at this
  cases this
end
end Go.Ph
namespace Go.Proofs.YtjjmefieegcddaaDoor
open Go Go.Sr Go.Ph Go.Tm
instance wfns:Fns:=⟨fun f=>[123,124,125,126,127,133].contains f⟩
theorem sokC:SokC Tryd.prog:=by
 intro f hf
 have h:f=123∨f=124∨f=125∨f=126∨f=127∨f=133:=by
  have:[123,124,125,126,127,133].contains f=true:=hf
  simpa using this
 rcases h with rfl | rfl | rfl | rfl | rfl | rfl
 ·exact ⟨Tryd.f123,_,Tryd.func123,rfl,by kernel_rfl,by decide,by kernel_rfl⟩
 ·exact ⟨Tryd.f124,_,Tryd.func124,rfl,by kernel_rfl,by decide,by kernel_rfl⟩
 ·exact ⟨Tryd.f125,_,Tryd.func125,rfl,by kernel_rfl,by decide,by kernel_rfl⟩
 ·exact ⟨Tryd.f126,_,Tryd.func126,rfl,by kernel_rfl,by decide,by kernel_rfl⟩
 ·exact ⟨Tryd.f127,_,Tryd.func127,rfl,by kernel_rfl,by decide,by kernel_rfl⟩
 ·exact ⟨Tryd.f133,_,Tryd.func133,rfl,by kernel_rfl,by decide,by kernel_rfl⟩
end Go.Proofs.YtjjmefieegcddaaDoor
namespace Go.Ph
open Go
open Go.Tm
open Go.Sr
open Go.Conc
def frzO:Obj→Obj
 | .cells c t _=>.cells c t (0,c.size)
 | o=>o
def frzW (D:List Nat) (w:World):World:={ w with heap:=w.heap.mapIdx fun b o=>if b∈D then frzO o else o }
def inL (D:List Nat):Nat→Prop:=fun b=>b∈D
def idR (D:List Nat):BR:=fun b b'=>b'=b∧b∈D
section
variable {P:Program} {D:List Nat} {w:World}
theorem frzW_get (D:List Nat) (w:World) (b:Nat):(frzW D w).heap[b]? = (w.heap[b]?).map fun o=>if b∈D then frzO o else o:=by
 simp [frzW]
theorem frzW_size (D:List Nat) (w:World):(frzW D w).heap.size=w.heap.size:=by simp [frzW]
theorem frz_heapOk (h:HeapOk OC w):HeapOk OC (frzW D w):=by
 intro i o ho
 rw [frzW_get] at ho
 cases hw:w.heap[i]? with
 | none=>rw [hw] at ho;cases ho
 | some x =>
  rw [hw] at ho
  have:=h i x hw
  replace ho:(if i∈D then frzO x else x)=o:=by simpa using ho
  split at ho
  ·subst ho;cases x <;> exact this
  ·subst ho;exact this
theorem frz_rel [Fns] {N:Nat} (hN:∀ b∈D,N≤b) (hlt:N≤w.heap.size)
  (hobj:∀ b∈D,(∃ c t,w.heap[b]? = some (.cells c t (0,0))∧∀ v∈c,VR1 (idR D) v v)∨∃ o,w.heap[b]? = some o∧isCh o=true):WR N (idR D) (inL D) (frzW D w) w:=by
 refine ⟨?_,?_,?_,?_,?_,rfl,rfl,?_,by rw [frzW_size];exact hlt,hlt⟩
 ·rintro b _ ⟨rfl,hb⟩
  rcases hobj _ hb with ⟨c,t,h1,h2⟩ | ⟨o,h1,h2⟩
  ·refine ⟨.cells c t (0,c.size),.cells c t (0,0),?_,h1,.inl ⟨c,c,t,(0,c.size),(0,0),rfl,rfl,⟨rfl,fun i v hv=>⟨v,hv,h2 v (Array.mem_of_getElem? hv)⟩⟩,fun _=>rfl,fun h=>(h hb).elim⟩⟩
   rw [frzW_get,h1]
   simp [hb,frzO]
  ·refine ⟨o,o,?_,h1,.inr (.inr ⟨hb,h2,h2⟩)⟩
   rw [frzW_get,h1]
   cases o <;> first | (cases h2;done) | (simp only [Option.map_some];split <;> rfl)
 ·rintro b b1 b2 ⟨rfl,_⟩ ⟨rfl,_⟩
  rfl
 ·rintro b1 b2 b ⟨h1,_⟩ ⟨h2,_⟩
  exact h1.symm.trans h2
 ·rintro b b' ⟨rfl,_⟩ _
  rfl
 ·rintro b b' ⟨rfl,h⟩
  exact ⟨hN _ h,hN _ h⟩
 ·intro b hb
  rw [frzW_size]
  rcases hobj b hb with ⟨c,t,h1,_⟩ | ⟨o,h1,_⟩ <;> exact (Array.getElem?_eq_some_iff.1 h1).1
theorem own_idR (D:List Nat):own (inL D) (idR D)=fun _=>False:=by
 funext b
 refine propext ⟨fun ⟨x,h1,h2⟩=>h2 h1.2,fun h=>h.elim⟩
theorem todo_default:(default:Frame).todo=[]:=rfl
def bornFr (P:Program) (ds:List Deferred):Frame:={ (default:Frame) with fn:=P.funcs.size,defers:=ds,mode:=.panicking [goexitEntry] }
theorem born_enter {f:FuncId} {fn:Func} {c:Code} {args caps:Array Value} (hf:P.funcs[f]? = some fn) (hname:(fn.name == "runtime.NumGoroutine")=false) (hb:fn.body=some c) (main:Bool) (cs:List Frame) (w:World) :
  stepG P main (G (bornFr P [{ target:=.fn (.func f) caps,args:=args }]) ([] ++ cs)) w=.go (G (Frame.enter P f (args ++ caps) .deferred) ([bornFr P []] ++ cs)) w #[]:=by
 have h1:¬ fn.name = "runtime.NumGoroutine" := by simpa using hname
 simp [G,stepG,unwind,callDeferred,bornFr,invoke,callFunc,hf,h1,hb,GStep.after,seen_none]
theorem born_quits:QuitsD P 1 0 (G (bornFr P []) []):=by
 refine .inr ⟨rfl,{ G (bornFr P []) [] with status:=.finished },#[],by simp,fun w=>?_,rfl,rfl⟩
 simp [G,stepG,unwind,bornFr,Frame.catches,goexitEntry,todo_default]
theorem quits_last {b:Frame} {a:Act} {todo:List Item} {fn:Func} (hk:b.kind=.normal∨b.kind=.deferred) (hd:a.defers=[]) (hf:P.funcs[b.fn]? = some fn) (hr:fn.results=#[]) :
  QuitsD P 2 0 (G { b.at a todo with mode:=.returning } [bornFr P []]):=by
 refine .ctl rfl (fun w=>?_) born_quits
 have h1:=results_none hr a.tmps P w
 have h2:=events_results_none (P:=P) (w:=w) hr a.tmps #[]
 rcases hk with hk | hk <;> simp [G,stepG,unwind,doReturn,Frame.at,hk,hd,hf,h1,h2,bornFr,Frame.finish,goexitEntry,seen,GStep.after,todo_default]
theorem atSend_of {b:Frame} {a:Act} {fn:Func} {ops:Array Oper} {i:Nat} {o:Oper} {x y:Operand} {c:Nat} {v:Value} {DD wr:Nat→Prop} (ho:ops[i]? = some o) (hw:Region.wanted o (yielded ops a.tmps)=true) (hop:o.op=.send x y)
  (hx:a.eval x=.chan (some c)) (hy:a.eval y=v) (hk:b.kind=.normal∨b.kind=.deferred) (hd:a.defers=[]) (hf:P.funcs[b.fn]? = some fn) (hr:fn.results=#[]) :
  AtSend P c v DD wr (b.at a [.inRegion ops [i]]) [bornFr P []] w:=by
 have hrun:(execOp a.eval o).run P w=.ok (.comm #[scase c v (.tuple #[])] true .send) w:=by
  unfold execOp
  simp [hop,hx,hy,scase]
 have hev:(execOp a.eval o).events P w #[]=#[]:=by
  unfold execOp
  simp [hop]
 have hk':b.kind≠.early:=by rcases hk with h | h <;> rw [h] <;> decide
 refine ⟨_,.tuple #[],_,stepG_comm ho hw hk' hrun,fun e he=>?_,4,?_⟩
 ·unfold listed at he
  rw [hev,seen_none] at he
  simp at he
 ·have hfin:(b.at a (.inRegion ops [i] :: [])).finish undef=b.at (a.put o.dst undef) (.inRegion ops [] :: []):=by rw [Frame.finish_at,ho];rfl
  have e:Conc.served (G (b.at a [.inRegion ops [i]]) [bornFr P []]) undef=G (b.at (a.put o.dst undef) [.inRegion ops []]) [bornFr P []]:=by
   simp only [Conc.served,G,hfin]
  rw [e]
  refine .ctl rfl (fun _=>stepG_region_end) (.ctl rfl (fun _=>stepG_end) (quits_last hk ?_ hf hr))
  unfold Act.put
  split <;> exact hd
end
end Go.Ph
namespace Go.Proofs.YtjjmefieegcddaaDoor
open Go.RowKit Go.Wg Go.Mm Go.Wk
open Go Go.Sr Go.Ph Go.Tm Go.Conc
variable {w:World} {V:View}
theorem cel_cells {V V':View} {p:Nat} {k:Wk} {ts:List Nat} {vv rv:Value} (h:Cel V p k ts vv rv) (hV:∀ b i v,V.Cell b i v→V'.Cell b i v):Cel V' p k ts vv rv:=by
 have rg:∀ {b i vs},V.Range b i vs→V'.Range b i vs:=fun h j v hj=>hV _ _ _ (h j v hj)
 have sl:∀ {v n sz get},VSl V v n sz get→VSl V' v n sz get:=fun ⟨a,cap,h1,h2,h3,h4⟩ =>
  ⟨a,cap,h1,h2,h3,fun hn=>by obtain ⟨g,off,h5,h6⟩:=h4 hn;exact ⟨g,off,h5,fun i hi=>rg (h6 i hi)⟩⟩
 obtain ⟨g,cap,h2,h3⟩:=h.c2
 exact ⟨hV _ _ _ h.c0,hV _ _ _ h.c1,⟨g,cap,hV _ _ _ h2,fun i hi=>hV _ _ _ (h3 i hi)⟩,sl h.ves,sl h.rdg,fun i hi=>rg (h.tun i hi),fun i hi=>by obtain ⟨v,h1,h2⟩:=h.fil i hi;exact ⟨v,hV _ _ _ h1,sl h2⟩,h.pos,h.le⟩
def frzV (V:View) (D:List Nat):View:=fun b=>if b∈D then (V b).map frzO else none
theorem frzV_in {D:List Nat} (h:V.In w):(frzV V D).In (frzW D w):=fun b o hb=>by
 unfold frzV at hb
 split at hb
 ·rename_i hm
  cases hv:V b with
  | none=>rw [hv] at hb;cases hb
  | some x =>
   rw [hv] at hb
   rw [frzW_get,h b x hv]
   simpa [hm] using hb
 ·cases hb
theorem frzV_cell {D:List Nat} {b i:Nat} {v:Value} (hb:b∈D) (h:V.Cell b i v):(frzV V D).Cell b i v:=by
 obtain ⟨cs,t,fr,h1,h2⟩:=h
 exact ⟨cs,t,(0,cs.size),by simp [frzV,hb,h1,frzO],h2⟩
theorem keep_frz {D E:List Nat} (hE:∀ b∈D,b∈E) {b i:Nat} {v:Value} (h:(keepD V D).Cell b i v):(frzV V E).Cell b i v:=by
 obtain ⟨cs,t,fr,h1,h2⟩:=h
 unfold keepD at h1
 split at h1
 ·rename_i hm
  exact frzV_cell (hE b hm) ⟨cs,t,fr,h1,h2⟩
 ·cases h1
theorem stC_flat (s:SS) (v:Value) (h:v∈stC s):flat0 v=true:=by
 unfold stC limC losC at h
 simp only [List.mem_append,List.mem_map,List.mem_flatMap] at h
 rcases h with ⟨m,_,rfl⟩ | ⟨q,_,h⟩
 ·rfl
 ·simp only [List.mem_cons,List.not_mem_nil,or_false] at h
  rcases h with rfl | rfl <;> rfl
theorem flat_of0 {v:Value} (h:flat0 v=true):Sr.flat v=true:=by
 unfold flat0 at h
 split at h <;> first | rfl | cases h
theorem vr1_self {D E:List Nat} (hE:∀ b∈D,b∈E) {v:Value} (h:inD D v):VR1 (idR E) v v:=by
 rcases h with h | ⟨b,o,rfl,hb⟩ | ⟨b,o,n,c,rfl,hb⟩
 ·exact .base (.flat (flat_of0 h))
 ·exact .base (.ptr ⟨⟨rfl,hE b hb⟩,rfl,rfl⟩)
 ·exact .base (.slice ⟨⟨rfl,hE b hb⟩,rfl,rfl⟩)
theorem vr_span {R:BR} {x:Int × Int} {v:Value} (h:VR R (spanV x) v):v=spanV x:=by
 unfold spanV at h ⊢
 cases h with
 | base h =>
  cases h with
  | base h =>
   cases h with
   | flat h=>cases h
 | agg hsz h =>
  rename_i c'
  have hi:∀ (u u':Value),Sr.flat u=true→VR1 R u u'→u'=u:=by
   intro u u' hu h
   cases h with
   | base h =>
    cases h with
    | flat _=>rfl
    | ptr _=>cases hu
    | slice _=>cases hu
    | chan _=>cases hu
   | func _ _ _ _ _=>cases hu
  simp only [List.size_toArray,List.length_cons,List.length_nil] at hsz
  congr 1
  apply Array.ext
  ·simpa using hsz
  ·intro j h1 h2
   simp only [List.size_toArray,List.length_cons,List.length_nil] at h2
   have hj:j=0∨j=1:=by omega
   rcases hj with rfl | rfl
   ·exact hi _ _ rfl (h 0 _ _ rfl (Array.getElem?_eq_getElem h1))
   ·exact hi _ _ rfl (h 1 _ _ rfl (Array.getElem?_eq_getElem h1))
theorem vr_chan {D:Nat→Prop} {R:BR} {G:Nat} {wl wa:World} (hw:WR G R D wl wa) {c:Nat} (hc:D c) {v:Value} (h:VR R (.chan (some c)) v):v=.chan (some c):=by
 cases h with
 | base h =>
  cases h with
  | base h =>
   cases h with
   | flat h=>cases h
   | chan h=>rw [hw.old _ _ h hc]
theorem enter_rel {f:FuncId} (hf:Fns.ok f=true) {D:List Nat} {args:Array Value} (ha:∀ v∈args,VR (idR D) v v):StkR Tryd.prog .deferred (idR D) (Frame.enter Tryd.prog f args .normal) [] (Frame.enter Tryd.prog f args .deferred) []:=by
 obtain ⟨fn,c,h1,h2,h3,h4,h5⟩:=sokC f hf
 have hE:Frame.enter Tryd.prog f args .normal=(base f).at { tmps:=args ++ Array.replicate (fn.ntmps - args.size) undef,defers:=[] } [.code c]:=enter_at args h1 h2
 have hE':Frame.enter Tryd.prog f args .deferred=(baseD f).at { tmps:=args ++ Array.replicate (fn.ntmps - args.size) undef,defers:=[] } [.code c]:=enter_atD args h1 h2
 rw [hE,hE']
 refine ⟨⟨rfl,⟨rfl,fun i v hv=>⟨v,hv,?_⟩⟩,rfl,fun x hx=>?_,rfl,rfl,rfl,.inl rfl,.inr rfl,.inl rfl,rfl,rfl,fun fn' hfn=>?_⟩,rfl⟩
 ·have hm:=Array.mem_of_getElem? hv
  rcases Array.mem_append.1 hm with h | h
  ·exact ha v h
  ·have:=(Array.mem_replicate.1 h).2
   subst this
   exact .of_flat rfl
 ·have:x=.code c:=by simpa [Frame.at] using hx
  subst this
  exact h3
 ·have:Tryd.prog.funcs[f]? = some fn':=hfn
  rw [h1] at this
  cases this
  exact h4
set_option maxHeartbeats 1000000 in
theorem worker_wt (p:Nat) (k:Wk) (ts:List Nat) (vv rv:Value) (hC:Cel V p k ts vv rv) (hok:k.Ok) (s:SS) (hs:s.WF) (hlo:∀ i,0≤(s.losAt i).1) (hhi:∀ i,(s.losAt i).2≤1000) (st:Bool) (i:Nat) (hi:i < k.n)
  (D:List Nat) (hD:Closed V D) (hp:p∈D) (bt bs bst bf c:Nat) {t1 t2 t3 t4:TypeId} (h1:V bt=some (.cells #[ptr (ts.getD i 0)] t1 (0,0))) (h2:V bs=some (.cells (stC s).toArray t2 (0,0)))
  (h3:V bst=some (.cells #[.bool st] t3 (0,0))) (h4:V bf=some (.cells #[.chan (some c)] t4 (0,0))) (hc:∃ o,w.heap[c]? = some o∧isCh o=true)
  (hg:Wg.gN≤bt∧Wg.gN≤bs∧Wg.gN≤bst∧Wg.gN≤bf∧Wg.gN≤c) (hV:V.In w) (hh:HeapOk OC w) :
  WT Tryd.prog c (inL (bt :: bs :: bst :: bf :: c :: D)) (AtSend Tryd.prog c (spanV (foundS k s st i)) (inL (bt :: bs :: bst :: bf :: c :: D))) (fun _=>False)
   (bornFr Tryd.prog [{ target:=.fn (.func 123) #[ptr bt,ptr bs,ptr bst,ptr bf],args:=#[] }]) [] w:=by
 obtain ⟨DD,hDD⟩:∃ DD,bt :: bs :: bst :: bf :: c :: D=DD:=⟨_,rfl⟩
 rw [hDD]
 have mt:bt∈DD:=by subst hDD;simp
 have ms:bs∈DD:=by subst hDD;simp
 have mst:bst∈DD:=by subst hDD;simp
 have mf:bf∈DD:=by subst hDD;simp
 have mc:c∈DD:=by subst hDD;simp
 have mD:∀ b∈D,b∈DD:=fun b hb=>by subst hDD;simp [hb]
 obtain ⟨hCk,htk⟩:=hC.keep hD hp
 have hCF:Cel (frzV V DD) p k ts vv rv:=cel_cells hCk fun b i v h=>keep_frz mD h
 have hInF:(frzV V DD).In (frzW DD w):=frzV_in hV
 have hN:∀ b∈DD,Tryd.prog.globals.size≤b:=by
  subst hDD
  intro b hb
  simp only [List.mem_cons] at hb
  rcases hb with rfl | rfl | rfl | rfl | rfl | hb
  ·exact hg.1
  ·exact hg.2.1
  ·exact hg.2.2.1
  ·exact hg.2.2.2.1
  ·exact hg.2.2.2.2
  ·exact hD.ge b hb
 have hlt:Tryd.prog.globals.size≤w.heap.size:=by
  have:=lt_of_heap (hV _ _ h1)
  exact Nat.le_of_lt (Nat.lt_of_le_of_lt hg.1 this)
 have hrel:WR Tryd.prog.globals.size (idR DD) (inL DD) (frzW DD w) w:=by
  refine frz_rel hN hlt fun b hb=>?_
  rw [← hDD] at hb
  simp only [List.mem_cons] at hb
  rcases hb with rfl | rfl | rfl | rfl | rfl | hb
  ·refine .inl ⟨_,_,hV _ _ h1,fun v hv=>?_⟩
   have:v=ptr (ts.getD i 0):=by simpa using hv
   subst this
   exact vr1_self mD (.inr (.inl ⟨_,_,rfl,htk i hi⟩))
  ·refine .inl ⟨_,_,hV _ _ h2,fun v hv=>?_⟩
   refine vr1_self mD (.inl ?_)
   have hv':v∈stC s:=by simpa using hv
   exact stC_flat s v hv'
  ·refine .inl ⟨_,_,hV _ _ h3,fun v hv=>?_⟩
   have:v=.bool st:=by simpa using hv
   subst this
   exact .base (.flat rfl)
  ·refine .inl ⟨_,_,hV _ _ h4,fun v hv=>?_⟩
   have:v=.chan (some c):=by simpa using hv
   subst this
   exact .base (.chan ⟨rfl,mc⟩)
  ·exact .inr hc
  ·obtain ⟨cs,t,hb1,hb2⟩:=hD.cells b hb
   exact .inl ⟨cs,t,hV _ _ hb1,fun v hv=>vr1_self mD (hb2 v hv)⟩
 obtain ⟨fn,cb,hf1,hf2,_,hf4,hf5⟩:=sokC 123 rfl
 have hres:Tryd.f123.results=#[]:=by kernel_rfl
 rw [Tryd.func123] at hf1
 cases hf1
 let args:Array Value:=#[ptr bt,ptr bs,ptr bst,ptr bf]
 let Stop:Frame→List Frame→World→Prop:=fun fr mine _=>mine=[]∧∃ a':Act,fr=(Frame.enter Tryd.prog 123 args .normal).at a' [.inRegion sendOps [2]]∧a'.defers=[]∧a'.tmps.toList[40]? = some (.chan (some c))∧a'.tmps.toList[41]? = some (spanV (foundS k s st i))
 refine .step fun w1 hr1=>⟨Frame.enter Tryd.prog 123 (#[] ++ args) .deferred,[bornFr Tryd.prog []],w1,#[],fun _=>False,fun main cs=>born_enter Tryd.func123 hf5 hf2 main cs w1,by simp,.refl _ w1,.refl _ w1,?_⟩
 have e0:(#[] ++ args:Array Value)=args:=by simp
 rw [e0]
 have hr1':RelyW c (orS (inL DD) (own (inL DD) (idR DD))) w w1:=by rw [own_idR];exact hr1
 have hw1:=wr_rely hrel hr1'
 have hwt:=wt_of_lone (P:=Tryd.prog) (K:=.deferred) (ch:=c) (D:=inL DD) (R:=idR DD) (f0:=123) (Stop:=Stop) sokC sokAll (fun fr mine w τ d _ h=>h) (fun fr mine w h=>by obtain ⟨_,a',rfl,_⟩:=h;exact .inl rfl)
  (fr:=Frame.enter Tryd.prog 123 args .normal) (fra:=Frame.enter Tryd.prog 123 args .deferred) (mine:=[]) (minea:=[]) (stk_enter sokAll trivial args)
  (enter_rel rfl fun v hv=>by
   have:v=ptr bt∨v=ptr bs∨v=ptr bst∨v=ptr bf:=by simpa [args] using hv
   rcases this with rfl | rfl | rfl | rfl
   ·exact .base (.base (.ptr ⟨⟨rfl,mt⟩,rfl,rfl⟩))
   ·exact .base (.base (.ptr ⟨⟨rfl,ms⟩,rfl,rfl⟩))
   ·exact .base (.base (.ptr ⟨⟨rfl,mst⟩,rfl,rfl⟩))
   ·exact .base (.base (.ptr ⟨⟨rfl,mf⟩,rfl,rfl⟩)))
  hw1 (frz_heapOk (w:=w) hh) (fun τ d=>by
   have hcell:∀ {b:Nat} {v:Value} {t:TypeId},b∈DD→V b=some (.cells #[v] t (0,0))→(frzV V DD).Cell b 0 v:=fun hb h=>frzV_cell hb ⟨_,_,_,h,rfl⟩
   have hrg:(frzV V DD).Range bs 0 (stC s):=fun j v hj=>frzV_cell ms ⟨_,_,_,h2,by rw [Nat.zero_add];simpa using hj⟩
   obtain ⟨a',w',⟨q1,q2,q3,_⟩,q4⟩:=found_reach (w:=(frzW DD w).re τ d) p k ts vv rv hCF hok s hs hlo hhi st i hi bt bs bst bf c (hcell mt h1) hrg (hcell mst h3) (hcell mf h4) hInF [floor Tryd.prog]
   exact ⟨_,[],w',⟨rfl,a',rfl,q1,q2,q3⟩,q4⟩)
 have hwt2:=hwt.below [bornFr Tryd.prog []]
 rw [own_idR] at hwt2
 refine hwt2.mono fun wr fr mine w2 ⟨m,hm,hst⟩=>?_
 subst hm
 obtain ⟨R',frl,minel,wl2,hwr,hle,⟨hml,a',hfrl,hdf,h40,h41⟩,_,hstk,hw2⟩:=hst
 subst hml
 cases m with
 | cons x m=>exact hstk.elim
 | nil =>
  have hF:FrR Tryd.prog R' frl fr:=hstk.1
  have hfn:fr.fn=123:=by rw [hF.fn,hfrl];rfl
  have htodo:fr.todo=[.inRegion sendOps [2]]:=by rw [hF.todo,hfrl];rfl
  have hmode:fr.mode=.run:=by rw [hF.mode,hfrl];rfl
  have htm:frl.tmps=a'.tmps:=by rw [hfrl];rfl
  have hfr:fr=fr.at ⟨fr.tmps,[]⟩ [.inRegion sendOps [2]]:=by
   have h1:=hF.defers'
   have h2:=hF.round'
   cases fr
   simp_all [Frame.at]
  obtain ⟨v40,h40',r40⟩:=hF.tmps.2 40 (.chan (some c)) (by rw [htm];simpa using h40)
  obtain ⟨v41,h41',r41⟩:=hF.tmps.2 41 (spanV (foundS k s st i)) (by rw [htm];simpa using h41)
  have e40:=vr_chan hw2 mc r40
  have e41:=vr_span r41
  subst e40
  subst e41
  rw [hfr]
  refine atSend_of (i:=2) (o:=sendOps[2]!) (x:=.tmp 40) (y:=.tmp 41) rfl rfl rfl ?_ ?_ hF.kind rfl (fn:=Tryd.f123) (by rw [hfn];exact Tryd.func123) hres
  ·show fr.tmps.getD 40 undef=_
   rw [Array.getD_eq_getD_getElem?,h40']
   rfl
  ·show fr.tmps.getD 41 undef=_
   rw [Array.getD_eq_getD_getElem?,h41']
   rfl
end Go.Proofs.YtjjmefieegcddaaDoor
namespace Go.Ph
open Go
open Go.Tm
open Go.Sr
open Go.Conc
section
variable {P:Program} {c:Nat} {D0 wr0:Nat→Prop} {vs:List Value} {w:World} {Q:PostC}
theorem ToC.unat {a:Goroutine} {d:Nat} (h:ToC P c D0 wr0 vs a (w.at d) Q):ToC P c D0 wr0 vs a w Q:=by
 have:=h.rely (w':=(w.at d).at w.drawn) (.at _ _ _)
 exact this
theorem toC_step {fr:Frame} {cs:List Frame} (h:∀ w1,RelyW c (orS D0 wr0) w w1→∃ fr' w2 es wr',(∀ main cs',stepG P main (G fr cs') w1=.go (G fr' cs') w2 es)∧(∀ e∈es,EvOk D0 wr' e)∧GuarW wr0 w1 w2∧GrowW wr0 wr' w1 w2∧ToC P c D0 wr' vs (G fr' cs) w2 Q) :
  ToC P c D0 wr0 vs (G fr cs) w Q:=by
 have hwt:WT P c D0 (fun wr fr mine w=>ToC P c D0 wr vs (G fr (mine ++ cs)) w Q) wr0 fr [] w:=by
  refine .step fun w1 hr=>?_
  obtain ⟨fr',w2,es,wr',h1,h2,h3,h4,h5⟩:=h w1 hr
  exact ⟨fr',[],w2,es,wr',fun main cs'=>h1 main cs',h2,h3,h4,.stop fun w3 h6=>h5.rely h6⟩
 exact toC_wt (mine:=[]) (fun wr fr mine w d h=>h.unat) hwt fun _ _ _ _ h=>h
theorem WT.widen {ch:Nat} {D D' wr wr0:Nat→Prop} {Stop:StopW} {fr:Frame} {mine:List Frame} (hD:∀ b,D b→D' b∨wr0 b) (h:WT P ch D Stop wr fr mine w) :
  WT P ch D' (fun wr' fr mine w=>∃ x,wr'=(fun b=>wr0 b∨x b)∧Stop x fr mine w) (fun b=>wr0 b∨wr b) fr mine w:=by
 obtain ⟨τ,h⟩:=h
 have hsub:∀ wr:Nat→Prop,∀ b,orS D wr b→orS D' (fun b=>wr0 b∨wr b) b:=fun wr b hb=>by
  rcases hb with hb | hb
  ·rcases hD b hb with h | h
   ·exact .inl h
   ·exact .inr (.inl h)
  ·exact .inr (.inr hb)
 induction τ generalizing wr fr mine w with
 | leaf=>exact .stop fun w' hr=>⟨wr,rfl,h w' (hr.sub (hsub wr))⟩
 | node f ih =>
  refine .mk fun w' hr=>?_
  rcases h w' (hr.sub (hsub wr)) with h | ⟨fr',mine',w2,es,wr',h1,h2,h3,h4,h5⟩
  ·exact .inl ⟨wr,rfl,h⟩
  ·refine .inr ⟨fr',mine',w2,es,fun b=>wr0 b∨wr' b,h1,fun e he=>?_,?_,?_,ih w' h5⟩
   ·have he:=h2 e he
    obtain ⟨loc,wrt,sy⟩:=e
    unfold EvOk at he ⊢
    cases loc with
    | cell a =>
     refine ⟨he.1,?_⟩
     rcases he.2 with h | ⟨h,hw⟩
     ·exact .inl (.inr h)
     ·rcases hD _ h with h | h
      ·exact .inr ⟨h,hw⟩
      ·exact .inl (.inl h)
    | obj r =>
     refine ⟨he.1,?_⟩
     rcases he.2 with h | h
     ·exact .inl (.inr h)
     ·rcases hD _ h with h | h
      ·exact .inr h
      ·exact .inl (.inl h)
    | mark m=>exact he
    | _=>exact he.elim
   ·exact ⟨h3.size,fun b hb hn=>h3.keep b hb fun h=>hn (.inr h),h3.os,h3.output,h3.tape,h3.okh⟩
   ·refine ⟨fun b hb=>hb.imp id (h4.le b),fun b hb=>?_⟩
    rcases hb with hb | hb
    ·exact .inl (.inl hb)
    ·rcases h4.fresh b hb with h | h
     ·exact .inl (.inr h)
     ·exact .inr h
structure KeptW (ch:Nat) (D wr:Nat→Prop) (w w':World):Prop where
 size:w.heap.size≤w'.heap.size
 keep:∀ b,b < w.heap.size→D b→¬ wr b→SameO ch w w' b
 os:w'.os=w.os
 output:w'.output=w.output
 tape:w'.tape=w.tape
theorem WT.kept {ch:Nat} {D wr:Nat→Prop} {Stop:StopW} {fr:Frame} {mine:List Frame} (h:WT P ch D Stop wr fr mine w) :
  WT P ch D (fun wr' fr mine w'=>Stop wr' fr mine w'∧KeptW ch D wr w w'∧∀ b,wr' b→wr b∨w.heap.size≤b) wr fr mine w:=by
 have key:∀ (w0:World) (wr0:Nat→Prop) (τ:Tr) (wr:Nat→Prop) (fr:Frame) (mine:List Frame) (w:World),WTr P ch D Stop τ wr fr mine w→KeptW ch D wr0 w0 w→(∀ b,wr b→wr0 b∨w0.heap.size≤b) →
   WT P ch D (fun wr' fr mine w'=>Stop wr' fr mine w'∧KeptW ch D wr0 w0 w'∧∀ b,wr' b→wr0 b∨w0.heap.size≤b) wr fr mine w:=by
  intro w0 wr0 τ
  have rl:∀ {wr:Nat→Prop} {w w':World},KeptW ch D wr0 w0 w→RelyW ch (orS D wr) w w'→KeptW ch D wr0 w0 w':=fun hk hr =>
   ⟨Nat.le_trans hk.size hr.size,fun b hb hD hw=>(hk.keep b hb hD hw).trans (hr.keep b (.inl hD)),hr.os.trans hk.os,hr.output.trans hk.output,hr.tape.trans hk.tape⟩
  induction τ with
  | leaf=>exact fun wr fr mine w h hk hf=>.stop fun w' hr=>⟨h w' hr,rl hk hr,hf⟩
  | node f ih =>
   intro wr fr mine w h hk hf
   refine .mk fun w' hr=>?_
   have hk':=rl hk hr
   rcases h w' hr with h | ⟨fr',mine',w2,es,wr',h1,h2,h3,h4,h5⟩
   ·exact .inl ⟨h,hk',hf⟩
   ·refine .inr ⟨fr',mine',w2,es,wr',h1,h2,h3,h4,ih w' wr' fr' mine' w2 h5 ⟨Nat.le_trans hk'.size h3.size,fun b hb hD hw=>(hk'.keep b hb hD hw).trans (.inl (h3.keep b (Nat.lt_of_lt_of_le hb hk'.size) fun h=>?_)),h3.os.trans hk'.os,h3.output.trans hk'.output,h3.tape.trans hk'.tape⟩ fun b hb=>?_⟩
    ·rcases hf b h with h | h
     ·exact hw h
     ·omega
    ·rcases h4.fresh b hb with h | h
     ·exact hf b h
     ·exact .inr (Nat.le_trans hk'.size h.1)
 obtain ⟨τ,h⟩:=h
 exact key w wr τ wr fr mine w h ⟨Nat.le_refl _,fun b _ _ _=>.refl w b,rfl,rfl,rfl⟩ fun b hb=>.inl hb
theorem toC_ok {a:Goroutine} (h:∀ w1,RelyW c (orS D0 wr0) w w1→HeapOk OC w1→(∃ k,w1.heap[c]? = some (.chan 0 #[] false k k false))→ToC P c D0 wr0 vs a w1 Q):ToC P c D0 wr0 vs a w Q:=by
 intro s gs sl t w1 hr hp
 exact h w1 hr hp.heap hp.chan s gs sl t w1 (.refl _ w1) hp
theorem frz_rel2 [Fns] {N:Nat} {DD WW:List Nat} (hN:∀ b∈DD ++ WW,N≤b) (hlt:N≤w.heap.size) (hdis:∀ b∈WW,b ∉ DD)
  (hobj:∀ b∈DD,(∃ c t,w.heap[b]? = some (.cells c t (0,0))∧∀ v∈c,VR1 (idR (DD ++ WW)) v v)∨∃ o,w.heap[b]? = some o∧isCh o=true)
  (hobjW:∀ b∈WW,∃ c t,w.heap[b]? = some (.cells c t (0,0))∧∀ v∈c,VR1 (idR (DD ++ WW)) v v):WR N (idR (DD ++ WW)) (inL DD) (frzW DD w) w:=by
 refine ⟨?_,?_,?_,?_,?_,rfl,rfl,?_,by rw [frzW_size];exact hlt,hlt⟩
 ·rintro x b ⟨h,hb⟩
  subst h
  by_cases hd:b∈DD
  ·rcases hobj _ hd with ⟨c,t,h1,h2⟩ | ⟨o,h1,h2⟩
   ·refine ⟨.cells c t (0,c.size),.cells c t (0,0),?_,h1,.inl ⟨c,c,t,(0,c.size),(0,0),rfl,rfl,⟨rfl,fun i v hv=>⟨v,hv,h2 v (Array.mem_of_getElem? hv)⟩⟩,fun _=>rfl,fun h=>(h hd).elim⟩⟩
    rw [frzW_get,h1]
    simp [hd,frzO]
   ·refine ⟨o,o,?_,h1,.inr (.inr ⟨hd,h2,h2⟩)⟩
    rw [frzW_get,h1]
    cases o <;> first | (cases h2;done) | (simp only [Option.map_some];split <;> rfl)
  ·have hw:b∈WW:=(List.mem_append.1 hb).resolve_left hd
   obtain ⟨c,t,h1,h2⟩:=hobjW _ hw
   refine ⟨.cells c t (0,0),.cells c t (0,0),?_,h1,.inl ⟨c,c,t,(0,0),(0,0),rfl,rfl,⟨rfl,fun i v hv=>⟨v,hv,h2 v (Array.mem_of_getElem? hv)⟩⟩,fun h=>(hd h).elim,fun _=>⟨rfl,rfl⟩⟩⟩
   rw [frzW_get,h1]
   simp [hd]
 ·rintro b b1 b2 ⟨rfl,_⟩ ⟨rfl,_⟩
  rfl
 ·rintro b1 b2 b ⟨h1,_⟩ ⟨h2,_⟩
  exact h1.symm.trans h2
 ·rintro b b' ⟨rfl,_⟩ _
  rfl
 ·rintro b b' ⟨rfl,h⟩
  exact ⟨hN _ h,hN _ h⟩
 ·intro b hb
  rw [frzW_size]
  rcases hobj b hb with ⟨c,t,h1,_⟩ | ⟨o,h1,_⟩ <;> exact (Array.getElem?_eq_some_iff.1 h1).1
theorem own_idR2 {DD WW:List Nat} (hdis:∀ b∈WW,b ∉ DD):own (inL DD) (idR (DD ++ WW))=inL WW:=by
 funext b
 refine propext ⟨fun ⟨x,⟨h1,h2⟩,h3⟩=>?_,fun h=>⟨b,⟨rfl,List.mem_append_right _ h⟩,hdis b h⟩⟩
 subst h1
 exact (List.mem_append.1 h2).resolve_left h3
structure Seg [Fns] (P:Program) (D0 wr0:Nat→Prop) (DD WW:List Nat) (w:World):Prop where
 rd:∀ b∈DD,D0 b∨wr0 b
 wr:∀ b∈WW,wr0 b
 dis:∀ b∈WW,b ∉ DD
 ge:∀ b∈DD ++ WW,P.globals.size≤b
 lt:P.globals.size≤w.heap.size
 obj:∀ b∈DD,(∃ c t,w.heap[b]? = some (.cells c t (0,0))∧∀ v∈c,VR1 (idR (DD ++ WW)) v v)∨∃ o,w.heap[b]? = some o∧isCh o=true
 objW:∀ b∈WW,∃ c t,w.heap[b]? = some (.cells c t (0,0))∧∀ v∈c,VR1 (idR (DD ++ WW)) v v
theorem toC_lone [Fns] (hC:SokC P) (hS:Sok P fun _=>True) {DD WW:List Nat} (hg:Seg P D0 wr0 DD WW w) (hh:HeapOk OC w)
  {f0:FuncId} {b:Frame} {a:Act} {todo:List Item} {cs:List Frame} (hst:Stk f0 (b.at a todo) []) (hsr:FrR P (idR (DD ++ WW)) (b.at a todo) (b.at a todo))
  {S:Act→List Item→World→Prop} (hS':∀ a t w τ d,S a t w→S a t (w.re τ d))
  (hrun:∀ τ d,∃ a' todo' w',S a' todo' w'∧Steps P (lone (b.at a todo) [floor P] ((frzW DD w).re τ d)) (lone (b.at a' todo') [floor P] w'))
  (hk:∀ R' a' a2 todo' wl w2,S a' todo' wl→le (idR (DD ++ WW)) R'→AF (VR R') a'.tmps a2.tmps→a2.defers=[]→WR P.globals.size R' (inL DD) wl w2→KeptW c D0 wr0 w w2→(∀ b,own (inL DD) R' b→wr0 b∨w.heap.size≤b)→HeapOk OC wl →
   ToC P c D0 (fun b=>wr0 b∨own (inL DD) R' b) vs (G (b.at a2 todo') cs) w2 Q) :
  ToC P c D0 wr0 vs (G (b.at a todo) cs) w Q:=by
 have hrel:=frz_rel2 (w:=w) hg.ge hg.lt hg.dis hg.obj hg.objW
 let Stop:Frame→List Frame→World→Prop:=fun fr mine w=>mine=[]∧∃ a' todo',fr=b.at a' todo'∧S a' todo' w
 have hwt:=wt_of_lone (P:=P) (K:=.normal) (ch:=c) (D:=inL DD) (R:=idR (DD ++ WW)) (f0:=f0) (Stop:=Stop) hC hS (fun fr mine w τ d _ h=>by obtain ⟨h1,a',t',h2,h3⟩:=h;exact ⟨h1,a',t',h2,hS' _ _ _ _ _ h3⟩)
  (fun fr mine w h=>by obtain ⟨_,a',t',rfl,_⟩:=h;exact .inl rfl) (mine:=[]) (minea:=[]) hst ⟨hsr,hst.2.2.1⟩ hrel (frz_heapOk hh) (fun τ d=>by
   obtain ⟨a',t',w',h1,h2⟩:=hrun τ d
   exact ⟨_,[],w',⟨rfl,a',t',rfl,h1⟩,h2⟩)
 rw [own_idR2 hg.dis] at hwt
 have hwd:=hwt.widen (D':=D0) (wr0:=wr0) hg.rd
 have e0:(fun b=>wr0 b∨inL WW b)=wr0:=by
  funext b
  exact propext ⟨fun h=>h.elim id (hg.wr b),.inl⟩
 rw [e0] at hwd
 have hwd2:WT P c D0 (fun wr fr mine w=>ToC P c D0 wr vs (G fr (mine ++ cs)) w Q) wr0 (b.at a todo) [] w:=by
  refine hwd.kept.mono fun wr fr mine w2 ⟨⟨x,hx,R',frl,minel,wl,hxo,hle,⟨hm,a',t',hfrl,hs⟩,hhl,hstk,hw2⟩,hkept,hfrs⟩=>?_
  subst hm
  cases mine with
  | cons y m=>exact hstk.elim
  | nil =>
   have hF:FrR P R' frl fr:=hstk.1
   have hfr:fr=b.at ⟨fr.tmps,[]⟩ t':=by
    have h1:=hF.defers'
    have h2:=hF.round'
    have h3:=hF.fn
    have h4:=hF.todo
    have h5:=hF.mode
    have h6:fr.kind=b.kind:=hstk.2.trans hst.2.2.1.symm
    subst hfrl
    cases fr
    simp_all [Frame.at]
   rw [hfr,hx,hxo]
   have hT:=hF.tmps
   rw [hfrl] at hT
   exact hk R' a' ⟨fr.tmps,[]⟩ t' wl w2 hs hle hT rfl hw2 hkept (fun b hb=>hfrs b (by rw [hx,hxo];exact .inr hb)) hhl
 exact toC_wt (mine:=[]) (fun wr fr mine w d h=>h.unat) hwd2 fun _ _ _ _ h=>h
end
def allGo (m:Region.Mode) (ops:Array Oper):Nat→Array Bool→List Nat→List (List Nat)
 | 0,_,acc=>[acc.reverse]
 | fuel+1,listed,acc =>
  let rs:=(List.range ops.size).filter fun i=>!listed.getD i true && ((ops[i]?).map (·.after.all fun e=>!Region.binds m e || listed.getD e.on false)).getD false
  if rs.isEmpty then [acc.reverse] else rs.flatMap fun i=>allGo m ops fuel (listed.setIfInBounds i true) (i :: acc)
theorem go_mem (m:Region.Mode) (ops:Array Oper):∀ (fuel t:Nat) (listed:Array Bool) (acc:List Nat),Region.linearise.go m ops fuel t listed acc∈allGo m ops fuel listed acc
 | 0,_,_,_=>by simp [Region.linearise.go,allGo]
 | fuel+1,t,listed,acc=>by
  unfold Region.linearise.go allGo
  generalize ((List.range ops.size).filter fun i=>!listed.getD i true && ((ops[i]?).map (·.after.all fun e=>!Region.binds m e || listed.getD e.on false)).getD false)=rs
  dsimp only
  cases h:rs[t % rs.length]? with
  | none =>
   have:rs.isEmpty=true:=by
    rw [List.isEmpty_iff]
    rcases Nat.eq_zero_or_pos rs.length with h0 | h0
    ·exact List.length_eq_zero_iff.1 h0
    ·rw [List.getElem?_eq_getElem (Nat.mod_lt t h0)] at h
     cases h
   simp [this]
  | some i =>
   have hm:=List.mem_of_getElem? h
   have:rs.isEmpty=false:=by
    cases rs with
    | nil=>cases hm
    | cons=>rfl
   simp only [this,Bool.false_eq_true,if_false,List.mem_flatMap]
   exact ⟨i,hm,go_mem m ops fuel _ _ _⟩
def orders (ops:Array Oper):List (List Nat):=allGo .any ops ops.size (Array.replicate ops.size false) []
theorem schedule_mem (ops:Array Oper) (t:Nat):Region.schedule true ops t∈orders ops:=by
 have:Region.schedule true ops t=Region.linearise.go .any ops ops.size t (Array.replicate ops.size false) []:=by simp [Region.schedule,Region.linearise]
 rw [this]
 exact go_mem _ _ _ _ _ _
end Go.Ph
namespace Go.Tm
open Go
open Go.Conc
section
variable {P:Program}
theorem callsB_of_calls (hS:Sok P fun _=>True) {f:FuncId} {args:Array Value} {R:Ending→World→Prop} (hins:Ins R) (hout:∀ w,¬ R .outgrown w) {w:World} (hw:HeapOk OC w)
  (h:∀ τ d,Calls P f args (w.re τ d) R):CallsB P f args w R:=by
 intro cs
 let Stop:Frame→List Frame→World→Prop:=fun fr mine w=>mine=[]∧∃ e,R e w∧e≠.outgrown∧fr.fn=f∧fr.leaving P w e
 have hterm:Term P (SH f Stop) (Frame.enter P f args .normal) [] w:=by
  refine term_of_plain hS ?_ (stk_enter hS trivial args) hw ?_
  ·rintro fr mine w τ d hw ⟨rfl,e,h1,h2,h3,h4⟩
   exact ⟨rfl,e,hins _ _ _ _ h1,h2,h3,leaving_re hw h4 τ d⟩
  ·intro τ d
   obtain ⟨e,w',fr',h1,h2,h3,h4⟩:=h τ d [floor P]
   cases e with
   | outgrown=>exact (hout _ h1).elim
   | returned v=>exact ⟨fr',[],w',⟨rfl,_,h1,by simp,h3,h4⟩,h2⟩
   | panicked chain=>exact ⟨fr',[],w',⟨rfl,_,h1,by simp,h3,h4⟩,h2⟩
 have:=toB_of_term (fun fr mine w d h=>by
  obtain ⟨⟨rfl,e,h1,h2,h3,h4⟩,h5,h6⟩:=h
  exact ⟨⟨rfl,e,hins _ _ w.tape d h1,h2,h3,leaving_re h5 h4 w.tape d⟩,h5,h6⟩) hterm cs
 refine this.mono fun a' w' ⟨fr',mine',h1,⟨h2,e,h3,h4,h5,h6⟩,h7,h8⟩=>?_
 subst h2
 exact ⟨e,fr',h1,h3,h5,h6,h4,h7⟩
section
variable {b:Frame} {a:Act} {k:List Item} {cs:List Frame} {w:World} {Q:Goroutine→World→Prop}
end
end
end Go.Tm
