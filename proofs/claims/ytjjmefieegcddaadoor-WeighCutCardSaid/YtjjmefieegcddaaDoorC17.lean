/- A part of the proof: T15, T16, T17. -/
import Derived.Test.YtjjmefieegcddaaDoorC16
import Derived.Conc.TokenTrace
import Derived.Conc.CrowdComm
set_option linter.unusedVariables false
set_option linter.unusedSimpArgs false
set_option maxHeartbeats 8000000
namespace Go.Ph
open Go
open Go.Tm
open Go.Sr
open Go.Conc
open Go.ConcN (upd upd_same upd_ne)
def blk:Go.Loc→Option Nat
 | .cell a=>some a.block
 | .obj r=>some r
 | _=>none
def Far (D wr:Nat→Prop) (n:Nat) (a:Touch):Prop:=∃ b,blk a.loc=some b∧b < n∧¬ wr b∧(D b→a.write=false)
structure Gj (A:Nat→Prop) (D wr:Nat→Nat→Prop) (n:Nat) (t:Trace):Prop where
 clean:∀ said,¬ Race said t
 unk:∀ g,(g=0∨A g)→∀ i a,touchAt t i=some a→a.loc.isMemory=true→Knows t g i∨Far (D g) (wr g) n a
 main:∀ i a,touchAt t i=some a→a.loc.isMemory=true→Knows t 0 i∨∃ g,A g∧t.g? i=some g
 hears:∀ g,(g=0∨A g)→Deaf t g=0
 seen:∃ B,∀ op∈t,op.act.low B
 sep:∀ g h b,(g=0∨A g)→(h=0∨A h)→g≠h→wr g b→¬ D h b∧¬ wr h b
 low:∀ g b,(g=0∨A g)→D g b∨wr g b→b < n
theorem Oc {D wr:Nat→Prop} {e:Event} (h:Ae D wr e) {x:Touch} (hx:(MemAct.ofEvent e).touch? = some x):∃ b,blk x.loc=some b∧(wr b∨(D b∧x.write=false)):=by
 obtain ⟨loc,w,sy⟩:=e
 cases loc with
 | cell a =>
  obtain ⟨hs,h⟩:=h
  dsimp only at hs h
  subst hs
  simp only [MemAct.ofEvent,MemAct.touch?,Option.some.injEq] at hx
  subst hx
  exact ⟨a.block,rfl,h⟩
 | obj r =>
  obtain ⟨hw,h⟩:=h
  dsimp only at hw h
  subst hw
  simp only [MemAct.ofEvent,MemAct.touch?,Option.some.injEq] at hx
  subst hx
  refine ⟨r,rfl,?_⟩
  rcases h with h | h
  ·exact .inl h
  ·exact .inr ⟨h,rfl⟩
 | mark m =>
  have hm:m=.noRoom:=h
  subst hm
  simp [MemAct.ofEvent,MemAct.touch?] at hx
 | _=>exact h.elim
theorem Xm {D wr:Nat→Prop} {e:Event} (h:Ae D wr e):ND e:=by
 obtain ⟨loc,w,sy⟩:=e
 cases loc with
 | mark m =>
  have hm:m=.noRoom:=h
  subst hm
  exact ⟨by simp,by simp⟩
 | _=>exact ⟨by simp,by simp⟩
section
variable {A:Nat→Prop} {D wr:Nat→Nat→Prop} {n n':Nat} {t:Trace}
theorem Gj.own (h:Gj A D wr n t) {g:Nat} (hg:g=0∨A g) {wr':Nat→Prop} {es:Array Event} (hev:∀ e∈es,Ae (D g) wr' e) (hle:∀ b,wr g b→wr' b) (hfr:∀ b,wr' b→wr g b∨(n≤b∧b < n')) (hn:n≤n') (fn:FuncId) (pos:String) :
  Gj A D (upd wr g wr') n' (t ++ MemOp.ofEvents g fn pos es):=by
 have hu:∀ op∈MemOp.ofEvents g fn pos es,op.g=g:=fun op hop=>by obtain ⟨e,_,rfl⟩:=Go.Conc.mem_ofEvents hop;rfl
 have htch:∀ op∈MemOp.ofEvents g fn pos es,∀ x,op.act.touch? = some x→∃ b,blk x.loc=some b∧(wr' b∨(D g b∧x.write=false)):=fun op hop x hx=>by
  obtain ⟨e,he,rfl⟩:=Go.Conc.mem_ofEvents hop
  exact Oc (hev e he) hx
 have hold:∀ h' a,(h'=0∨A h')→Far (D h') (wr h') n a→Far (D h') (upd wr g wr' h') n' a:=by
  rintro h' a hh ⟨b,h1,h2,h3,h4⟩
  refine ⟨b,h1,by omega,?_,h4⟩
  by_cases e:h'=g
  ·subst e
   rw [upd_same]
   intro hb
   rcases hfr b hb with h5 | h5
   ·exact h3 h5
   ·omega
  ·rw [upd_ne _ _ e];exact h3
 refine ⟨fun said=>noRace_append (h.clean said) hu fun i a ha op hop b hb hc=>?_,fun h' hh i a ha hm=>?_,fun i a ha hm=>?_,fun h' hh=>?_,?_,fun x y b hx hy hxy hw=>?_,fun x b hx hb=>?_⟩
 ·obtain ⟨hloc,hmem,hww,_⟩:=hc
  rcases h.unk g hg i a ha hmem with hk | ⟨bb,h1,h2,h3,h4⟩
  ·exact hk
  ·exfalso
   obtain ⟨b2,h5,h6⟩:=htch op hop b hb
   rw [← hloc,h1] at h5
   cases h5
   rcases h6 with h6 | ⟨h6,h7⟩
   ·rcases hfr _ h6 with h8 | h8
    ·exact h3 h8
    ·omega
   ·rcases hww with h8 | h8
    ·rw [h4 h6] at h8;cases h8
    ·rw [h7] at h8;cases h8
 ·obtain ⟨x,hx,hxa⟩:=touch_of ha
  rcases getElem?_append_cases hx with ⟨_,hx'⟩ | ⟨_,hxu⟩
  ·rcases h.unk h' hh i a (by rw [touchAt_of hx'];exact hxa) hm with hk | hf
   ·exact .inl (hk.app _)
   ·exact .inr (hold h' a hh hf)
  ·by_cases e:h'=g
   ·subst e
    have:=knows_own hx
    rw [hu x hxu] at this
    exact .inl this
   ·obtain ⟨b,h1,h2⟩:=htch x hxu a hxa
    have hbn:∀ b,D h' b∨wr h' b→b < n:=fun b hb=>h.low h' b hh hb
    refine .inr ⟨b,h1,?_,?_,fun hD=>?_⟩
    ·rcases h2 with h2 | ⟨h2,_⟩
     ·rcases hfr b h2 with h3 | h3
      ·have:=h.low g b hg (.inr h3);omega
      ·exact h3.2
     ·have:=h.low g b hg (.inl h2);omega
    ·rw [upd_ne _ _ e]
     intro hw
     have hs:=h.sep h' g b hh hg e hw
     rcases h2 with h2 | ⟨h2,_⟩
     ·rcases hfr b h2 with h3 | h3
      ·exact hs.2 h3
      ·have:=hbn b (.inr hw);omega
     ·exact hs.1 h2
    ·rcases h2 with h2 | ⟨_,h2⟩
     ·rcases hfr b h2 with h3 | h3
      ·exact ((h.sep g h' b hg hh (fun e'=>e e'.symm) h3).1 hD).elim
      ·have:=hbn b (.inl hD);omega
     ·exact h2
 ·obtain ⟨x,hx,hxa⟩:=touch_of ha
  rcases getElem?_append_cases hx with ⟨hi,hx'⟩ | ⟨_,hxu⟩
  ·rcases h.main i a (by rw [touchAt_of hx'];exact hxa) hm with hk | ⟨g',h1,h2⟩
   ·exact .inl (hk.app _)
   ·exact .inr ⟨g',h1,by rw [g?_old hi];exact h2⟩
  ·rcases hg with rfl | hg
   ·have:=knows_own hx
    rw [hu x hxu] at this
    exact .inl this
   ·exact .inr ⟨g,hg,by rw [g?_of hx,hu x hxu]⟩
 ·by_cases e:g=h'
  ·subst e
   rw [Deaf_own]
   exact (deafBehind_still (fun e he=>Xm (hev e he)) _).trans (h.hears _ hh)
  ·exact (Deaf_other t e _ hu).trans (h.hears _ hh)
 ·obtain ⟨B,hB⟩:=h.seen
  obtain ⟨B',hB'⟩:=Io es
  refine ⟨B+B',seen_app (fun op hop=>MemAct.low_mono (by omega) (hB op hop)) fun op hop=>?_⟩
  obtain ⟨e,he,rfl⟩:=Go.Conc.mem_ofEvents hop
  exact MemAct.low_mono (by omega) (hB' e he)
 ·by_cases e:x=g
  ·subst e
   rw [upd_same] at hw
   rw [upd_ne _ _ (Ne.symm hxy)]
   rcases hfr b hw with h3 | h3
   ·exact h.sep x y b hx hy hxy h3
   ·exact ⟨fun hb=>by have:=h.low y b hy (.inl hb);omega,fun hb=>by have:=h.low y b hy (.inr hb);omega⟩
  ·rw [upd_ne _ _ e] at hw
   have hs:=h.sep x y b hx hy hxy hw
   refine ⟨hs.1,?_⟩
   by_cases e':y=g
   ·subst e'
    rw [upd_same]
    intro hb
    rcases hfr b hb with h3 | h3
    ·exact hs.2 h3
    ·have:=h.low x b hx (.inr hw);omega
   ·rw [upd_ne _ _ e'];exact hs.2
 ·by_cases e:x=g
  ·subst e
   rw [upd_same] at hb
   rcases hb with hb | hb
   ·have:=h.low x b hx (.inl hb);omega
   ·rcases hfr b hb with h3 | h3
    ·have:=h.low x b hx (.inr h3);omega
    ·exact h3.2
  ·rw [upd_ne _ _ e] at hb
   have:=h.low x b hx hb
   omega
theorem Gj.mute (h:Gj A D wr n t) {u:Trace} {g:Nat} (hg:g≠0∧¬ A g) (hu:∀ op∈u,op.g=g) (hn:∀ op∈u,op.act.touch? = none) (hl:∃ B,∀ op∈u,op.act.low B):Gj A D wr n (t ++ u):=by
 refine ⟨fun said=>noRace_appendMute (h.clean said) hn,fun h' hh i a ha hm=>?_,fun i a ha hm=>?_,fun h' hh=>?_,?_,h.sep,h.low⟩
 ·obtain ⟨x,hx,hxa⟩:=touch_of ha
  rcases getElem?_append_cases hx with ⟨_,hx'⟩ | ⟨_,hxu⟩
  ·exact (h.unk h' hh i a (by rw [touchAt_of hx'];exact hxa) hm).imp (·.app _) id
  ·rw [hn x hxu] at hxa;cases hxa
 ·obtain ⟨x,hx,hxa⟩:=touch_of ha
  rcases getElem?_append_cases hx with ⟨hi,hx'⟩ | ⟨_,hxu⟩
  ·exact (h.main i a (by rw [touchAt_of hx'];exact hxa) hm).imp (·.app _) fun ⟨g',h1,h2⟩=>⟨g',h1,by rw [g?_old hi];exact h2⟩
  ·rw [hn x hxu] at hxa;cases hxa
 ·refine (Deaf_other t (fun e=>?_) u hu).trans (h.hears _ hh)
  subst e
  rcases hh with hh | hh
  ·exact hg.1 hh
  ·exact hg.2 hh
 ·obtain ⟨B,hB⟩:=h.seen
  obtain ⟨B',hB'⟩:=hl
  exact ⟨B+B',seen_app (fun op hop=>MemAct.low_mono (by omega) (hB op hop)) fun op hop=>MemAct.low_mono (by omega) (hB' op hop)⟩
theorem Gj.P6 (h:Gj A D wr n t) {g:Nat} (hg:g≠0∧¬ A g) {es:Array Event} (hm:∀ e∈es,e.mute=true) (fn:FuncId) (pos:String):Gj A D wr n (t ++ MemOp.ofEvents g fn pos es) :=
 h.mute hg (fun op hop=>by obtain ⟨e,_,rfl⟩:=Go.Conc.mem_ofEvents hop;rfl) (fun op hop=>by obtain ⟨e,he,rfl⟩:=Go.Conc.mem_ofEvents hop;exact touch_mute (hm e he)) ⟨0,fun op hop=>by obtain ⟨e,he,rfl⟩:=Go.Conc.mem_ofEvents hop;exact low_mute (hm e he) 0⟩
theorem Gj.ofPast (h:Past' t) (D wr:Nat→Nat→Prop) (hl:∀ b,D 0 b∨wr 0 b→b < n):Gj (fun _=>False) D wr n t:=by
 obtain ⟨B,h⟩:=h
 refine ⟨h.clean,fun g hg i a ha hm=>?_,fun i a ha hm=>?_,fun g hg=>?_,⟨B,h.seen⟩,fun g k b hg hk hgk _=>?_,fun g b hg hb=>?_⟩
 ·rcases hg with rfl | hg
  ·exact (h.known i a ha hm).imp id fun x=>x.1.elim
  ·exact hg.elim
 ·exact (h.known i a ha hm).imp id fun x=>x.1.elim
 ·rcases hg with rfl | hg
  ·exact h.hears
  ·exact hg.elim
 ·rcases hg with rfl | hg
  ·rcases hk with rfl | hk
   ·exact (hgk rfl).elim
   ·exact hk.elim
  ·exact hg.elim
 ·rcases hg with rfl | hg
  ·exact hl b hb
  ·exact hg.elim
theorem Gj.toPast (h:Gj A D wr n t) (hA:∀ g,¬ A g):Past' t:=by
 obtain ⟨B,hB⟩:=h.seen
 have hk:∀ i a,touchAt t i=some a→a.loc.isMemory=true→Knows t 0 i:=fun i a ha hm=>(h.main i a ha hm).elim id fun ⟨g,hg,_⟩=>(hA g hg).elim
 refine ⟨B,h.clean,fun i a ha hm=>.inl (hk i a ha hm),fun i g hg hne ⟨x,hx,hm,_⟩=>?_,h.hears 0 (.inl rfl),hB⟩
 obtain ⟨q,z,hq,hz,hb⟩:=hk i x hx hm
 rcases hb with rfl | hb
 ·rw [g?_of hq,hz] at hg
  exact absurd (Option.some.inj hg).symm hne
 ·exact ⟨q,by rw [g?_of hq,hz],hb⟩
theorem Gj.hire (h:Gj A D wr n t) {c:Nat} (hc:c≠0∧¬ A c) (hd:Deaf t c=0) (Dc:Nat→Prop) (D0 wr0:Nat→Prop) (hDc:∀ b,Dc b→D 0 b∨wr 0 b) (h0:∀ b,D0 b∨wr0 b→D 0 b∨wr 0 b) (hw0:∀ b,wr0 b→wr 0 b∧¬ Dc b)
  (fh:FuncId) (ph:String) (fc:FuncId) :
  Gj (fun g=>A g∨g=c) (upd (upd D c Dc) 0 D0) (upd (upd wr c fun _=>False) 0 wr0) n (t ++ #[{ g:=0,fn:=fh,pos:=ph,act:=.go c },{ g:=c,fn:=fc,pos:=ph,act:=.start }]):=by
 obtain ⟨hc0,hcA⟩:=hc
 generalize hu:(#[{ g:=0,fn:=fh,pos:=ph,act:=.go c },{ g:=c,fn:=fc,pos:=ph,act:=.start }]:Trace)=u
 have hn:∀ op∈u,op.act.touch? = none:=by
  intro op hop
  subst hu
  simp only [List.mem_toArray,List.mem_cons,List.not_mem_nil,or_false] at hop
  rcases hop with rfl | rfl <;> rfl
 have hq:∀ g,∀ op∈u,∀ d,deafStep g d op=d:=by
  intro g op hop d
  subst hu
  simp only [List.mem_toArray,List.mem_cons,List.not_mem_nil,or_false] at hop
  rcases hop with rfl | rfl <;> rfl
 have e0:(t ++ u)[t.size]? = some { g:=0,fn:=fh,pos:=ph,act:=.go c }:=by subst hu;simp
 have e1:(t ++ u)[t.size+1]? = some { g:=c,fn:=fc,pos:=ph,act:=.start }:=by subst hu;simp
 have edge:HappensBefore (t ++ u) t.size (t.size+1) :=
  Relation.TransGen.single (.inr ⟨.spawn (act?_of e0) (act?_of e1) (g?_of e1),⟨0,g?_of e0,by rw [deaf_old (Nat.le_refl _)];exact h.hears 0 (.inl rfl)⟩,⟨c,g?_of e1,by rw [deaf_quiet (hq c) 1 (by subst hu;simp)];exact hd⟩⟩)
 have hkc:∀ i,Knows t 0 i→Knows (t ++ u) c i:=fun i hk=>⟨t.size+1,_,e1,rfl,.inr ((hk.hb_new (Nat.le_refl _) e0 rfl).trans edge)⟩
 have eD0:∀ g,g≠0→g≠c→upd (upd D c Dc) 0 D0 g=D g:=fun g h1 h2=>by rw [upd_ne _ _ h1,upd_ne _ _ h2]
 have ew0:∀ g,g≠0→g≠c→upd (upd wr c fun _=>False) 0 wr0 g=wr g:=fun g h1 h2=>by rw [upd_ne _ _ h1,upd_ne _ _ h2]
 have eDc:upd (upd D c Dc) 0 D0 c=Dc:=by rw [upd_ne _ _ hc0,upd_same]
 have ewc:upd (upd wr c fun _=>False) 0 wr0 c=fun _=>False:=by rw [upd_ne _ _ hc0,upd_same]
 have eD00:upd (upd D c Dc) 0 D0 0=D0:=upd_same _ _ _
 have ew00:upd (upd wr c fun _=>False) 0 wr0 0=wr0:=upd_same _ _ _
 refine ⟨fun said=>noRace_appendMute (h.clean said) hn,fun g hg i a ha hm=>?_,fun i a ha hm=>?_,fun g hg=>?_,?_,fun g k b hg hk hgk hb=>?_,fun g b hg hb=>?_⟩
 ·obtain ⟨x,hx,hxa⟩:=touch_of ha
  rcases getElem?_append_cases hx with ⟨_,hx'⟩ | ⟨_,hxu⟩
  ·have ha':touchAt t i=some a:=by rw [touchAt_of hx'];exact hxa
   have h00:=h.unk 0 (.inl rfl) i a ha' hm
   by_cases e:g=c
   ·subst e
    rcases h00 with hk | ⟨b,h1,h2,h3,h4⟩
    ·exact .inl (hkc i hk)
    ·refine .inr ⟨b,h1,h2,by rw [ewc];exact id,fun hb=>?_⟩
     rw [eDc] at hb
     rcases hDc b hb with h5 | h5
     ·exact h4 h5
     ·exact (h3 h5).elim
   ·by_cases e':g=0
    ·subst e'
     rcases h00 with hk | ⟨b,h1,h2,h3,h4⟩
     ·exact .inl (hk.app _)
     ·refine .inr ⟨b,h1,h2,?_,fun hb=>?_⟩
      ·rw [ew00];exact fun hb=>h3 (hw0 b hb).1
      ·rw [eD00] at hb
       rcases h0 b (.inl hb) with h5 | h5
       ·exact h4 h5
       ·exact (h3 h5).elim
    ·rw [eD0 g e' e,ew0 g e' e]
     have hA:A g:=hg.elim (fun h=>(e' h).elim) fun h=>h.elim id fun h=>(e h).elim
     exact (h.unk g (.inr hA) i a ha' hm).imp (·.app _) id
  ·rw [hn x hxu] at hxa;cases hxa
 ·obtain ⟨x,hx,hxa⟩:=touch_of ha
  rcases getElem?_append_cases hx with ⟨hi,hx'⟩ | ⟨_,hxu⟩
  ·exact (h.main i a (by rw [touchAt_of hx'];exact hxa) hm).imp (·.app _) fun ⟨g',h1,h2⟩=>⟨g',.inl h1,by rw [g?_old hi];exact h2⟩
  ·rw [hn x hxu] at hxa;cases hxa
 ·rw [Deaf_quiet (hq g)]
  rcases hg with h1 | h1 | h1
  ·exact h.hears g (.inl h1)
  ·exact h.hears g (.inr h1)
  ·rw [h1];exact hd
 ·obtain ⟨B,hB⟩:=h.seen
  refine ⟨B,seen_app hB fun op hop=>?_⟩
  subst hu
  simp only [List.mem_toArray,List.mem_cons,List.not_mem_nil,or_false] at hop
  rcases hop with rfl | rfl <;> trivial
 ·have hgc:g≠c:=by
   rintro rfl
   rw [ewc] at hb
   exact hb
  have h1:wr g b∧(g=0→¬ Dc b):=by
   by_cases e:g=0
   ·subst e;rw [ew00] at hb;exact ⟨(hw0 b hb).1,fun _=>(hw0 b hb).2⟩
   ·rw [ew0 g e hgc] at hb;exact ⟨hb,fun h=>(e h).elim⟩
  have hg':g=0∨A g:=hg.elim .inl fun h=>h.elim .inr fun h=>(hgc h).elim
  by_cases e:k=c
  ·subst e
   rw [eDc,ewc]
   refine ⟨fun hx=>?_,id⟩
   by_cases e':g=0
   ·exact h1.2 e' hx
   ·have:=h.sep g 0 b hg' (.inl rfl) e' h1.1
    exact (hDc b hx).elim this.1 this.2
  ·have hk':k=0∨A k:=hk.elim .inl fun h=>h.elim .inr fun h=>(e h).elim
   have hs:=h.sep g k b hg' hk' hgk h1.1
   by_cases e':k=0
   ·subst e'
    rw [eD00,ew00]
    exact ⟨fun hx=>(h0 b (.inl hx)).elim hs.1 hs.2,fun hx=>hs.2 (hw0 b hx).1⟩
   ·rw [eD0 k e' e,ew0 k e' e];exact hs
 ·by_cases e:g=c
  ·subst e
   rw [eDc,ewc] at hb
   exact h.low 0 b (.inl rfl) (hDc b (hb.elim id fun x=>x.elim))
  ·by_cases e':g=0
   ·subst e'
    rw [eD00,ew00] at hb
    exact h.low 0 b (.inl rfl) (h0 b hb)
   ·rw [eD0 g e' e,ew0 g e' e] at hb
    exact h.low g b (hg.elim .inl fun h=>h.elim .inr fun h=>(e h).elim) hb
theorem Gj.meet (h:Gj A D wr n t) {j:Nat} (hj:A j) (hj0:j≠0) (fj:FuncId) (pj:String) (f0:FuncId) (p0:String) (c k cap:Nat) :
  Gj (fun g=>A g∧g≠j) D wr n (t ++ met j 0 fj pj f0 p0 c k cap):=by
 have hn:=met_mute j 0 fj pj f0 p0 c k cap
 have hq:=met_quiet j 0 fj pj f0 p0 c k cap
 have e0:(t ++ met j 0 fj pj f0 p0 c k cap)[t.size]? = some { g:=j,fn:=fj,pos:=pj,act:=.send c k }:=by simp [met]
 have e3:(t ++ met j 0 fj pj f0 p0 c k cap)[t.size+3]? = some { g:=0,fn:=f0,pos:=p0,act:=.recvDone c k }:=by simp [met]
 have edge:HappensBefore (t ++ met j 0 fj pj f0 p0 c k cap) t.size (t.size+3) :=
  Relation.TransGen.single (.inr ⟨.handOver (act?_of e0) (act?_of e3),⟨j,g?_of e0,by rw [deaf_old (Nat.le_refl _)];exact h.hears j (.inr hj)⟩,⟨0,g?_of e3,by rw [deaf_quiet (hq 0) 3 (by simp [met])];exact h.hears 0 (.inl rfl)⟩⟩)
 have hk0:∀ i,Knows t j i→Knows (t ++ met j 0 fj pj f0 p0 c k cap) 0 i:=fun i hk=>⟨t.size+3,_,e3,rfl,.inr ((hk.hb_new (Nat.le_refl _) e0 rfl).trans edge)⟩
 refine ⟨fun said=>noRace_appendMute (h.clean said) hn,fun g hg i a ha hm=>?_,fun i a ha hm=>?_,fun g hg=>?_,?_,fun g l b hg hl=>h.sep g l b (hg.imp id (·.1)) (hl.imp id (·.1)),fun g b hg=>h.low g b (hg.imp id (·.1))⟩
 ·obtain ⟨x,hx,hxa⟩:=touch_of ha
  rcases getElem?_append_cases hx with ⟨_,hx'⟩ | ⟨_,hxu⟩
  ·exact (h.unk g (hg.imp id (·.1)) i a (by rw [touchAt_of hx'];exact hxa) hm).imp (·.app _) id
  ·rw [hn x hxu] at hxa;cases hxa
 ·obtain ⟨x,hx,hxa⟩:=touch_of ha
  rcases getElem?_append_cases hx with ⟨hi,hx'⟩ | ⟨_,hxu⟩
  ·rcases h.main i a (by rw [touchAt_of hx'];exact hxa) hm with hk | ⟨g',h1,h2⟩
   ·exact .inl (hk.app _)
   ·by_cases e:g'=j
    ·subst e
     have:=knows_own hx'
     rw [show x.g=g' from by have:=g?_of hx';rw [h2] at this;exact (Option.some.inj this).symm] at this
     exact .inl (hk0 i this)
    ·exact .inr ⟨g',⟨h1,e⟩,by rw [g?_old hi];exact h2⟩
  ·rw [hn x hxu] at hxa;cases hxa
 ·rw [Deaf_quiet (hq g)]
  exact h.hears g (hg.imp id (·.1))
 ·obtain ⟨B,hB⟩:=h.seen
  refine ⟨B+(c+1),seen_app (fun op hop=>MemAct.low_mono (by omega) (hB op hop)) fun op hop=>?_⟩
  simp only [met,List.mem_toArray,List.mem_cons,List.not_mem_nil,or_false] at hop
  rcases hop with rfl | rfl | rfl | rfl <;> (show c < _;omega)
end
inductive WK where
 | leave (q:Nat)
 | work (τ:Tr)
 | sit
def WK.busy:WK→Bool
 | .leave _=>false
 | _=>true
inductive LZ:WK→WK→Prop
 | leave (q:Nat):LZ (.leave q) (.leave (q+1))
 | node (f:World→Tr) (w:World):LZ (.work (f w)) (.work (.node f))
 | sit (τ:Tr):LZ .sit (.work τ)
theorem XK:WellFounded LZ:=by
 have hs:Acc LZ .sit:=⟨_,fun y h=>by cases h⟩
 refine ⟨fun x=>?_⟩
 cases x with
 | sit=>exact hs
 | leave q =>
  induction q with
  | zero=>exact ⟨_,fun y h=>by cases h⟩
  | succ q ih=>exact ⟨_,fun y h=>by cases h;exact ih⟩
 | work τ =>
  induction τ with
  | leaf=>exact ⟨_,fun y h=>by cases h;exact hs⟩
  | node f ih=>exact ⟨_,fun y h=>by cases h with | node f w=>exact ih w | sit=>exact hs⟩
def Dec (n:Nat) (K' K:Nat→WK):Prop:=∃ i x,i < n∧K'=upd K i x∧LZ x (K i)
theorem dec_wf:∀ n,WellFounded (Dec n)
 | 0=>⟨fun _=>⟨_,fun _ h=>by obtain ⟨i,_,h,_⟩:=h;omega⟩⟩
 | n+1=>by
  have ih:=dec_wf n
  have key:∀ (x:WK) (K:Nat→WK),Acc LZ x→Acc (Dec n) K→K n=x→Acc (Dec (n+1)) K:=by
   intro x K hx
   induction hx generalizing K with
   | intro x _ ihx =>
    intro hK
    induction hK with
    | intro K _ ihK =>
     intro he
     refine ⟨_,fun K' ⟨i,y,hi,hk,hlt⟩=>?_⟩
     by_cases hin:i=n
     ·subst hin
      subst hk
      exact ihx y (he ▸ hlt) _ (ih.apply _) (upd_same _ _ _)
     ·exact ihK K' ⟨i,y,by omega,hk,hlt⟩ (by rw [hk,upd_ne _ _ (Ne.symm hin)];exact he)
  exact ⟨fun K=>key _ K (XK.apply _) (ih.apply _) rfl⟩
structure Sit where
 K:Nat→WK
 D:Nat→Nat→Prop
 wr:Nat→Nat→Prop
 val:Nat→Value
def Sit.act (s:Sit) (n g:Nat):Prop:=0 < g∧g < n∧(s.K g).busy=true
def AtSend (P:Program) (c:Nat) (v:Value) (D:Nat→Prop):vO:=fun wr fr mine w =>
 ∃ g₂ z es,stepG P false (G fr mine) w=.comm g₂ #[scase c v z] true .send w es∧(∀ e∈es,Ae D wr e)∧∃ q,QuitsD P q 0 (Conc.served g₂ undef)
def qc (P:Program) (c:Nat) (s:Sit) (i:Nat) (g:Goroutine) (w:World) (t:Trace):Prop :=
 match s.K i with
 | .leave q=>QuitsD P q (Deaf t i) g
 | .work τ=>∃ fr mine,g=G fr mine∧QG P c (s.D i) (AtSend P c (s.val i) (s.D i)) τ (s.wr i) fr mine w
 | .sit=>∃ g₂ z,g=parked g₂ #[scase c (s.val i) z] .send∧∃ q,QuitsD P q 0 (Conc.served g₂ undef)
structure oV (P:Program) (c:Nat) (s:Sit) (gs:Array Goroutine) (a:Goroutine) (w:World) (t:Trace):Prop where
 zero:gs[0]? = some a
 old:∀ i g,0 < i→gs[i]? = some g→qc P c s i g w t
 above:∀ j,gs.size≤j→Deaf t j=0
 chan:∃ k,w.heap[c]? = some (.chan 0 #[] false k k false)
 nochan:∀ g,(g=0∨s.act gs.size g)→¬ s.wr g c
 heap:ay OC w
 tr:Gj (s.act gs.size) s.D s.wr w.heap.size t
def Main (c:Nat) (a:Goroutine):Prop:=a.status=.running∨∃ a₂ z,a=parked a₂ #[rcase c z] (.recv false)
section
variable {P:Program} {c:Nat} {s:Sit} {gs:Array Goroutine} {a:Goroutine} {w w':World} {t:Trace}
theorem Dj (ha:Main c a) {g g':Goroutine} (hk:∃ k,w.heap[c]? = some (.chan 0 #[] false k k false)):woken P g g' w a=a:=by
 rcases ha with h | ⟨a₂,z,rfl⟩
 ·exact woken_run h
 ·obtain ⟨k,hk⟩:=hk
  exact woken_recv_open _ _ hk
theorem EL {i:Nat} {x g g':Goroutine} (h:qc P c s i x w t) (hk:∃ k,w'.heap[c]? = some (.chan 0 #[] false k k false)):woken P g g' w' x=x:=by
 unfold qc at h
 cases hK:s.K i with
 | leave q=>rw [hK] at h;exact woken_quitsD h
 | work τ =>
  rw [hK] at h
  obtain ⟨fr,mine,rfl,_⟩:=h
  exact woken_run rfl
 | sit =>
  rw [hK] at h
  obtain ⟨g₂,z,rfl,_⟩:=h
  obtain ⟨k,hk⟩:=hk
  exact woken_send_open _ _ hk
theorem qc.keep {s':Sit} {i:Nat} {x:Goroutine} {t':Trace} (h:qc P c s i x w t) (hK:s'.K i=s.K i) (hD:s'.D i=s.D i) (hwr:s'.wr i=s.wr i) (hv:s'.val i=s.val i) (hd:Deaf t' i=Deaf t i)
  (hr:(s.K i).busy=true→dn c (sK (s.D i) (s.wr i)) w w'):qc P c s' i x w' t':=by
 unfold qc at h ⊢
 rw [hK]
 cases hk:s.K i with
 | leave q =>
  rw [hk] at h
  show QuitsD P q (Deaf t' i) x
  rw [hd];exact h
 | work τ =>
  rw [hk] at h
  obtain ⟨fr,mine,h1,h2⟩:=h
  refine ⟨fr,mine,h1,?_⟩
  rw [hD,hwr,hv]
  exact h2.rely (hr (by rw [hk];rfl))
 | sit =>
  rw [hk] at h
  show ∃ g₂ z,x=parked g₂ #[scase c (s'.val i) z] .send∧_
  rw [hv];exact h
theorem oV.at (h:oV P c s gs a w t) (d:Nat):oV P c s gs a (w.at d) t :=
 ⟨h.zero,fun i g hi hg=>(h.old i g hi hg).keep rfl rfl rfl rfl rfl fun _=>.at _ w d,h.above,h.chan,h.nochan,h.heap,h.tr⟩
theorem oV.lt (h:oV P c s gs a w t):0 < gs.size:=(Array.getElem?_eq_some_iff.1 h.zero).1
theorem oV.relied (h:oV P c s gs a w t) {i j:Nat} (hi:i=0∨s.act gs.size i) (hj:j=0∨s.act gs.size j) (hij:i≠j) (hg:BI (s.wr i) w w'):dn c (sK (s.D j) (s.wr j)) w w':=by
 refine ⟨hg.size,fun b hb=>.inl (hg.keep b (h.tr.low j b hj hb) fun hw=>?_),hg.tape,hg.os,hg.output⟩
 have:=h.tr.sep i j b hi hj hij hw
 exact hb.elim this.1 this.2
theorem oV.SX (h:oV P c s gs a w t) {i:Nat} (hi:i=0∨s.act gs.size i) (hg:BI (s.wr i) w w'):∃ k,w'.heap[c]? = some (.chan 0 #[] false k k false):=by
 obtain ⟨k,hk⟩:=h.chan
 exact ⟨k,(hg.keep c (Array.getElem?_eq_some_iff.1 hk).1 (h.nochan i hi)).trans hk⟩
theorem KO {i j:Nat} {g':Goroutine} (f:Goroutine→Goroutine) (hij:i≠j) {x:Goroutine} (h:((gs.map f).setIfInBounds i g')[j]? = some x):∃ y,gs[j]? = some y∧x=f y:=by
 rw [Array.getElem?_setIfInBounds_ne hij,Array.getElem?_map] at h
 obtain ⟨y,h1,h2⟩:=Option.map_eq_some_iff.1 h
 exact ⟨y,h1,h2.symm⟩
theorem oV.step (h:oV P c s gs a w t) {i:Nat} (hi:i=0∨s.act gs.size i) {g g':Goroutine} {es:Array Event} {wr':Nat→Prop} {x:WK} (hgi:gs[i]? = some g) (hx:i≠0→x.busy=true)
  (hev:∀ e∈es,Ae (s.D i) wr' e) (hg:BI (s.wr i) w w') (hgr:Ic (s.wr i) wr' w w') (hm:i≠0→Main c a) (fn:FuncId) (pos:String)
  (hok:i≠0→qc P c { s with K:=upd s.K i x,wr:=upd s.wr i wr' } i g' w' (t ++ MemOp.ofEvents i fn pos es)) :
  oV P c { s with K:=if i=0 then s.K else upd s.K i x,wr:=upd s.wr i wr' } ((gs.map (woken P g g' w')).setIfInBounds i g') (if i=0 then g' else a) w' (t ++ MemOp.ofEvents i fn pos es):=by
 have hlt:i < gs.size:=(Array.getElem?_eq_some_iff.1 hgi).1
 have hu:∀ op∈MemOp.ofEvents i fn pos es,op.g=i:=fun op hop=>by obtain ⟨e,_,rfl⟩:=Go.Conc.mem_ofEvents hop;rfl
 have hch:=h.SX hi hg
 have hsz:((gs.map (woken P g g' w')).setIfInBounds i g').size=gs.size:=by simp
 have hbusy:∀ j,((if i=0 then s.K else upd s.K i x) j).busy=(s.K j).busy∨(i=j∧i=0):=by
  intro j
  by_cases h0:i=0
  ·rw [if_pos h0];exact .inl rfl
  ·rw [if_neg h0]
   by_cases e:j=i
   ·subst e
    rw [upd_same,hx h0]
    rcases hi with hi | hi
    ·exact (h0 hi).elim
    ·exact .inl hi.2.2.symm
   ·rw [upd_ne _ _ e];exact .inl rfl
 have hact:∀ j,Sit.act { s with K:=if i=0 then s.K else upd s.K i x,wr:=upd s.wr i wr' } gs.size j↔s.act gs.size j:=by
  intro j
  unfold Sit.act
  dsimp only
  constructor
  ·rintro ⟨h1,h2,h3⟩
   rcases hbusy j with h4 | ⟨h4,h5⟩
   ·exact ⟨h1,h2,h4 ▸ h3⟩
   ·omega
  ·rintro ⟨h1,h2,h3⟩
   rcases hbusy j with h4 | ⟨h4,h5⟩
   ·exact ⟨h1,h2,h4.trans h3⟩
   ·omega
 refine ⟨?_,fun j y hj hy=>?_,fun j hj=>?_,hch,fun j hj=>?_,hg.okh _ h.heap,?_⟩
 ·by_cases h0:i=0
  ·subst h0
   simp [hlt]
  ·rw [if_neg h0,Array.getElem?_setIfInBounds_ne h0,Array.getElem?_map,h.zero]
   exact congrArg some (Dj (hm h0) hch)
 ·by_cases e:i=j
  ·subst e
   have h0:i≠0:=by omega
   rw [Array.getElem?_setIfInBounds_self_of_lt (by simpa using hlt)] at hy
   cases hy
   have:=hok h0
   rw [if_neg h0];exact this
  ·obtain ⟨z,hz,rfl⟩:=KO _ e hy
   have hz':=h.old j z hj hz
   rw [EL hz' hch]
   refine hz'.keep ?_ rfl (upd_ne _ _ (Ne.symm e)) rfl (Deaf_other t e _ hu) fun hb=>h.relied hi (.inr ⟨hj,(Array.getElem?_eq_some_iff.1 hz).1,hb⟩) e hg
   dsimp only
   by_cases h0:i=0
   ·rw [if_pos h0]
   ·rw [if_neg h0,upd_ne _ _ (Ne.symm e)]
 ·rw [hsz] at hj
  rw [Deaf_other t (by omega) _ hu]
  exact h.above j hj
 ·rw [hsz] at hj
  dsimp only
  rw [hact] at hj
  by_cases e:j=i
  ·subst e
   rw [upd_same]
   intro hb
   rcases hgr.fresh c hb with h1 | ⟨h1,_⟩
   ·exact h.nochan j hj h1
   ·obtain ⟨k,hk⟩:=h.chan
    have:=(Array.getElem?_eq_some_iff.1 hk).1
    omega
  ·rw [upd_ne _ _ e];exact h.nochan j hj
 ·rw [hsz]
  have:=h.tr.own hi hev hgr.le hgr.fresh hg.size fn pos
  have e:s.act gs.size=Sit.act { s with K:=if i=0 then s.K else upd s.K i x,wr:=upd s.wr i wr' } gs.size:=by funext j;exact (propext (hact j)).symm
  rw [← e]
  exact this
theorem oV.slip (h:oV P c s gs a w t) {i q:Nat} (hi:0 < i) {g g':Goroutine} {es:Array Event} (hgi:gs[i]? = some g) (hK:s.K i=.leave (q+1)) (hm:∀ e∈es,e.mute=true) (ha:Main c a) (fn:FuncId) (pos:String)
  (hq:QuitsD P q (deafBehind (Deaf t i) es) g') :
  oV P c { s with K:=upd s.K i (.leave q) } ((gs.map (woken P g g' w)).setIfInBounds i g') a w (t ++ MemOp.ofEvents i fn pos es):=by
 have hlt:i < gs.size:=(Array.getElem?_eq_some_iff.1 hgi).1
 have hu:∀ op∈MemOp.ofEvents i fn pos es,op.g=i:=fun op hop=>by obtain ⟨e,_,rfl⟩:=Go.Conc.mem_ofEvents hop;rfl
 have hsz:((gs.map (woken P g g' w)).setIfInBounds i g').size=gs.size:=by simp
 have hact:∀ j,Sit.act { s with K:=upd s.K i (.leave q) } gs.size j↔s.act gs.size j:=by
  intro j
  unfold Sit.act
  dsimp only
  by_cases e:j=i
  ·subst e;rw [upd_same,hK];exact Iff.rfl
  ·rw [upd_ne _ _ e]
 refine ⟨?_,fun j y hj hy=>?_,fun j hj=>?_,h.chan,fun j hj=>?_,h.heap,?_⟩
 ·have h0:i≠0:=by omega
  rw [Array.getElem?_setIfInBounds_ne h0,Array.getElem?_map,h.zero]
  exact congrArg some (Dj ha h.chan)
 ·by_cases e:i=j
  ·subst e
   rw [Array.getElem?_setIfInBounds_self_of_lt (by simpa using hlt)] at hy
   cases hy
   unfold qc
   simp only [upd_same]
   rw [Deaf_own];exact hq
  ·obtain ⟨z,hz,rfl⟩:=KO _ e hy
   have hz':=h.old j z hj hz
   rw [EL hz' h.chan]
   exact hz'.keep (upd_ne _ _ (Ne.symm e)) rfl rfl rfl (Deaf_other t e _ hu) fun _=>.refl _ w
 ·rw [hsz] at hj
  rw [Deaf_other t (by omega) _ hu]
  exact h.above j hj
 ·rw [hsz] at hj
  rw [hact] at hj
  exact h.nochan j hj
 ·rw [hsz]
  have e:s.act gs.size=Sit.act { s with K:=upd s.K i (.leave q) } gs.size:=by funext j;exact (propext (hact j)).symm
  rw [← e]
  refine h.tr.P6 ⟨by omega,fun hA=>?_⟩ hm fn pos
  have:=hA.2.2
  rw [hK] at this
  cases this
theorem oV.QL (h:oV P c s gs a w t) {i:Nat} (hi:s.act gs.size i) {g g₂:Goroutine} {z:Value} {es:Array Event} (hgi:gs[i]? = some g) (hev:∀ e∈es,Ae (s.D i) (s.wr i) e) (hq:∃ q,QuitsD P q 0 (Conc.served g₂ undef)) (fn:FuncId) (pos:String) :
  oV P c { s with K:=upd s.K i .sit } (gs.setIfInBounds i (parked g₂ #[scase c (s.val i) z] .send)) a w (t ++ MemOp.ofEvents i fn pos es):=by
 have hlt:i < gs.size:=(Array.getElem?_eq_some_iff.1 hgi).1
 have hu:∀ op∈MemOp.ofEvents i fn pos es,op.g=i:=fun op hop=>by obtain ⟨e,_,rfl⟩:=Go.Conc.mem_ofEvents hop;rfl
 have hsz:(gs.setIfInBounds i (parked g₂ #[scase c (s.val i) z] .send)).size=gs.size:=by simp
 have h0:i≠0:=by have:=hi.1;omega
 have hact:∀ j,Sit.act { s with K:=upd s.K i .sit } gs.size j↔s.act gs.size j:=by
  intro j
  unfold Sit.act
  dsimp only
  by_cases e:j=i
  ·subst e;rw [upd_same,hi.2.2];exact Iff.rfl
  ·rw [upd_ne _ _ e]
 have hown:=h.tr.own (.inr hi) hev (fun _ h=>h) (fun _ h=>.inl h) (Nat.le_refl _) fn pos
 have hwr:upd s.wr i (s.wr i)=s.wr:=by
  funext j
  by_cases e:j=i
  ·subst e;rw [upd_same]
  ·rw [upd_ne _ _ e]
 rw [hwr] at hown
 refine ⟨?_,fun j y hj hy=>?_,fun j hj=>?_,h.chan,fun j hj=>?_,h.heap,?_⟩
 ·rw [Array.getElem?_setIfInBounds_ne h0];exact h.zero
 ·by_cases e:i=j
  ·subst e
   rw [Array.getElem?_setIfInBounds_self_of_lt hlt] at hy
   cases hy
   unfold qc
   simp only [upd_same]
   exact ⟨g₂,z,rfl,hq⟩
  ·rw [Array.getElem?_setIfInBounds_ne e] at hy
   exact (h.old j y hj hy).keep (upd_ne _ _ (Ne.symm e)) rfl rfl rfl (Deaf_other t e _ hu) fun _=>.refl _ w
 ·rw [hsz] at hj
  rw [Deaf_other t (by omega) _ hu]
  exact h.above j hj
 ·rw [hsz] at hj
  rw [hact] at hj
  exact h.nochan j hj
 ·rw [hsz]
  have e:s.act gs.size=Sit.act { s with K:=upd s.K i .sit } gs.size:=by funext j;exact (propext (hact j)).symm
  rw [← e]
  exact hown
theorem oV.met (h:oV P c s gs a w t) {j:Nat} (hj:s.act gs.size j) {a' g':Goroutine} {q k cap:Nat} (hq:QuitsD P q 0 g') (fj:FuncId) (pj:String) (f0:FuncId) (p0:String) (k':Nat) (gs':Array Goroutine) (hsz:gs'.size=gs.size)
  (h0:gs'[0]? = some a') (hgj:gs'[j]? = some g') (hoth:∀ i,i≠0→i≠j→gs'[i]? = gs[i]?) (d:Nat) (w':World) (hw':w'=(w.at d).setChan c 0 #[] false k' k' false) :
  oV P c { s with K:=upd s.K j (.leave q) } gs' a' w' (t ++ Conc.met j 0 fj pj f0 p0 c k cap):=by
 have hj0:j≠0:=by have:=hj.1;omega
 have hdeaf:∀ g,Deaf (t ++ Conc.met j 0 fj pj f0 p0 c k cap) g=Deaf t g:=fun g=>Deaf_quiet (met_quiet j 0 fj pj f0 p0 c k cap g)
 have hact:∀ i,Sit.act { s with K:=upd s.K j (.leave q) } gs.size i↔(s.act gs.size i∧i≠j):=by
  intro i
  unfold Sit.act
  dsimp only
  by_cases e:i=j
  ·subst e;rw [upd_same];simp [WK.busy]
  ·rw [upd_ne _ _ e];simp [e]
 obtain ⟨k0,hk0⟩:=h.chan
 have hclt:=(Array.getElem?_eq_some_iff.1 hk0).1
 have hsame:∀ b,b≠c→w'.heap[b]? = w.heap[b]?:=by
  intro b hb
  subst hw'
  show (w.heap.setIfInBounds c _)[b]? = _
  rw [Array.getElem?_setIfInBounds_ne (Ne.symm hb)]
 have hcc:w'.heap[c]? = some (.chan 0 #[] false k' k' false):=by
  subst hw'
  show (w.heap.setIfInBounds c _)[c]? = _
  rw [Array.getElem?_setIfInBounds_self_of_lt hclt]
 have hsize:w'.heap.size=w.heap.size:=by
  subst hw'
  show (w.heap.setIfInBounds c _).size=_
  simp
 have hrel:∀ rd,dn c rd w w':=fun rd=>⟨by omega,fun b _=>by
  by_cases e:b=c
  ·subst e;exact .inr ⟨rfl,_,_,hk0,hcc,rfl,rfl⟩
  ·exact .inl (hsame b e),by subst hw';rfl,by subst hw';rfl,by subst hw';rfl⟩
 refine ⟨h0,fun i y hi hy=>?_,fun i hi=>?_,⟨k',hcc⟩,fun i hi=>?_,?_,?_⟩
 ·by_cases e:i=j
  ·subst e
   rw [hgj] at hy
   cases hy
   unfold qc
   simp only [upd_same]
   rw [hdeaf,h.tr.hears i (.inr hj)]
   exact hq
  ·rw [hoth i (by omega) e] at hy
   exact (h.old i y hi hy).keep (upd_ne _ _ e) rfl rfl rfl (hdeaf i) fun _=>hrel _
 ·rw [hdeaf];exact h.above i (by rw [hsz] at hi;exact hi)
 ·rw [hsz] at hi
  rw [hact] at hi
  exact h.nochan i (hi.imp id (·.1))
 ·intro i o ho
  by_cases e:i=c
  ·subst e
   rw [hcc] at ho
   cases ho
   exact ⟨rfl,rfl,rfl⟩
  ·rw [hsame i e] at ho
   exact h.heap i o ho
 ·rw [hsz,hsize]
  have e:(fun g=>s.act gs.size g∧g≠j)=Sit.act { s with K:=upd s.K j (.leave q) } gs.size:=by funext i;exact (propext (hact i)).symm
  rw [← e]
  exact h.tr.meet hj hj0 fj pj f0 p0 c k cap
end
structure Like (s s':Sit):Prop where
 D:s'.D=s.D
 val:s'.val=s.val
 wr0:s'.wr 0=s.wr 0
 busy:∀ j,(s'.K j).busy=(s.K j).busy
theorem Like.refl (s:Sit):Like s s:=⟨rfl,rfl,rfl,fun _=>rfl⟩
theorem Like.trans {s s' s'':Sit} (h:Like s s') (h':Like s' s''):Like s s'':=⟨h'.D.trans h.D,h'.val.trans h.val,h'.wr0.trans h.wr0,fun j=>(h'.busy j).trans (h.busy j)⟩
def iM (s:Sit) (n:Nat):List Value:=((List.range n).filter fun i=>decide (0 < i) && (s.K i).busy).map s.val
theorem Like.pend {s s':Sit} (h:Like s s') (n:Nat):iM s' n=iM s n:=by
 unfold iM
 rw [h.val]
 congr 1
 apply List.filter_congr
 intro i _
 rw [h.busy i]
theorem rY (s:Sit) (n:Nat):iM s (n+1)=iM s n ++ (if 0 < n∧(s.K n).busy=true then [s.val n] else []):=by
 unfold iM
 rw [List.range_succ,List.filter_append,List.map_append]
 congr 1
 by_cases h:0 < n∧(s.K n).busy=true
 ·simp [h]
 ·rw [if_neg h]
  have:(decide (0 < n) && (s.K n).busy)=false:=by
   cases hb:(decide (0 < n) && (s.K n).busy) with
   | false=>rfl
   | true=>simp only [Bool.and_eq_true,decide_eq_true_eq] at hb;exact (h hb).elim
  simp [this]
theorem yj {s s':Sit} {n:Nat} (h:∀ i,i < n→(s'.K i).busy=(s.K i).busy∧s'.val i=s.val i):iM s' n=iM s n:=by
 induction n with
 | zero=>rfl
 | succ n ih =>
  rw [rY,rY,ih fun i hi=>h i (by omega),(h n (by omega)).1,(h n (by omega)).2]
theorem zT {s:Sit} {i q:Nat}:∀ {n:Nat},s.act n i→(iM s n).Perm (s.val i :: iM { s with K:=upd s.K i (.leave q) } n)
 | 0,h=>by have:=h.2.1;omega
 | n+1,h=>by
  rw [rY,rY]
  by_cases e:i=n
  ·subst e
   rw [if_pos ⟨h.1,h.2.2⟩]
   have h1:iM { s with K:=upd s.K i (.leave q) } i=iM s i:=yj fun j hj=>⟨by show (upd s.K i _ j).busy=_;rw [upd_ne _ _ (by omega)],rfl⟩
   have h2:¬ (0 < i∧(upd s.K i (WK.leave q) i).busy=true):=by rw [upd_same];simp [WK.busy]
   rw [if_neg h2,h1,List.append_nil]
   exact List.perm_append_singleton _ _
  ·have hlt:i < n:=by have:=h.2.1;omega
   have ih:=zT (q:=q) (n:=n) ⟨h.1,hlt,h.2.2⟩
   have h3:(upd s.K i (WK.leave q) n)=s.K n:=upd_ne _ _ (Ne.symm e)
   simp only [h3]
   exact (ih.append_right _)
section
variable {P:Program} {c:Nat}
def Out (P:Program) (c:Nat) (gs:Array Goroutine) (w:World) (sl:Option (Nat × Nat)) (t:Trace) (Q:Sit→Array Goroutine→Goroutine→World→Prop):Prop :=
 ∃ N s' gs' a' w' sl' t',runNT P N (crowd gs w sl) t=(.next (crowd gs' w' sl'),t')∧oV P c s' gs' a' w' t'∧Q s' gs' a' w'
theorem Out.step {gs gs':Array Goroutine} {w w':World} {sl sl':Option (Nat × Nat)} {t:Trace} {u:Array MemOp} {Q:Sit→Array Goroutine→Goroutine→World→Prop} (h:stepT P (crowd gs w sl)=(.next (crowd gs' w' sl'),u)) (ho:Out P c gs' w' sl' (t ++ u) Q) :
  Out P c gs w sl t Q:=by
 obtain ⟨N,s1,gs1,a1,w1,sl1,t1,h1,h2,h3⟩:=ho
 refine ⟨N+1,s1,gs1,a1,w1,sl1,t1,?_,h2,h3⟩
 simp only [runNT,h]
 exact h1
theorem BX {s:Sit} {gs:Array Goroutine} {a:Goroutine} {w:World} {t:Trace} (h:oV P c s gs a w t) (ha:a.status=.running) (i:Nat):partners (gs.setIfInBounds i ph) c false=[]:=by
 refine partners_nil fun j g hj=>?_
 rcases getElem?_stand gs i j g hj with ⟨_,rfl⟩ | ⟨_,hg⟩
 ·exact offersAt_ph _ _
 ·rcases Nat.eq_zero_or_pos j with rfl | hpos
  ·rw [h.zero] at hg
   cases hg
   exact offersAt_of_not_blocked (by rw [ha];simp) _ _
  ·have:=h.old j g hpos hg
   unfold qc at this
   cases hK:s.K j with
   | leave q =>
    rw [hK] at this
    have hs:=QuitsD.status this
    refine offersAt_of_not_blocked (fun e=>?_) _ _
    rcases hs with hs | hs <;> rw [e] at hs <;> cases hs
   | work τ =>
    rw [hK] at this
    obtain ⟨fr,mine,rfl,_⟩:=this
    exact offersAt_of_not_blocked (by simp [G]) _ _
   | sit =>
    rw [hK] at this
    obtain ⟨g₂,z,rfl,_⟩:=this
    exact offersAt_parked_send' _ _ _ _ _ _
theorem AA {s:Sit} {gs:Array Goroutine} {a₂:Goroutine} {z:Value} {w:World} {t:Trace} (h:oV P c s gs (parked a₂ #[rcase c z] (.recv false)) w t) {i:Nat} (hi:i≠0):partners (gs.setIfInBounds i ph) c false=[(0,0)]:=by
 have h0:(gs.setIfInBounds i ph)[0]? = some (parked a₂ #[rcase c z] (.recv false)):=by rw [Array.getElem?_setIfInBounds_ne hi];exact h.zero
 rw [partners_one h0 fun j g hj hg=>?_,offersAt_parked_recv]
 ·simp
 ·rcases getElem?_stand gs i j g hg with ⟨_,rfl⟩ | ⟨_,hg⟩
  ·exact offersAt_ph _ _
  ·have hpos:0 < j:=by omega
   have:=h.old j g hpos hg
   unfold qc at this
   cases hK:s.K j with
   | leave q =>
    rw [hK] at this
    have hs:=QuitsD.status this
    refine offersAt_of_not_blocked (fun e=>?_) _ _
    rcases hs with hs | hs <;> rw [e] at hs <;> cases hs
   | work τ =>
    rw [hK] at this
    obtain ⟨fr,mine,rfl,_⟩:=this
    exact offersAt_of_not_blocked (by simp [G]) _ _
   | sit =>
    rw [hK] at this
    obtain ⟨g₂,z,rfl,_⟩:=this
    exact offersAt_parked_send' _ _ _ _ _ _
theorem QG.parts {D:Nat→Prop} {Stop:vO} {τ:Tr} {wr:Nat→Prop} {fr:Frame} {mine:List Frame} {w:World} (h:QG P c D Stop τ wr fr mine w) :
  Stop wr fr mine w∨∃ τ',LZ (.work τ') (.work τ)∧BH P D wr (QG P c D Stop τ') fr mine w:=by
 cases τ with
 | leaf=>exact .inl (h w (.refl _ w))
 | node f =>
  rcases h w (.refl _ w) with h | h
  ·exact .inl h
  ·exact .inr ⟨_,.node f w,h⟩
theorem Eu {K:Nat→WK} {i:Nat} {x:WK} (h:x.busy=(K i).busy) (j:Nat):(upd K i x j).busy=(K j).busy:=by
 by_cases e:j=i
 ·subst e;rw [upd_same];exact h
 ·rw [upd_ne _ _ e]
theorem QZ {K:Nat→WK} {i:Nat} {x:WK} (h:x≠.sit) (j:Nat) (hj:upd K i x j=.sit):K j=.sit:=by
 by_cases e:j=i
 ·subst e;rw [upd_same] at hj;exact (h hj).elim
 ·rwa [upd_ne _ _ e] at hj
theorem wZ {a b:Goroutine} {cs cs':Array CommCase} {sh sh':CommShape} (h:parked a cs sh=parked b cs' sh') (v:Value):Conc.served a v=Conc.served b v:=by
 simp only [parked,Goroutine.mk.injEq] at h
 obtain ⟨e1,e2,_,e4,_⟩:=h
 cases a;cases b
 dsimp only at e1 e2 e4
 subst e1 e2 e4
 rfl
theorem D7 {s:Sit} {gs:Array Goroutine} {a g:Goroutine} {w:World} {sl:Option (Nat × Nat)} {t:Trace} (h:oV P c s gs a w t) (ha:Main c a) {i:Nat} (hi:0 < i) (hgi:gs[i]? = some g) (hrun:g.status=.running) :
  ∃ gs' w' u,runT P (crowd gs w sl) i=(.next (crowd gs' w' sl),u)∧gs'.size=gs.size∧dn c (sK (s.D 0) (s.wr 0)) w w' ∧
   ((∃ s',oV P c s' gs' a w' (t ++ u)∧Like s s'∧Dec gs.size s'.K s.K∧(a.status=.running∨∀ j,s'.K j=.sit→s.K j=.sit)) ∨
    (∃ a₂ z q,a=parked a₂ #[rcase c z] (.recv false)∧s.act gs.size i∧oV P c { s with K:=upd s.K i (.leave q) } gs' (Conc.served a₂ (s.val i)) w' (t ++ u))):=by
 have hi0:(i == 0)=false:=by simp;omega
 have hne:i≠0:=by omega
 have hlt:i < gs.size:=(Array.getElem?_eq_some_iff.1 hgi).1
 have hold:=h.old i g hi hgi
 unfold qc at hold
 cases hK:s.K i with
 | leave q =>
  rw [hK] at hold
  have hold':QuitsD P q (Deaf t i) g:=hold
  cases q with
  | zero=>rw [hold'.1] at hrun;cases hrun
  | succ q =>
   rcases hold' with ⟨hf,_⟩ | ⟨_,g',es,hm,hst,hq⟩
   ·rw [hf] at hrun;cases hrun
   refine ⟨_,_,_,runT_crowd_go hgi (by rw [hi0];exact hst w),by simp,.refl _ w,.inl ⟨{ s with K:=upd s.K i (.leave q) },h.slip hi hgi hK hm ha _ _ hq,⟨rfl,rfl,rfl,Eu (by rw [hK];rfl)⟩,⟨i,_,hlt,rfl,by rw [hK];exact .leave q⟩,.inr (QZ (by simp))⟩⟩
 | sit =>
  rw [hK] at hold
  obtain ⟨g₂,z,rfl,_⟩:=hold
  cases hrun
 | work τ =>
  rw [hK] at hold
  obtain ⟨fr,mine,rfl,hwt⟩:=hold
  have hact:s.act gs.size i:=⟨hi,hlt,by rw [hK];rfl⟩
  rcases hwt.parts with hstop | ⟨τ',hltτ,fr',mine',w',es,wr',hst,hev,hg,hgr,hk⟩
  ·obtain ⟨g₂,z,es,hst,hev,hq⟩:=hstop
   have hst':stepG P (i == 0) (G fr mine) w=.comm g₂ #[scase c (s.val i) z] true .send w es:=by rw [hi0];exact hst
   obtain ⟨k,hk⟩:=h.chan
   rcases ha with ha | ⟨a₂,z',rfl⟩
   ·have hp:=BX h ha i
    refine ⟨_,_,_,crowd_waits hgi hst' (fun cc hcc=>?_),by simp,.refl _ w,.inl ⟨{ s with K:=upd s.K i .sit },h.QL hact hgi hev hq _ _,⟨rfl,rfl,rfl,Eu (by rw [hK];rfl)⟩,⟨i,_,hlt,rfl,by rw [hK];exact .sit τ⟩,.inl ha⟩⟩
    simp only [List.mem_toArray,List.mem_singleton] at hcc
    subst hcc
    exact ways_send_none hk (Nat.zero_le _) hp
   ·have hp:=AA h hne
    have hrunT:=crowd_send_meets (P:=P) (sl:=sl) hgi hst' hk (j:=0) (gj:=a₂) (shj:=.recv false) (zj:=z') (by omega) h.zero hp
    obtain ⟨q,hq⟩:=hq
    have hown:=h.QL hact (g₂:=g₂) (z:=z) hgi hev ⟨q,hq⟩ (G fr mine).frame.fn (G fr mine).frame.place
    refine ⟨_,_,_,hrunT,by simp,?_,.inr ⟨a₂,z',q,rfl,hact,?_⟩⟩
    ·refine ⟨by show w.heap.size≤(w.heap.setIfInBounds c _).size;simp,fun b _=>?_,rfl,rfl,rfl⟩
     by_cases e:b=c
     ·subst e
      refine .inr ⟨rfl,_,.chan 0 #[] false (k+1) (k+1) false,hk,?_,rfl,rfl⟩
      show (w.heap.setIfInBounds b _)[b]? = _
      rw [Array.getElem?_setIfInBounds_self_of_lt (Array.getElem?_eq_some_iff.1 hk).1]
     ·refine .inl ?_
      show (w.heap.setIfInBounds c _)[b]? = _
      rw [Array.getElem?_setIfInBounds_ne (Ne.symm e)]
    ·have hmet:=hown.met (j:=i) (a':=Conc.served a₂ (s.val i)) (g':=Conc.served g₂ undef) (q:=q) (k:=k) (cap:=0)
      ⟨hi,by simpa using hlt,by show (upd s.K i WK.sit i).busy=true;rw [upd_same];rfl⟩ hq g₂.frame.fn g₂.frame.place a₂.frame.fn a₂.frame.place (k+1)
      ((gs.setIfInBounds 0 (Conc.served a₂ (s.val i))).setIfInBounds i (Conc.served g₂ undef)) (by simp) (by rw [Array.getElem?_setIfInBounds_ne hne];simp [h.lt]) (by simp [hlt])
      (fun x hx0 hxi=>by rw [Array.getElem?_setIfInBounds_ne (Ne.symm hxi),Array.getElem?_setIfInBounds_ne (Ne.symm hx0),Array.getElem?_setIfInBounds_ne (Ne.symm hxi)]) w.drawn _ rfl
     have eK:upd (upd s.K i WK.sit) i (WK.leave q)=upd s.K i (WK.leave q):=by
      funext x
      by_cases e:x=i
      ·subst e;rw [upd_same,upd_same]
      ·rw [upd_ne _ _ e,upd_ne _ _ e,upd_ne _ _ e]
     rw [Array.append_assoc] at hmet
     simp only [eK] at hmet
     exact hmet
  ·have hst':=hst false []
   simp only [List.append_nil] at hst'
   have hstep:=h.step (.inr hact) (g':=G fr' mine') (x:=.work τ') hgi (fun _=>rfl) hev hg hgr (fun _=>ha) (G fr mine).frame.fn (G fr mine).frame.place (fun _=>by
    unfold qc
    simp only [upd_same]
    exact ⟨fr',mine',rfl,hk⟩)
   simp only [hne,if_false] at hstep
   refine ⟨_,_,_,runT_crowd_go hgi (by rw [hi0];exact hst'),by simp,h.relied (.inr hact) (.inl rfl) hne hg,.inl ⟨_,hstep,⟨rfl,rfl,upd_ne _ _ (Ne.symm hne),Eu (by rw [hK];rfl)⟩,⟨i,_,hlt,rfl,by rw [hK];exact hltτ⟩,.inr (QZ (by simp))⟩⟩
theorem all_awake {s:Sit} {gs:Array Goroutine} {a:Goroutine} {w:World} {t:Trace} (h:oV P c s gs a w t) (ha:Main c a):∀ g∈gs,awake g:=by
 intro g hg
 obtain ⟨i,hi,rfl⟩:=Array.mem_iff_getElem.1 hg
 rcases Nat.eq_zero_or_pos i with rfl | hpos
 ·have:gs[0]=a:=by simpa [Array.getElem?_eq_getElem hi] using h.zero
  rw [this]
  rcases ha with ha | ⟨a₂,z,rfl⟩
  ·exact awake_of (.inl ha)
  ·exact awake_of (.inr (.inl rfl))
 ·have:=h.old i _ hpos (Array.getElem?_eq_getElem hi)
  unfold qc at this
  cases hK:s.K i with
  | leave q=>rw [hK] at this;exact awake_of ((QuitsD.status this).elim .inl fun x=>.inr (.inr x))
  | work τ=>rw [hK] at this;obtain ⟨fr,mine,e,_⟩:=this;rw [e];exact awake_of (.inl rfl)
  | sit=>rw [hK] at this;obtain ⟨g₂,z,e,_⟩:=this;rw [e];exact awake_of (.inr (.inl rfl))
theorem AY {a:Goroutine} (ha:a.status=.running) {Q:Sit→Array Goroutine→Goroutine→World→Prop} {s0:Sit} {n:Nat} {w0:World} (E:World→Prop)
  (he:∀ s gs w sl t,oV P c s gs a w t→Like s0 s→gs.size=n→dn c (sK (s0.D 0) (s0.wr 0)) w0 w→E w→Out P c gs w sl t Q)
  (hm:∀ s gs w sl t d,oV P c s gs a (w.at d) t→Like s0 s→gs.size=n→dn c (sK (s0.D 0) (s0.wr 0)) w0 (w.at d)→¬ E w→∃ gs' w' u,runT P (crowd gs (w.at d) sl) 0=(.next (crowd gs' w' sl),u)∧Out P c gs' w' sl (t ++ u) Q) :
  ∀ s gs w sl t,oV P c s gs a w t→Like s0 s→gs.size=n→dn c (sK (s0.D 0) (s0.wr 0)) w0 w→Out P c gs w sl t Q:=by
 have key:∀ K:Nat→WK,∀ s gs w sl t,s.K=K→oV P c s gs a w t→Like s0 s→gs.size=n→dn c (sK (s0.D 0) (s0.wr 0)) w0 w→Out P c gs w sl t Q:=by
  intro K
  induction K using (dec_wf n).induction with
  | _ K ih =>
   intro s gs w sl t hK h hL hn hr
   by_cases hE:E w
   ·exact he s gs w sl t h hL hn hr hE
   obtain ⟨i,g,d,sl',hi,hg,hst⟩:=crowd_pick (P:=P) (w:=w) (sl:=sl) (all_awake h (.inl ha)) ⟨0,a,h.zero,ha⟩
   rcases Nat.eq_zero_or_pos i with rfl | hpos
   ·obtain ⟨gs',w',u,h1,h2⟩:=hm s gs w sl' t d (h.at d) hL hn (hr.trans (.at _ w d)) hE
    exact .step (hst.trans h1) h2
   ·obtain ⟨gs',w',u,h1,h2,h3,h4⟩:=D7 (sl:=sl') (h.at d) (.inl ha) hpos hi hg
    rw [hL.D,hL.wr0] at h3
    rcases h4 with ⟨s',h5,h6,h7,_⟩ | ⟨a₂,z,q,h5,_⟩
    ·exact .step (hst.trans h1) (ih s'.K (by rw [← hK,← hn];exact h7) s' gs' w' sl' _ rfl h5 (hL.trans h6) (h2.trans hn) ((hr.trans (.at _ w d)).trans h3))
    ·rw [h5] at ha;cases ha
 exact fun s gs w sl t=>key s.K s gs w sl t rfl
theorem Fa {a:Goroutine} (ha:a.status=.running) {Q:Sit→Array Goroutine→Goroutine→World→Prop} {s0:Sit} {n:Nat} {w0:World}
  (hm:∀ s gs w sl t,oV P c s gs a w t→Like s0 s→gs.size=n→dn c (sK (s0.D 0) (s0.wr 0)) w0 w→∃ gs' w' u,runT P (crowd gs w sl) 0=(.next (crowd gs' w' sl),u)∧Out P c gs' w' sl (t ++ u) Q) :
  ∀ s gs w sl t,oV P c s gs a w t→Like s0 s→gs.size=n→dn c (sK (s0.D 0) (s0.wr 0)) w0 w→Out P c gs w sl t Q :=
 AY ha (fun _=>False) (fun _ _ _ _ _ _ _ _ _ h=>h.elim) fun s gs w sl t d h hL hn hr _=>hm s gs (w.at d) sl t h hL hn hr
theorem OT {a₂:Goroutine} {z:Value} {Q:Sit→Array Goroutine→Goroutine→World→Prop} {s0:Sit} {n:Nat} {w0:World} (hsome:∃ i,s0.act n i)
  (hm:∀ s i q gs w sl t,s.act n i→Like s0 s→gs.size=n→dn c (sK (s0.D 0) (s0.wr 0)) w0 w→oV P c { s with K:=upd s.K i (.leave q) } gs (Conc.served a₂ (s.val i)) w t→Out P c gs w sl t Q) :
  ∀ s gs w sl t,oV P c s gs (parked a₂ #[rcase c z] (.recv false)) w t→(∀ i,0 < i→i < n→s.K i≠.sit)→Like s0 s→gs.size=n→dn c (sK (s0.D 0) (s0.wr 0)) w0 w→Out P c gs w sl t Q:=by
 have ha:Main c (parked a₂ #[rcase c z] (.recv false)):=.inr ⟨a₂,z,rfl⟩
 have key:∀ K:Nat→WK,∀ s gs w sl t,s.K=K→oV P c s gs (parked a₂ #[rcase c z] (.recv false)) w t→(∀ i,0 < i→i < n→s.K i≠.sit)→Like s0 s→gs.size=n→dn c (sK (s0.D 0) (s0.wr 0)) w0 w→Out P c gs w sl t Q:=by
  intro K
  induction K using (dec_wf n).induction with
  | _ K ih =>
   intro s gs w sl t hK h hns hL hn hr
   have hex:∃ (i:Nat) (g:Goroutine),gs[i]? = some g∧g.status=.running:=by
    obtain ⟨i,h1,h2,h3⟩:=hsome
    have hlt:i < gs.size:=by omega
    have:=h.old i gs[i] h1 (Array.getElem?_eq_getElem hlt)
    unfold qc at this
    cases hKi:s.K i with
    | leave q=>rw [← hL.busy,hKi] at h3;cases h3
    | sit=>exact (hns i h1 h2 hKi).elim
    | work τ =>
     rw [hKi] at this
     obtain ⟨fr,mine,e,_⟩:=this
     exact ⟨i,gs[i],Array.getElem?_eq_getElem hlt,by rw [e];rfl⟩
   obtain ⟨i,g,d,sl',hi,hg,hst⟩:=crowd_pick (P:=P) (w:=w) (sl:=sl) (all_awake h ha) hex
   rcases Nat.eq_zero_or_pos i with rfl | hpos
   ·rw [h.zero] at hi
    cases hi
    cases hg
   ·obtain ⟨gs',w',u,h1,h2,h3,h4⟩:=D7 (sl:=sl') (h.at d) ha hpos hi hg
    rw [hL.D,hL.wr0] at h3
    rcases h4 with ⟨s',h5,h6,h7,h8⟩ | ⟨b₂,z',q,h5,h6,h7⟩
    ·refine .step (hst.trans h1) (ih s'.K (by rw [← hK,← hn];exact h7) s' gs' w' sl' _ rfl h5 (fun j hj0 hj hsit=>?_) (hL.trans h6) (h2.trans hn) ((hr.trans (.at _ w d)).trans h3))
     rcases h8 with h8 | h8
     ·cases h8
     ·exact hns j hj0 hj (h8 j hsit)
    ·rw [← wZ h5] at h7
     rw [hn] at h6
     exact .step (hst.trans h1) (hm s i q gs' w' sl' _ h6 hL (h2.trans hn) ((hr.trans (.at _ w d)).trans h3) h7)
 exact fun s gs w sl t=>key s.K s gs w sl t rfl
end
end Go.Ph
