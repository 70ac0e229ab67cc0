/- A part of the proof: U6, U7, U8, U9, U10, P2, S1, R1, R2, M1. -/
import Derived.Test.YtjjmefieegcddaaDoorC07
import Derived.Conc.Crowd
import Derived.Test.YtjjmefieegcddaaDoorC03
import Derived.Test.YtjjmefieegcddaaDoorC06
import Derived.WalkKit
import Derived.StillTail
import Derived.Deep.Quiet
import Derived.Test.YtjjmefieegcddaaDoorProg
import Derived.WalkSpells
import Derived.WalkLawsBesides
import Derived.RegionTactic
import Derived.Deep.QuietTactic
import Derived.BigQuiet
import Derived.LoopTactic
import Derived.Deep.RegionWith
import Derived.Deep.MidRow
import Derived.OwnWalk
set_option linter.unusedVariables false
set_option linter.unusedSimpArgs false
set_option maxHeartbeats 8000000
namespace Go.Tm
open Go
open Go.Conc
def aaJ (a a1:MemAct):Prop:=a1=a∨∃ r s,a=.access ⟨.obj r,false,s⟩∧a1=.access ⟨.obj r,false,false⟩
def OpA (o o1:MemOp):Prop:=o1.g=o.g∧aaJ o.act o1.act
def nO (t t1:Trace):Prop:=t1.size=t.size∧∀ (i:Nat) (o o1:MemOp),t[i]? = some o→t1[i]? = some o1→OpA o o1
theorem OpA.refl (o:MemOp):OpA o o:=⟨rfl,.inl rfl⟩
theorem nO.refl (t:Trace):nO t t:=⟨rfl,fun i o o1 h h1=>by rw [h] at h1;cases h1;exact OpA.refl _⟩
theorem nO.append {t t1 u u1:Trace} (h:nO t t1) (k:nO u u1):nO (t ++ u) (t1 ++ u1):=by
 refine ⟨by simp [h.1,k.1],fun i o o1 ho ho1=>?_⟩
 simp only [Array.getElem?_append,h.1] at ho ho1
 split at ho
 ·next c =>
  rw [if_pos c] at ho1
  exact h.2 i o o1 ho ho1
 ·next c =>
  rw [if_neg c] at ho1
  exact k.2 _ o o1 ho ho1
theorem ZN {e e1:Event} (h:EvA e e1):aaJ (.ofEvent e) (.ofEvent e1):=by
 rcases h with rfl | ⟨r,h1,rfl,h2⟩
 ·exact .inl rfl
 ·obtain ⟨l,wr,sy⟩:=e
  dsimp only at h1 h2
  subst h1
  subst h2
  exact .inr ⟨r,sy,rfl,rfl⟩
theorem EvL.at {l l1:List Event} (h:EvL l l1):l1.length=l.length∧∀ (i:Nat) (e e1:Event),l[i]? = some e→l1[i]? = some e1→EvA e e1:=by
 induction h with
 | nil=>exact ⟨rfl,fun i e e1 h=>by simp at h⟩
 | cons a _ ih =>
  refine ⟨by simp [ih.1],fun i e e1 h h1=>?_⟩
  cases i with
  | zero =>
   simp only [List.getElem?_cons_zero,Option.some.injEq] at h h1
   subst h
   subst h1
   exact a
  | succ i =>
   simp only [List.getElem?_cons_succ] at h h1
   exact ih.2 i e e1 h h1
theorem nO.ofEvents {es es1:Array Event} (h:mZ es es1) (g:Nat) (fn:FuncId) (pos:String):nO (MemOp.ofEvents g fn pos es) (MemOp.ofEvents g fn pos es1):=by
 obtain ⟨hl,ha⟩:=EvL.at h
 have e:∀ es:Array Event,MemOp.ofEvents g fn pos es=es.map fun e=>{ g,fn,pos,act:=.ofEvent e }:=by
  intro es
  unfold MemOp.ofEvents
  split
  ·next h=>rw [Array.isEmpty_iff.1 h];simp
  ·rfl
 rw [e,e]
 refine ⟨by simpa using hl,fun i o o1 ho ho1=>?_⟩
 simp only [Array.getElem?_map,Option.map_eq_some_iff] at ho ho1
 obtain ⟨x,hx,rfl⟩:=ho
 obtain ⟨x1,hx1,rfl⟩:=ho1
 exact ⟨rfl,ZN (ha i x x1 (by simpa using hx) (by simpa using hx1))⟩
def jc (w w1:World) (g:Goroutine):Prop:=∀ cs sh,g.offers=some (cs,sh)→∀ c∈cs,∀ r,c.chan=.chan (some r)→w1.heap[r]? = w.heap[r]?
structure GA (w0:World) (gs:Array Goroutine) (w w1:World):Prop where
 alike:Alike w0 (fun _=>False) w w1
 heap:ay OC w1
 gi:∀ g∈gs,GI g
 off:∀ g∈gs,jc w w1 g
inductive jX (w0:World):Stepped × Array MemOp→Stepped × Array MemOp→Prop
 | lost {s:Stepped × Array MemOp} {o:Outcome} {w:World} {ops:Array MemOp}:bad o→jX w0 s (.ended o w,ops)
 | next {gs:Array Goroutine} {sl:Option (Nat × Nat)} {w w1:World} {ops ops1:Array MemOp}:GA w0 gs w w1→nO ops ops1→jX w0 (.next (crowd gs w sl),ops) (.next (crowd gs w1 sl),ops1)
 | ended {o:Outcome} {w w1:World} {ops ops1:Array MemOp}:Alike w0 (fun _=>False) w w1→nO ops ops1→jX w0 (.ended o w,ops) (.ended o w1,ops1)
section
variable {P:Program} {w0 w w1:World} {gs:Array Goroutine} {sl:Option (Nat × Nat)}
def Eq2 (w w1:World):Nat→Prop:=fun i=>w1.heap[i]? = w.heap[i]?
theorem Alike.now {E:Nat→Prop} (h:Alike w0 E w w1):Alike w0 (Eq2 w w1) w w1:={ h with same:=fun _ h=>h }
theorem Alike.any {E:Nat→Prop} (h:Alike w0 E w w1):Alike w0 (fun _=>False) w w1:={ h with same:=fun _ h=>h.elim }
theorem jc.step {w' w1':World} {g:Goroutine} (h:jc w w1 g) (ha:Alike w0 (Eq2 w w1) w' w1'):jc w' w1' g:=fun cs sh he c hc r hr=>ha.same r (h cs sh he c hc r hr)
def xO (w:World) (c:CommCase):Bool:=match c.chan with
 | .chan (some r)=>(w.heap[r]? matches some (.chan _ _ true ..))
 | _=>false
theorem PV {g:Goroutine} (h:jc w w1 g):g.again w1=g.again w:=by
 unfold Goroutine.again
 split
 ·rename_i cs sh hs ho
  have e:∀ c∈cs,xO w1 c=xO w c:=by
   intro c hc
   unfold xO
   split
   ·rename_i r hr
    rw [h _ _ ho c hc r hr]
   ·rfl
  have:cs.any (xO w1)=cs.any (xO w):=by
   rw [Bool.eq_iff_iff,Array.any_eq_true',Array.any_eq_true']
   constructor
   ·rintro ⟨c,hc,hx⟩
    exact ⟨c,hc,(e c hc) ▸ hx⟩
   ·rintro ⟨c,hc,hx⟩
    exact ⟨c,hc,(e c hc) ▸ hx⟩
  show (if cs.any (xO w1) then { g with status:=.running } else g)=if cs.any (xO w) then { g with status:=.running } else g
  rw [this]
 all_goals rfl
theorem A8 (g:Goroutine) (w:World):(g.again w).frame=g.frame∧(g.again w).callers=g.callers∧(g.again w).offers=g.offers:=by
 unfold Goroutine.again
 split
 ·dsimp only
  split <;> exact ⟨rfl,rfl,rfl⟩
 all_goals exact ⟨rfl,rfl,rfl⟩
theorem GI.again {g:Goroutine} (h:GI g) (w:World):GI (g.again w):=by
 obtain ⟨e1,e2,_⟩:=A8 g w
 exact ⟨by rw [e1];exact h.fr,by rw [e2];exact h.callers⟩
theorem jc.again {g:Goroutine} {v:World} (h:jc w w1 g):jc w w1 (g.again v):=by
 unfold jc
 rw [(A8 g v).2.2]
 exact h
theorem jc.none {g:Goroutine} (h:g.offers=none):jc w w1 g:=fun cs sh he=>by rw [h] at he;cases he
theorem Ij {α:Type} {a:Array α} {i:Nat} {x y:α} (h:y∈a.setIfInBounds i x):y=x∨y∈a:=by
 obtain ⟨j,hj⟩:=Array.mem_iff_getElem?.1 h
 rw [Array.getElem?_setIfInBounds] at hj
 split at hj
 ·split at hj
  ·exact .inl (Option.some.inj hj).symm
  ·cases hj
 ·exact .inr (Array.mem_of_getElem? hj)
theorem GA.set {g:Goroutine} {i:Nat} (h:GA w0 gs w w1) (hg:GI g) (ho:jc w w1 g):GA w0 (gs.setIfInBounds i g) w w1 :=
 ⟨h.alike,h.heap,fun x hx=>(Ij hx).elim (fun e=>e ▸ hg) (h.gi x),fun x hx=>(Ij hx).elim (fun e=>e ▸ ho) (h.off x)⟩
theorem GA.push {g:Goroutine} (h:GA w0 gs w w1) (hg:GI g) (ho:jc w w1 g):GA w0 (gs.push g) w w1 :=
 ⟨h.alike,h.heap,fun x hx=>(Array.mem_push.1 hx).elim (h.gi x) (fun e=>e ▸ hg),fun x hx=>(Array.mem_push.1 hx).elim (h.off x) (fun e=>e ▸ ho)⟩
theorem GA.again {v:World} (h:GA w0 gs w w1):GA w0 (gs.map (·.again v)) w w1:=by
 refine ⟨h.alike,h.heap,fun x hx=>?_,fun x hx=>?_⟩
 ·obtain ⟨y,hy,rfl⟩:=Array.mem_map.1 hx
  exact (h.gi y hy).again v
 ·obtain ⟨y,hy,rfl⟩:=Array.mem_map.1 hx
  exact (h.off y hy).again
theorem GA.step {w' w1':World} (h:GA w0 gs w w1) (ha:Alike w0 (Eq2 w w1) w' w1') (hw:ay OC w1'):GA w0 gs w' w1' :=
 ⟨ha.any,hw,h.gi,fun x hx=>(h.off x hx).step ha⟩
theorem TS (h:GA w0 gs w w1):gs.map (·.again w1)=gs.map (·.again w):=by
 apply Array.map_congr_left
 exact fun g hg=>PV (h.off g hg)
def Qw (w:World) (gs:Array Goroutine) (cases:Array CommCase) (x:Nat × CommCase × Way):Prop:=(x.2.1∈cases∧x.2.2∈ways w gs x.2.1)∨x.2.2=.closed
theorem J6 {C:Code→Prop} {cases:Array CommCase} {ready:List (Nat × CommCase × List Way)} (h:∀ x∈ready,x.2.1∈cases∧x.2.2=ways w gs x.2.1) :
  Shy true C P (Qw w gs cases) (do
   let a ← choose (.select ready.length)
   let (k,c,ws):=ready.getD a (0,default,[])
   let b ← choose (.extern "which waiting goroutine is the partner" ws.length)
   pure (k,c,ws.getD b .closed)):=by
 intro a
 show Shy true C P (Qw w gs cases) (match ready.getD a (0,default,[]) with | (k,c,ws)=>choose (.extern "which waiting goroutine is the partner" ws.length) >>= fun b=>pure (k,c,ws.getD b .closed))
 generalize hx:ready.getD a (0,default,[])=x
 obtain ⟨k,c,ws⟩:=x
 intro b
 show Qw w gs cases (k,c,ws.getD b .closed)
 by_cases hb:b < ws.length
 ·refine .inl ?_
  by_cases ha:a < ready.length
  ·have:ready.getD a (0,default,[])=ready[a]:=by simp [List.getD,ha]
   rw [this] at hx
   have hm:=h _ (List.getElem_mem ha)
   rw [hx] at hm
   refine ⟨hm.1,?_⟩
   have e:ws.getD b .closed=ws[b]:=by simp [List.getD,hb]
   show ws.getD b .closed∈_
   rw [e,← hm.2]
   exact List.getElem_mem hb
  ·have:ready.getD a (0,default,[])=(0,default,[]):=by simp [List.getD,Nat.le_of_not_lt ha]
   rw [this] at hx
   cases hx
   simp at hb
 ·refine .inr ?_
  show ws.getD b .closed=.closed
  simp [List.getD,Nat.le_of_not_lt hb]
theorem rC (h:GA w0 gs w w1) (k j:Nat) (v:Value):GA w0 (finishPartner P gs k j v) w w1:=by
 unfold finishPartner
 have key:∀ g∈gs.modify k (fun g=>match g.offers with | some (cs,shape)=>g.finishComm P cs shape j v (((cs[j]?).map (·.send.isNone)).getD false) | none=>g),GI g∧jc w w1 g:=by
  intro g hg
  obtain ⟨i,hi,rfl⟩:=Array.mem_iff_getElem.1 hg
  simp only [Array.size_modify] at hi
  rw [Array.getElem_modify]
  have h1:=h.gi _ (Array.getElem_mem hi)
  have h2:=h.off _ (Array.getElem_mem hi)
  split
  ·split
   ·exact ⟨⟨fG h1.fr _,h1.callers⟩,jc.none rfl⟩
   ·exact ⟨h1,h2⟩
  ·exact ⟨h1,h2⟩
 exact ⟨h.alike,h.heap,fun g hg=>(key g hg).1,fun g hg=>(key g hg).2⟩
theorem GA.chan (h:GA w0 gs w w1) {r cap:Nat} {buf:Array Value} {cl:Bool} {s t:Nat} {tm:Bool} (ho:lQ OC (.chan cap buf cl s t tm)):GA w0 gs { w with heap:=w.heap.setIfInBounds r (.chan cap buf cl s t tm) } { w1 with heap:=w1.heap.setIfInBounds r (.chan cap buf cl s t tm) } :=
 h.step (h.alike.now.set r _ (by simp)) (jF h.heap ho)
end
section
variable {P:Program} {w0 w w1:World} {gs:Array Goroutine} {sl:Option (Nat × Nat)} {g:Goroutine} {i:Nat}
theorem TW {c c1:Prop} [Decidable c] [Decidable c1] {a b a1 b1:Stepped × Array MemOp} (hc:¬c1→¬c) (h1:c1→∀ s,jX w0 s a1) (h2:¬c1→jX w0 b b1):jX w0 (if c then a else b) (if c1 then a1 else b1):=by
 by_cases x:c1
 ·rw [if_pos x]
  exact h1 x _
 ·rw [if_neg x,if_neg (hc x)]
  exact h2 x
theorem Dz {c:Prop} [Decidable c] {a b a1 b1:Stepped × Array MemOp} (h1:c→jX w0 a a1) (h2:¬c→jX w0 b b1):jX w0 (if c then a else b) (if c then a1 else b1):=by
 by_cases x:c
 ·rw [if_pos x,if_pos x]
  exact h1 x
 ·rw [if_neg x,if_neg x]
  exact h2 x
abbrev zW (sl:Option (Nat × Nat)):Rest:={ timers:=#[],alone:=none,slice:=sl }
theorem qX {ops:Array MemOp} (h:GA w0 gs w w1) (hg:GI g) (ho:jc w w1 g):jX w0 (.next { world:=w,gs:=gs.setIfInBounds i g,rest:=zW sl },ops) (.next { world:=w1,gs:=gs.setIfInBounds i g,rest:=zW sl },ops) :=
 .next (h.set hg ho) (nO.refl _)
theorem zB (cases:Array CommCase) (w:World):waitingAt (zW sl) cases w=some w:=by
 have:timerAhead (zW sl) w.os.mono cases=false:=by
  unfold timerAhead
  rw [Array.any_eq_false]
  intro k hk
  split <;> simp
 unfold waitingAt
 rw [this]
 rfl
theorem Rn {cases:Array CommCase} {b:Bool} {sh:CommShape} (h:GA w0 gs w w1) (hg:GI g) :
  jX w0 (communicate P (zW sl) gs i g cases b sh w) (communicate P (zW sl) gs i g cases b sh w1):=by
 have same:∀ (r cap:Nat) (buf:Array Value) (cl:Bool) (s t:Nat) (tm:Bool),w1.heap[r]? = some (.chan cap buf cl s t tm)→w.heap[r]? = w1.heap[r]?:=by
  intro r cap buf cl s t tm hr
  rcases h.alike.at r with e | ⟨o,_,_,e2⟩
  ·exact e.symm
  ·rw [hr] at e2
   cases e2
 unfold communicate
 dsimp only
 refine TW (fun hn=>?_) (fun _ s=>.lost dS) (fun hn=>?_)
 all_goals
  have hch:∀ c∈cases,c.chan=.chan none∨∃ (r cap:Nat) (buf:Array Value) (cl:Bool) (s t:Nat) (tm:Bool),c.chan=.chan (some r)∧w1.heap[r]? = some (.chan cap buf cl s t tm):=by
   intro c hc
   have hx:=fun y=>hn (Array.any_eq_true'.2 ⟨c,hc,y⟩)
   revert hx
   cases hcc:c.chan <;> first | (intro hx;exact absurd rfl hx) | skip
   rename_i v
   cases v with
   | none=>exact fun _=>.inl rfl
   | some r =>
    intro hx
    refine .inr ⟨r,?_⟩
    cases hr:w1.heap[r]? with
    | none=>exact absurd (by dsimp only;rw [hr];rfl) hx
    | some o =>
     cases o <;> first
      | exact absurd (by dsimp only;rw [hr];rfl) hx
      | exact ⟨_,_,_,_,_,_,rfl,rfl⟩
 ·intro hy
  obtain ⟨c,hc,hx⟩:=Array.any_eq_true'.1 hy
  rcases hch c hc with e | ⟨r,cap,buf,cl,s,t,tm,e,hr⟩
  ·rw [e] at hx
   cases hx
  ·rw [e] at hx
   dsimp only at hx
   rw [same r _ _ _ _ _ _ hr,hr] at hx
   cases hx
 have hE:∀ c∈cases,∀ r,c.chan=.chan (some r)→w1.heap[r]? = w.heap[r]?:=by
  intro c hc r hr
  rcases hch c hc with e | ⟨r',cap,buf,cl,s,t,tm,e,hr'⟩
  ·rw [e] at hr
   cases hr
  ·rw [e] at hr
   cases hr
   exact (same _ _ _ _ _ _ _ hr').symm
 have hw:∀ c∈cases,ways w1 gs c=ways w gs c:=by
  intro c hc
  unfold ways
  split
  ·rename_i r hr
   rw [hE c hc r hr]
  ·rfl
 obtain ⟨R,hR⟩:∃ R,R=cases.zipIdx.toList.map fun x=>(x.2,x.1,ways w gs x.1):=⟨_,rfl⟩
 have mem:∀ x∈cases.zipIdx.toList,x.1∈cases:=by
  intro x hx
  rw [Array.toList_zipIdx] at hx
  simpa using List.fst_mem_of_mem_zipIdx hx
 have key:∀ (f:CommCase × Nat→Nat × CommCase × List Way),(∀ x∈cases.zipIdx.toList,f x=(x.2,x.1,ways w gs x.1))→cases.zipIdx.toList.map f=R:=by
  intro f hf
  rw [hR]
  exact List.map_congr_left hf
 rw [key _ (fun x hx=>?_),key _ (fun x hx=>?_)]
 rotate_left
 ·exact Prod.ext rfl (Prod.ext rfl (hw _ (mem x hx)))
 ·rfl
 have hready:∀ x∈R,x.2.1∈cases∧x.2.2=ways w gs x.2.1:=by
  intro x hx
  rw [hR] at hx
  obtain ⟨y,hy,rfl⟩:=List.mem_map.1 hx
  exact ⟨mem y hy,rfl⟩
 refine Dz (fun _=>?_) (fun _=>?_)
 ·refine Dz (fun _=>?_) (fun _=>qX h ⟨fG hg.fr _,hg.callers⟩ (jc.none rfl))
  rw [zB,zB]
  refine qX h ⟨hg.fr,hg.callers⟩ fun cs sh e c hc r hr=>?_
  cases e
  exact hE c hc r hr
 generalize hf:R.filter _=R'
 have hready':∀ x∈R',x.2.1∈cases∧x.2.2=ways w gs x.2.1:=by
  intro x hx
  rw [← hf] at hx
  exact hready x (List.mem_filter.1 hx).1
 generalize hp:(bind (choose (.select R'.length)) _:Sem _)=pick
 have hs:Shy true OC P (Qw w gs cases) pick:=by
  rw [← hp]
  exact J6 hready'
 rcases l7 pick hs w w1 #[] #[] h.alike.now h.heap (mZ.refl _) with ⟨h',w',e,hb⟩ | ⟨⟨k,c,way⟩,w',w1',es,es1,e1,e2,hφ,ha',hw',hv⟩ | ⟨h',w',w1',es,es1,e1,e2,hn',ha',hw',hv⟩
 ·have:pick.run P w1=.halt h' w':=by
   rw [← e,Sem.runT_eq]
  rw [this]
  exact .lost dS
 ·rw [jC e1,jC e2]
  have h2:GA w0 gs w' w1':=h.step ha' hw'
  dsimp only
  have fin:∀ v ok,GI (g.finishComm P cases sh k v ok):=fun v ok=>⟨fG hg.fr _,hg.callers⟩
  rcases hφ with ⟨hc,hway⟩ | hcl
  ·dsimp only at hc hway
   rcases hch c hc with e | ⟨r,cap,buf,cl,s,t,tm,e,hr⟩
   ·unfold ways at hway
    rw [e] at hway
    cases hway
   ·have ho:=h.heap r _ hr
    obtain ⟨hcap,hbuf,hclo⟩:=ho
    subst hcap
    subst hbuf
    subst hclo
    have hpt:∃ a b,way=.partner a b:=by
     unfold ways at hway
     rw [e] at hway
     dsimp only at hway
     rw [same _ _ _ _ _ _ _ hr,hr] at hway
     cases hsd:c.send with
     | some v =>
      rw [hsd] at hway
      dsimp only at hway
      rw [if_neg (by simp)] at hway
      split at hway
      ·simp at hway
      ·obtain ⟨x,_,hx⟩:=List.mem_map.1 hway
       exact ⟨_,_,hx.symm⟩
     | none =>
      rw [hsd] at hway
      dsimp only at hway
      rw [if_neg (by simp)] at hway
      split at hway
      ·simp at hway
      ·obtain ⟨x,_,hx⟩:=List.mem_map.1 hway
       exact ⟨_,_,hx.symm⟩
    obtain ⟨pa,pb,rfl⟩:=hpt
    have hsame:=ha'.same r (hE c hc r e)
    rw [e]
    dsimp only
    rw [← hsame]
    cases hr':w1'.heap[r]? with
    | none=>exact .ended h2.alike (nO.refl _)
    | some o =>
     cases o <;> first
      | exact .ended h2.alike (nO.refl _)
      | skip
     have ho':=h2.heap r _ hr'
     cases hsd:c.send with
     | some v=>exact qX (rC (P:=P) h2 pa pb v |>.chan ho') (fin _ _) (jc.none rfl)
     | none=>exact qX (rC (P:=P) h2 pa pb undef |>.chan ho') (fin _ _) (jc.none rfl)
  ·dsimp only at hcl
   subst hcl
   exact qX h2 (fin _ _) (jc.none rfl)
 ·rw [jC e1,jC e2]
  exact .ended ha'.any (nO.refl _)
end
section
variable {P:Program} {w0 w w1:World} {gs:Array Goroutine} {sl:Option (Nat × Nat)}
theorem jX.pre {s s1:Stepped} {more more1 ops ops1:Array MemOp} (h:jX w0 (s,more) (s1,more1)) (ho:nO ops ops1):jX w0 (s,ops ++ more) (s1,ops1 ++ more1):=by
 cases h with
 | lost h=>exact .lost h
 | next h k=>exact .next h (ho.append k)
 | ended h k=>exact .ended h (ho.append k)
theorem aa2:GI { (default:Goroutine) with status:=.finished } :=
 ⟨⟨fun x hx=>(nomatch (show x∈([]:List Item) from hx)),fun x hx=>(nomatch (show x∈([]:List Deferred) from hx))⟩,fun x hx=>(nomatch (show x∈([]:List Frame) from hx))⟩
theorem nO.push {t t1:Trace} (h:nO t t1) (o:MemOp):nO (t.push o) (t1.push o):=by
 rw [Array.push_eq_append,Array.push_eq_append]
 exact h.append (nO.refl _)
theorem GA.ph (h:GA w0 gs w w1) {i:Nat} (hi:i < gs.size):GA w0 (gs.set i { (default:Goroutine) with status:=.finished } hi) w w1:=by
 have key:∀ x∈gs.set i { (default:Goroutine) with status:=.finished } hi,x={ (default:Goroutine) with status:=.finished }∨x∈gs:=by
  intro x hx
  obtain ⟨j,hj⟩:=Array.mem_iff_getElem?.1 hx
  rw [Array.getElem?_set] at hj
  split at hj
  ·exact .inl (Option.some.inj hj).symm
  ·exact .inr (Array.mem_of_getElem? hj)
 exact ⟨h.alike,h.heap,fun x hx=>(key x hx).elim (fun e=>e ▸ aa2) (h.gi x),fun x hx=>(key x hx).elim (fun e=>by subst e;exact jc.none rfl) (h.off x)⟩
theorem H7 (hP:FP P) (h:GA w0 gs w w1) {i:Nat} (hi:i < gs.size):jX w0 (runT P (crowd gs w sl) i) (runT P (crowd gs w1 sl) i):=by
 have hg:=h.gi _ (Array.getElem_mem hi)
 have hs:=Ov (main:=i == 0) hP hg h.alike.now h.heap
 unfold runT
 dsimp only [crowd]
 rw [swapAt_of_lt hi]
 dsimp only
 have hph:=h.ph hi
 generalize gs.set i { (default:Goroutine) with status:=.finished } hi=gs2 at hph ⊢
 generalize stepG P (i == 0) gs[i] w=s at hs ⊢
 generalize stepG P (i == 0) gs[i] w1=s1 at hs ⊢
 cases hs with
 | lost hb=>exact .lost hb
 | go hg ho ha hw hv =>
  have h2:=hph.step ha hw
  dsimp only
  have er:∀ (b:Bool) (X Y:Rest),(if (b && (none:Option Nat) == some i)=true then X else Y)=Y:=by intro b X Y;cases b <;> rfl
  rw [TS h2,er]
  refine .next (GA.set ?_ hg (jc.none ho)) (nO.ofEvents hv _ _ _)
  split
  ·exact h2.again
  ·exact h2
 | comm hg ho ha hw hv=>exact (Rn (hph.step ha hw) hg).pre (nO.ofEvents hv _ _ _)
 | spawn hg ho hc hco ha hw hv =>
  exact .next (((hph.step ha hw).set hg (jc.none ho)).push hc (jc.none hco)) (((nO.ofEvents hv _ _ _).push _).push _)
 | ended ha hv=>exact .ended ha.any (nO.ofEvents hv _ _ _)
end
section
variable {P:Program} {w0 w w1:World} {gs:Array Goroutine} {sl:Option (Nat × Nat)}
theorem GA.at {d:Nat} (h:GA w0 gs w w1):GA w0 gs (w.at d) (w1.at d) :=
 ⟨h.alike.other rfl rfl h.alike.tape rfl h.alike.os h.alike.output,h.heap,h.gi,fun g hg=>h.off g hg⟩
theorem lZ (q:Question) (h:Alike w0 (fun _=>False) w w1):∃ k d,(choose q).run P w=.ok k (w.at d)∧(choose q).run P w1=.ok k (w1.at d)∧(∀ n,(q=.sched n∨∃ s,q=.extern s n)→0 < n→k < n):=by
 have run:∀ v:World,(choose q).run P v=if q.forced=true then .ok 0 v else .ok (q.cut (v.tape v.drawn q)) { v with drawn:=v.drawn+1 }:=fun _=>rfl
 by_cases hq:q.forced=true
 ·refine ⟨0,w.drawn,?_,?_,fun n _ h=>h⟩
  ·rw [run,if_pos hq]
   rfl
  ·rw [run,if_pos hq,← h.drawn]
   rfl
 ·refine ⟨q.cut (w.tape w.drawn q),w.drawn+1,?_,?_,?_⟩
  ·rw [run,if_neg hq]
   rfl
  ·have e:w1.tape w1.drawn q=w.tape w.drawn q:=by rw [h.tape,h.drawn]
   rw [run,if_neg hq,e,h.drawn]
   rfl
  ·rintro n (rfl | ⟨s,rfl⟩) hn
   ·exact Nat.mod_lt _ hn
   ·show (if n=0 then _ else _) < n
    rw [if_neg (by omega)]
    exact Nat.mod_lt _ hn
theorem GA.os (h:GA w0 gs w w1) (os:Os):GA w0 gs { w with os:=os } { w1 with os:=os } :=
 ⟨h.alike.other rfl rfl h.alike.tape h.alike.drawn rfl h.alike.output,h.heap,h.gi,fun g hg=>h.off g hg⟩
theorem GA.adv (h:GA w0 gs w w1) (t:Nat):GA w0 gs { w with os:=w.os.advanceTo t } { w1 with os:=w1.os.advanceTo t }:=by
 rw [h.alike.os]
 exact h.os _
def FI (P:Program):Move→Stepped × Array MemOp
 | .goroutine m i=>runT P m i
 | .machine s ops=>(s,ops)
theorem RV (h:Alike w0 (fun _=>False) w w1) (t:ByteArray) (o:Outcome):jX w0 (FI P (match endWith w 2 t o with | .ended o w _=>.machine (.ended o w) | _=>.machine (.ended (.stuck "" "") default))) (FI P (match endWith w1 2 t o with | .ended o w _=>.machine (.ended o w) | _=>.machine (.ended (.stuck "" "") default))):=by
 have hew:=yN (n:=2) (t:=t) (o:=o) h
 generalize endWith w 2 t o=s at hew ⊢
 generalize endWith w1 2 t o=s1 at hew ⊢
 cases hew with
 | lost hb=>exact .lost hb
 | ended ha hv=>exact .ended ha (nO.refl _)
 | _=>exact .lost dS
theorem yA (hP:FP P) (h:GA w0 gs w w1):jX w0 (FI P (askOn P (crowd gs w sl))) (FI P (askOn P (crowd gs w1 sl))):=by
 have hd:∀ mono,due #[] mono=[]:=fun _=>rfl
 have hah:∀ b,ahead (crowd gs w1 sl) b=ahead (crowd gs w sl) b:=fun b=>by
  unfold ahead
  dsimp only [crowd]
  rw [h.alike.os]
  rfl
 have hin:∀ i∈runnable gs w.os.mono,i < gs.size:=by
  intro i hi
  have:=mem_runnable.1 hi
  cases hx:gs[i]? with
  | none=>rw [hx] at this;cases this
  | some g=>exact (Array.getElem?_eq_some_iff.1 hx).1
 have hx0:∀ (w:World),(pure 0:Sem Nat).run P w=.ok 0 w:=fun _=>rfl
 have adv:∀ t,jX w0 (.next ((crowd gs w sl).advanceTo t),#[]) (.next ((crowd gs w1 sl).advanceTo t),#[]):=fun t=>by
  unfold Machine.advanceTo
  show jX w0 (.next (crowd gs { w with os:=w.os.advanceTo t } sl),#[]) (.next (crowd gs { w1 with os:=w1.os.advanceTo t } sl),#[])
  rw [h.alike.os]
  exact .next (h.os _) (nO.refl _)
 unfold askOn
 dsimp only
 rw [show (crowd gs w1 sl).world.os=w.os from h.alike.os]
 have e1:(crowd gs w1 sl).world=w1:=rfl
 have e2:(crowd gs w sl).world=w:=rfl
 have e3:(crowd gs w1 sl).gs=gs:=rfl
 have e4:(crowd gs w sl).gs=gs:=rfl
 have e5:(crowd gs w1 sl).rest.timers=#[]:=rfl
 have e6:(crowd gs w sl).rest.timers=#[]:=rfl
 have e7:∀ w:World,({ crowd gs w1 sl with world:=w }:Machine)=crowd gs w sl:=fun _=>rfl
 have e8:∀ v:World,({ crowd gs w sl with world:=v }:Machine)=crowd gs v sl:=fun _=>rfl
 simp only [e1,e2,e3,e4,e5,e6,hd,List.isEmpty_nil,if_true,hx0,List.length_nil,Nat.not_lt_zero,if_false,e7,e8,hah]
 have hah2:∀ b,ahead { world:=w1,gs:=gs,rest:=(crowd gs w1 sl).rest } b=ahead { world:=w,gs:=gs,rest:=(crowd gs w sl).rest } b:=hah
 simp only [hah2]
 generalize hrs:runnable gs w.os.mono=rs at hin ⊢
 cases rs with
 | nil =>
  dsimp only
  cases ahead { world:=w,gs:=gs,rest:=(crowd gs w sl).rest } false with
  | some t=>exact adv t
  | none =>
   dsimp only
   split
   ·exact .next h (nO.refl _)
   ·exact RV h.alike _ _
 | cons r rs =>
  dsimp only
  have pick:∀ {v v1:World},GA w0 gs v v1→∀ k,k < (r :: rs).length→∀ sl,jX w0 (runT P (crowd gs v sl) ((r :: rs).getD k 0)) (runT P (crowd gs v1 sl) ((r :: rs).getD k 0)):=by
   intro v v1 hv k hk sl
   refine H7 hP hv (hin _ ?_)
   rw [List.getD_eq_getElem?_getD,List.getElem?_eq_getElem hk]
   exact List.getElem_mem hk
  cases ahead { world:=w,gs:=gs,rest:=(crowd gs w sl).rest } true with
  | none =>
   dsimp only
   obtain ⟨k,d,c1,c2,hk⟩:=lZ (P:=P) (.sched (r :: rs).length) h.alike
   rw [c1,c2]
   dsimp only
   split
   ·exact pick h.at k (hk _ (.inl rfl) (by simp)) _
   ·obtain ⟨k',d',c1',c2',hk'⟩:=lZ (P:=P) (.extern "sched.slice" 65536) (h.at (d:=d)).alike
    rw [c1',c2']
    exact pick h.at.at k (hk _ (.inl rfl) (by simp)) _
  | some t =>
   dsimp only
   obtain ⟨k0,d0,c10,c20,hk0⟩:=lZ (P:=P) (.extern "clock.wait" (t - w.os.mono+1)) h.alike
   rw [c10,c20]
   have h0:=h.at (d:=d0)
   match k0,hk0 with
   | 0,_ =>
    dsimp only
    obtain ⟨k,d,c1,c2,hk⟩:=lZ (P:=P) (.sched (r :: rs).length) h0.alike
    rw [c1,c2]
    dsimp only
    split
    ·exact pick h0.at k (hk _ (.inl rfl) (by simp)) _
    ·obtain ⟨k',d',c1',c2',hk'⟩:=lZ (P:=P) (.extern "sched.slice" 65536) (h0.at (d:=d)).alike
     rw [c1',c2']
     exact pick h0.at.at k (hk _ (.inl rfl) (by simp)) _
   | 1,_=>exact .next (h0.adv t) (nO.refl _)
   | k0+2,_ =>
    dsimp only
    have h2:=h0.adv (t - (k0+1))
    obtain ⟨k,d,c1,c2,hk⟩:=lZ (P:=P) (.sched (r :: rs).length) h2.alike
    unfold Machine.advanceTo
    dsimp only
    rw [c1,c2]
    dsimp only
    split
    ·exact pick h2.at k (hk _ (.inl rfl) (by simp)) _
    ·obtain ⟨k',d',c1',c2',hk'⟩:=lZ (P:=P) (.extern "sched.slice" 65536) (h2.at (d:=d)).alike
     rw [c1',c2']
     exact pick h2.at.at k (hk _ (.inl rfl) (by simp)) _
end
section
variable {P:Program} {w0 w w1:World} {gs:Array Goroutine} {sl:Option (Nat × Nat)}
theorem Kq (m:Machine):stepT P m=FI P (move P m):=rfl
theorem EX (hP:FP P) (h:GA w0 gs w w1):jX w0 (stepT P (crowd gs w sl)) (stepT P (crowd gs w1 sl)):=by
 rw [Kq,Kq]
 cases sl with
 | none=>exact yA hP h
 | some x =>
  obtain ⟨i,n⟩:=x
  cases n with
  | zero=>exact yA hP h
  | succ n =>
   have e:∀ w,move P (crowd gs w (some (i,n+1)))=if (gs[i]?).any (·.canRun w.os.mono) then .goroutine (crowd gs w (if n=0 then none else some (i,n))) i else askOn P (crowd gs w none):=fun _=>rfl
   rw [e,e,h.alike.os]
   by_cases hc:(gs[i]?).any (·.canRun w.os.mono)=true
   ·rw [if_pos hc,if_pos hc]
    refine H7 hP h ?_
    cases hx:gs[i]? with
    | none=>rw [hx] at hc;cases hc
    | some g=>exact (Array.getElem?_eq_some_iff.1 hx).1
   ·rw [if_neg hc,if_neg hc]
    exact yA hP h
theorem Pg (hP:FP P):∀ (n:Nat) (gs:Array Goroutine) (sl:Option (Nat × Nat)) (w w1:World) (t t1:Trace) (v:Value) (v1:World) (t1':Trace),GA w0 gs w w1→nO t t1 →
  runNT P n (crowd gs w1 sl) t1=(.ended (.done v) v1,t1')→∃ v' t',runNT P n (crowd gs w sl) t=(.ended (.done v) v',t')∧nO t' t1'∧Alike w0 (fun _=>False) v' v1:=by
 intro n
 induction n with
 | zero=>exact fun gs sl w w1 t t1 v v1 t1' _ _ h=>by cases h
 | succ n ih =>
  intro gs sl w w1 t t1 v v1 t1' h ht hr
  have hs:=EX (sl:=sl) hP h
  unfold runNT at hr ⊢
  generalize stepT P (crowd gs w sl)=s at hs ⊢
  generalize stepT P (crowd gs w1 sl)=s1 at hs hr
  cases hs with
  | lost hb =>
   cases hr
   exact (hb v rfl).elim
  | next h' ho=>exact ih _ _ _ _ _ _ v v1 t1' h' (ht.append ho) hr
  | ended ha ho =>
   cases hr
   exact ⟨_,_,rfl,ht.append ho,ha⟩
theorem TL (hP:FP P):∀ (n:Nat) (gs:Array Goroutine) (sl:Option (Nat × Nat)) (w w1:World) (last1:Machine),GA w0 gs w w1 →
  runN P n (crowd gs w1 sl)=.next last1→∃ gs' sl' v v1,last1=crowd gs' v1 sl'∧runN P n (crowd gs w sl)=.next (crowd gs' v sl')∧GA w0 gs' v v1:=by
 intro n
 induction n with
 | zero =>
  intro gs sl w w1 last1 h hr
  cases hr
  exact ⟨gs,sl,w,w1,rfl,rfl,h⟩
 | succ n ih =>
  intro gs sl w w1 last1 h hr
  have hs:=EX (sl:=sl) hP h
  unfold runN step at hr ⊢
  generalize stepT P (crowd gs w sl)=s at hs ⊢
  generalize stepT P (crowd gs w1 sl)=s1 at hs hr
  cases hs with
  | lost hb=>cases hr
  | next h' ho=>exact ih _ _ _ _ last1 h' hr
  | ended ha ho=>cases hr
variable {t t1:Trace}
theorem nO.at (h:nO t t1) (i:Nat):(t[i]? = none∧t1[i]? = none)∨∃ o o1,t[i]? = some o∧t1[i]? = some o1∧OpA o o1:=by
 by_cases hi:i < t.size
 ·have e:t[i]? = some t[i]:=by simp [hi]
  have e1:t1[i]? = some (t1[i]'(by rw [h.1];exact hi)):=by simp [h.1,hi]
  exact .inr ⟨_,_,e,e1,h.2 i _ _ e e1⟩
 ·exact .inl ⟨Array.getElem?_eq_none (by omega),Array.getElem?_eq_none (by rw [h.1];omega)⟩
theorem nO.g (h:nO t t1) (i:Nat):t1.g? i=t.g? i:=by
 unfold Trace.g?
 rcases h.at i with ⟨e,e1⟩ | ⟨o,o1,e,e1,hg,_⟩
 ·rw [e,e1]
 ·rw [e,e1]
  simp [hg]
def Xl:MemAct→Bool
 | .access ⟨.obj _,false,_⟩=>true
 | _=>false
theorem nO.act (h:nO t t1) {i:Nat} {a:MemAct} (ha:Xl a=false):t1.act? i=some a↔t.act? i=some a:=by
 unfold Trace.act?
 rcases h.at i with ⟨e,e1⟩ | ⟨o,o1,e,e1,_,hx⟩
 ·rw [e,e1]
 ·rw [e,e1]
  simp only [Option.map_some,Option.some.injEq]
  rcases hx with hx | ⟨r,s,h1,h2⟩
  ·rw [hx]
  ·rw [h1,h2]
   constructor
   ·rintro rfl
    cases ha
   ·rintro rfl
    cases ha
theorem nO.deaf (h:nO t t1) (g:Nat):∀ i,t1.deaf g i=t.deaf g i
 | 0=>rfl
 | i+1=>by
  have ih:=nO.deaf h g i
  unfold Trace.deaf
  rcases h.at i with ⟨e,e1⟩ | ⟨o,o1,e,e1,hg,hx⟩
  ·rw [e,e1]
   exact ih
  ·rw [e,e1,ih]
   obtain ⟨g0,f0,p0,a0⟩:=o
   obtain ⟨g1,f1,p1,a1⟩:=o1
   dsimp only at hg hx
   subst hg
   rcases hx with rfl | ⟨r,s,rfl,rfl⟩
   ·cases a1 <;> first | rfl | (rename_i m;cases m <;> rfl)
   ·rfl
theorem nO.heard (h:nO t t1) (i:Nat):t1.heard i↔t.heard i:=by
 unfold Trace.heard
 simp only [h.g,h.deaf]
theorem nO.notices (h:nO t t1) {i j:Nat} (x:Notices t1 i j):Notices t i j:=by
 cases x with
 | atomic hij a b c=>exact .atomic hij ((h.act rfl).1 a) ((h.act rfl).1 b) fun k s h1 h2 h3=>c k s h1 h2 ((h.act rfl).2 h3)
 | spawn a b c=>exact .spawn ((h.act rfl).1 a) ((h.act rfl).1 b) (by rw [← h.g];exact c)
 | handOver a b=>exact .handOver ((h.act rfl).1 a) ((h.act rfl).1 b)
 | room a b=>exact .room ((h.act rfl).1 a) ((h.act rfl).1 b)
 | closed a b=>exact .closed ((h.act rfl).1 a) ((h.act rfl).1 b)
 | marked hij a b c=>exact .marked hij (a.elim (fun a=>.inl ((h.act rfl).1 a)) fun a=>.inr ((h.act rfl).1 a)) ((h.act rfl).1 b) fun k h1 h2 h3=>c k h1 h2 ((h.act rfl).2 h3)
theorem nO.hb (h:nO t t1) {i j:Nat} (x:HappensBefore t1 i j):HappensBefore t i j:=by
 unfold HappensBefore at x ⊢
 have one:∀ {i j},(ProgramOrder t1 i j∨(Notices t1 i j∧t1.heard i∧t1.heard j))→(ProgramOrder t i j∨(Notices t i j∧t.heard i∧t.heard j)):=by
  intro i j x
  rcases x with ⟨hij,g,a,b⟩ | ⟨a,b,c⟩
  ·exact .inl ⟨hij,g,by rw [← h.g];exact a,by rw [← h.g];exact b⟩
  ·exact .inr ⟨h.notices a,(h.heard i).1 b,(h.heard j).1 c⟩
 induction x with
 | single a=>exact .single (one a)
 | tail _ a ih=>exact .tail ih (one a)
theorem nO.touch (h:nO t t1) {i:Nat} {x:Touch} (hx:(t.act? i).bind (·.touch?)=some x):∃ y,(t1.act? i).bind (·.touch?)=some y∧y.loc=x.loc∧y.write=x.write∧(x.kind=.plain→y.kind=.plain)∧(x.kind=.said→y.kind=.said):=by
 unfold Trace.act? at hx ⊢
 rcases h.at i with ⟨e,e1⟩ | ⟨o,o1,e,e1,_,ha⟩
 ·rw [e] at hx
  cases hx
 ·rw [e] at hx
  rw [e1]
  rcases ha with ha | ⟨r,s,h1,h2⟩
  ·simp only [Option.map_some,Option.bind_some] at hx ⊢
   rw [ha,hx]
   exact ⟨x,rfl,rfl,rfl,id,id⟩
  ·simp only [Option.map_some,Option.bind_some] at hx ⊢
   rw [h1] at hx
   rw [h2]
   cases hx
   exact ⟨_,rfl,rfl,rfl,fun _=>rfl,fun h=>by cases s <;> cases h⟩
theorem nO.race (h:nO t t1) {said:Bool} (x:Race said t):Race said t1:=by
 obtain ⟨i,j,hij,⟨a,b,ha,hb,hc⟩,n1,n2⟩:=x
 obtain ⟨a',ha',l1,w1,p1,s1⟩:=h.touch ha
 obtain ⟨b',hb',l2,w2,p2,s2⟩:=h.touch hb
 obtain ⟨c1,c2,c3,c4⟩:=hc
 refine ⟨i,j,hij,⟨a',b',ha',hb',by rw [l1,l2];exact c1,by rw [l1];exact c2,by rw [w1,w2];exact c3,?_⟩,fun h'=>n1 (h.hb h'),fun h'=>n2 (h.hb h')⟩
 rcases c4 with c | c | ⟨c,d,e⟩
 ·exact .inl (p1 c)
 ·exact .inr (.inl (p2 c))
 ·exact .inr (.inr ⟨c,s1 d,s2 e⟩)
theorem nO.over (h:nO t t1) (x:t1.HandedOver):t.HandedOver:=by
 intro i g hg h0 ⟨a,ha,hm,hk⟩
 obtain ⟨b,hb,l,_,p,s⟩:=h.touch ha
 obtain ⟨j,hj,hh⟩:=x i g (by rw [h.g];exact hg) h0 ⟨b,hb,by rw [l];exact hm,by
  rcases hk with hk | hk
  ·refine .inl ?_
   cases hka:a.kind with
   | plain=>rw [p hka];simp
   | said=>rw [s hka];simp
   | atomic=>exact (hk hka).elim
  ·exact .inr ((h.heard i).2 hk)⟩
 exact ⟨j,by rw [← h.g];exact hj,h.hb hh⟩
theorem vP:∀ (n:Nat) (g:Goroutine) (k d:Nat) (w w1:World),g.LeavesIn P k→g.endsWith P w n d=g.endsWith P w1 n d
 | 0,g,k,d,w,w1,_=>rfl
 | n+1,g,k,d,w,w1,h=>by
  unfold Goroutine.endsWith
  cases hs:g.status <;> first
   | rfl
   | (dsimp only
      cases k with
      | zero=>exact absurd ((h:g.status=.finished).symm.trans hs) (by simp)
      | succ k =>
       rcases h with h | ⟨g',⟨h1,es,_,h2⟩,h3⟩
       ·rw [hs] at h;cases h
       ·rw [h2 w,h2 w1]
        exact vP n g' k _ w w1 h3)
theorem HY:∀ (N:Nat) (m last:Machine),runN P N m=.next last→runN P (N+1) m=step P last
 | 0,m,last,h=>by
  cases h
  show (match step P m with | .next m=>runN P 0 m | e=>e)=step P m
  cases step P m <;> rfl
 | N+1,m,last,h=>by
  unfold runN at h ⊢
  cases hs:step P m with
  | next m' =>
   rw [hs] at h
   exact HY N m' last h
  | ended o w=>rw [hs] at h;cases h
theorem S9 {f:FuncId} {args:Array Value} {Post Post':Value→World→Prop} (hP:FP P) (ha:Alike w0 (fun _=>False) w w1) (hw:ay OC w1)
  (hpost:∀ v v' v1,Alike w0 (fun _=>False) v' v1→Post v v1→Post' v v')
  (h:∃ N last o w' t',runNT P (N+1) (solo (G (Frame.enter P f args .normal) []) w1) #[]=(.ended o w',t')∧runN P N (solo (G (Frame.enter P f args .normal) []) w1)=.next last∧step P last=.ended o w'∧Conc.Good P Post last o w' t') :
  ∃ N last o w' t',runNT P (N+1) (solo (G (Frame.enter P f args .normal) []) w) #[]=(.ended o w',t')∧runN P N (solo (G (Frame.enter P f args .normal) []) w)=.next last∧step P last=.ended o w'∧Conc.Good P Post' last o w' t':=by
 obtain ⟨N,last1,o,v1,t1',h1,h2,h3,v,rfl,hp,hr,ho,hl,he⟩:=h
 have hga:GA w0 #[G (Frame.enter P f args .normal) []] w w1:=by
  refine ⟨ha,hw,fun g hg=>?_,fun g hg=>?_⟩
  ·have:g=G (Frame.enter P f args .normal) []:=by simpa using hg
   subst this
   exact ⟨qZ hP _ _ _,fun _ h=>nomatch h⟩
  ·have:g=G (Frame.enter P f args .normal) []:=by simpa using hg
   subst this
   exact jc.none rfl
 obtain ⟨v',t',k1,k2,k3⟩:=Pg hP (N+1) _ none w w1 #[] #[] v v1 t1' hga (nO.refl _) h1
 obtain ⟨gs',sl',u,u1,rfl,k4,k5⟩:=TL hP N _ none w w1 last1 hga h2
 refine ⟨N,crowd gs' u sl',.done v,v',t',k1,k4,?_,v,rfl,hpost _ _ _ k3 hp,fun said hx=>hr said (k2.race hx),k2.over ho,hl,?_⟩
 ·rw [← HY N _ _ k4,← runNT_fst P (N+1) _ #[],k1]
 ·intro i g hi h0
  obtain ⟨n,hn⟩:=he i g hi h0
  have hlv:g.Leaves P:=hl.1 g (by
   show g∈gs'.toList.drop 1
   have:gs'.toList[i]? = some g:=by simpa [crowd] using hi
   rw [List.mem_iff_getElem?]
   exact ⟨i - 1,by rw [List.getElem?_drop,show 1+(i - 1)=i from by omega];exact this⟩)
  obtain ⟨k,hk⟩:=hlv
  refine ⟨n,?_⟩
  rw [← k2.deaf,← k2.1]
  rw [← hn]
  exact vP n g k _ _ _ hk
end
end Go.Tm
namespace Go.Proofs.YtjjmefieegcddaaDoor
open Go Go.Tm Go.Extern
theorem RH:(Tryd.prog.funcs.toList.all fun fn=>!fn.norace)=true:=by kernel_rfl
theorem Uh:((List.range 230).all fun t=>t == 173 || match Tryd.prog.underlying t with | some .unsafePointer=>false | _=>true)=true:=by kernel_rfl
theorem aaq:FP Tryd.prog where
 shy:=Ur
 code:=by
  intro f fn c hf hc
  have hmem:fn∈Tryd.prog.funcs.toList:=by
   rw [Array.mem_toList_iff]
   exact Array.mem_of_getElem? hf
  have:=List.all_eq_true.1 Qj fn hmem
  rw [hc] at this
  exact this
 norace:=by
  intro f
  cases hf:Tryd.prog.funcs[f]? with
  | none=>rfl
  | some fn =>
   have hmem:fn∈Tryd.prog.funcs.toList:=by
    rw [Array.mem_toList_iff]
    exact Array.mem_of_getElem? hf
   have:=List.all_eq_true.1 RH fn hmem
   simpa using this
 safe:=by
  intro t ht hu
  unfold o9 at ht
  simp only [Bool.and_eq_true,decide_eq_true_eq,bne_iff_ne] at ht
  have:=List.all_eq_true.1 Uh t (List.mem_range.2 ht.1)
  rw [hu] at this
  simp only [Bool.or_false,beq_iff_eq] at this
  exact ht.2 this
end Go.Proofs.YtjjmefieegcddaaDoor
namespace Go.Wg
open Go
def ANY:Nat:=2199023255551
def qW (lo hi:Nat):Nat:=2 ^ (hi+1) - 2 ^ lo
def dO (lo hi:Int):Nat :=
 if hi < 0∨hi < lo then 0 else if 40 < lo then 0 else qW lo.toNat (min hi 40).toNat
def rQ (m v:Nat) (out n:Nat):Nat:=if m.testBit n then out ||| (v * 2 ^ n) % 18446744073709551616 else out
def gZ (m v k:Nat):Nat:=(List.range k).foldl (rQ m v) 0
def nV (m v:Nat):Nat:=gZ m v 41 &&& ANY
theorem qA (m v k:Nat):gZ m v (k+1)=rQ m v (gZ m v k) k:=by
 unfold gZ
 rw [List.range_succ,List.foldl_append]
 rfl
theorem wrap_u64 (n:Int) (h0:0≤n) (h1:n < 18446744073709551616):IntKind.u64.wrap n=n:=by
 unfold IntKind.wrap IntKind.bits
 simp [IntKind.signed]
 omega
theorem rJ (a b:Nat) (ha:a < 18446744073709551616) (hb:b < 18446744073709551616):bits .and .u64 (a:Int) (b:Int)=((a &&& b:Nat):Int):=by
 unfold bits
 dsimp only
 have h:(BitVec.ofInt IntKind.u64.bits (a:Int) &&& BitVec.ofInt IntKind.u64.bits (b:Int)).toNat=a &&& b:=by
  rw [BitVec.toNat_and,BitVec.ofInt_natCast,BitVec.ofInt_natCast,BitVec.toNat_ofNat,BitVec.toNat_ofNat]
  show a % 18446744073709551616 &&& b % 18446744073709551616=_
  rw [Nat.mod_eq_of_lt ha,Nat.mod_eq_of_lt hb]
 rw [h]
 apply wrap_u64
 ·omega
 ·have:=Nat.and_le_left (n:=a) (m:=b);omega
theorem Jw (a b:Nat) (ha:a < 18446744073709551616) (hb:b < 18446744073709551616):bits .or .u64 (a:Int) (b:Int)=((a ||| b:Nat):Int):=by
 unfold bits
 dsimp only
 have h:(BitVec.ofInt IntKind.u64.bits (a:Int) ||| BitVec.ofInt IntKind.u64.bits (b:Int)).toNat=a ||| b:=by
  rw [BitVec.toNat_or,BitVec.ofInt_natCast,BitVec.ofInt_natCast,BitVec.toNat_ofNat,BitVec.toNat_ofNat]
  show a % 18446744073709551616 ||| b % 18446744073709551616=_
  rw [Nat.mod_eq_of_lt ha,Nat.mod_eq_of_lt hb]
 rw [h]
 apply wrap_u64
 ·omega
 ·have:a ||| b < 2 ^ 64:=Nat.or_lt_two_pow (by omega) (by omega)
  omega
theorem UU (m n:Nat) (hm:m < 18446744073709551616):(bits .and .u64 ((m:Int) / 2 ^ n) 1 == 1)=m.testBit n:=by
 have e:((m:Int) / 2 ^ n)=((m / 2 ^ n:Nat):Int):=by
  rw [Int.natCast_ediv];simp
 have h1:m / 2 ^ n < 18446744073709551616:=Nat.lt_of_le_of_lt (Nat.div_le_self _ _) hm
 have h2:=rJ (m / 2 ^ n) 1 h1 (by omega)
 rw [e,show (1:Int)=((1:Nat):Int) from rfl,h2]
 rw [Nat.testBit,Nat.shiftRight_eq_div_pow,Nat.and_comm]
 rcases Nat.mod_two_eq_zero_or_one (m / 2 ^ n) with h | h <;> simp [Nat.and_one_is_mod,h]
theorem UK:((List.range 41).all fun lo=>(List.range 41).all fun hi=>decide (hi < lo) || (bits .and .u64 (IntKind.u64.wrap (2199023255551 / 2 ^ lo * 2 ^ lo)) (2199023255551 / 2 ^ (40 - hi)) == ((qW lo hi:Nat):Int)))=true:=by kernel_rfl
theorem wK (lo hi:Nat) (h:lo≤hi) (h1:hi≤40):bits .and .u64 (IntKind.u64.wrap (2199023255551 / 2 ^ lo * 2 ^ lo)) (2199023255551 / 2 ^ (40 - hi))=((qW lo hi:Nat):Int):=by
 have:=List.all_eq_true.1 (List.all_eq_true.1 UK lo (List.mem_range.2 (by omega))) hi (List.mem_range.2 (by omega))
 simp only [Bool.or_eq_true,decide_eq_true_eq,beq_iff_eq] at this
 rcases this with h2 | h2
 ·omega
 ·exact h2
theorem Ut (lo hi:Nat) (h1:hi≤40):qW lo hi < 2199023255552:=by
 unfold qW
 have h2:2 ^ (hi+1)≤2 ^ 41:=Nat.pow_le_pow_right (by omega) (by omega)
 have h3:0 < 2 ^ lo:=Nat.pow_pos (by omega)
 have h4:(2:Nat) ^ 41=2199023255552:=by decide
 omega
theorem rG (lo hi:Int):dO lo hi < 2199023255552:=by
 unfold dO
 split
 ·decide
 ·split
  ·decide
  ·exact Ut _ _ (by omega)
theorem Ii (m v k:Nat):gZ m v k < 18446744073709551616:=by
 induction k with
 | zero=>exact (by decide:(0:Nat) < 18446744073709551616)
 | succ k ih =>
  rw [qA]
  unfold rQ
  split
  ·have:gZ m v k ||| v * 2 ^ k % 18446744073709551616 < 2 ^ 64:=Nat.or_lt_two_pow (by omega) (Nat.mod_lt _ (by decide))
   omega
  ·exact ih
theorem JX (m v:Nat):nV m v < 2199023255552:=by
 unfold nV
 have:=Nat.and_le_right (n:=gZ m v 41) (m:=ANY)
 have h:ANY=2199023255551:=rfl
 omega
theorem Fh (v n:Nat):IntKind.u64.wrap ((v:Int) * 2 ^ n)=(((v * 2 ^ n) % 18446744073709551616:Nat):Int):=by
 unfold IntKind.wrap IntKind.bits
 simp [IntKind.signed]
end Go.Wg
namespace Go
section
variable {P:Program} {ops:Array Oper} {md:Region.Mode} {C:World→Prop}
def yX (P:Program) (md:Region.Mode) (ops:Array Oper) (C:World→Prop) (n:Nat) (L:Array Bool→Act→Prop):Nat→Array Bool→Act→Prop
 | 0,listed,a=>L listed a
 | f+1,listed,a =>
  Region.ready md ops listed≠[]∧∀ i∈Region.ready md ops listed,i < n∧qOp P ops C i (yX P md ops C n L f (listed.setIfInBounds i true)) a
theorem vF {n g:Nat} {L:Array Bool→Act→Prop} {Q':Exit→Act→World→Prop} (hL:∀ listed a w,C w→L listed a→wpAny P md ops Q' g listed a w) :
  ∀ (f:Nat) (listed:Array Bool) (a:Act) (w:World),C w→yX P md ops C n L f listed a→wpAny P md ops Q' (f+g) listed a w
 | 0,listed,a,w,hw,h=>by rw [Nat.zero_add];exact hL _ _ _ hw h
 | f+1,listed,a,w,hw,h=>by
  rw [show f+1+g=(f+g)+1 by omega]
  exact ⟨fun h0=>absurd h0 h.1,fun i hi=>wpOp_of_qOp hw (fun a' w' hw' h'=>vF hL f _ a' w' hw' h') (h.2 i hi).2⟩
theorem FW {n i:Nat} {oi:Oper} {v:Value} {L:Array Bool→Act→Prop} (hi:ops[i]? = some oi) (hsel:∀ (j:Nat) (o:Oper) cs b,ops[j]? = some o→o.op≠.select cs b)
  (hs:Region.sinkB md ops n=true) (hc:Region.chainB md ops n=true) (hn:n < ops.size) (hin:i < n)
  (hdone:∀ listed a,L listed a→∀ j∈Region.ready md ops listed,n≤j) :
  ∀ (f:Nat) (listed:Array Bool) (a:Act),HeadInv md ops n listed →
   (∀ j oj,ops[j]? = some oj→j≠i→listed.getD j true=false→(∀ e∈oj.after,Region.binds md e=true→e.on≠i)→oi.apart ops oj=true) →
   i∈Region.ready md ops listed→YieldsIn P ops C oi v a →
   yX P md ops C n L f (listed.setIfInBounds i true) (a.put oi.dst v)→yX P md ops C n L (f+1) listed a:=by
 intro f
 induction f with
 | zero =>
  intro listed a inv _ hr hy H
  have hun:=(mem_ready.1 hr).1
  refine ⟨fun h=>(by rw [h] at hr;cases hr),fun j hj=>?_⟩
  have hjn:j < n:=by
   rcases Nat.lt_or_ge j n with h | h
   ·exact h
   ·exact absurd hj (tail_waits hs hc hn inv _ i rfl hin hun j h)
  refine ⟨hjn,?_⟩
  by_cases hji:j=i
  ·subst hji;exact hy.qOp hi H
  ·have:=hdone _ _ H j (ready_mono hj hji)
   omega
 | succ f ih =>
  intro listed a inv hfree hr hy H
  have hun:=(mem_ready.1 hr).1
  refine ⟨fun h=>(by rw [h] at hr;cases hr),fun j hj=>?_⟩
  have hjn:j < n:=by
   rcases Nat.lt_or_ge j n with h | h
   ·exact h
   ·exact absurd hj (tail_waits hs hc hn inv _ i rfl hin hun j h)
  refine ⟨hjn,?_⟩
  by_cases hji:j=i
  ·subst hji;exact hy.qOp hi H
  ·have h1:=(H.2 j (ready_mono hj hji)).2
   obtain ⟨hjun,oj,hoj,hall⟩:=mem_ready.1 hj
   have hnot:∀ e∈oj.after,Region.binds md e=true→e.on≠i:=fun e he hb heq=>by
    have h1:=hall e he hb
    rw [heq,getD_both hun] at h1
    cases h1
   have h2:=qOp_put hoj (hfree j oj hoj hji hjun hnot) (fun cs b=>hsel i oi cs b hi) (fun cs b=>hsel j oj cs b hoj) hy h1
   have hfree':∀ k ok,ops[k]? = some ok→k≠i→(listed.setIfInBounds j true).getD k true=false →
     (∀ e∈ok.after,Region.binds md e=true→e.on≠i)→oi.apart ops ok=true:=fun k ok hk hki hun hno=>by
    refine hfree k ok hk hki ?_ hno
    by_cases hjk:j=k
    ·subst hjk;exact hjun
    ·rw [getD_set_ne true hjk] at hun;exact hun
   refine qOp_mono (fun a' h3=>ih (listed.setIfInBounds j true) a' (inv.set hj hjn) hfree' (ready_mono hr (Ne.symm hji)) h3.1 ?_) h2
   rw [Array.setIfInBounds_comm _ _ hji]
   exact h3.2
theorem BJ {n g:Nat} {Lq:Act→Prop} (hsel:Region.noSelect ops=true) (hs:Region.sinkB md ops n=true) (hc:Region.chainB md ops n=true) (hn:n < ops.size) :
  ∀ (l:List Oper) (k:Nat) (listed:Array Bool) (a:Act),(∀ j,j < l.length→l[j]? = ops[k+j]?)→k+l.length=n→HeadInv md ops n listed →
  Region.lexHead md ops g l.length k listed=true→wpQuiet P ops C Lq l a →
  yX P md ops C n (fun listed' a'=>Region.seqB md ops g n listed'=true∧Lq a') l.length listed a
 | [],k,listed,a,_,hk,_,hB,h=>by
  have:k=n:=by simpa using hk
  subst this
  exact ⟨by simpa [Region.lexHead] using hB,h⟩
 | o :: l,k,listed,a,hl,hk,inv,hB,h=>by
  have h0:ops[k]? = some o:=by simpa using (hl 0 (by simp)).symm
  simp only [List.length_cons,Region.lexHead,Bool.and_eq_true] at hB
  obtain ⟨⟨hr,hf⟩,hB'⟩:=hB
  have hkn:k < n:=by simp only [List.length_cons] at hk;omega
  have hr':k∈Region.ready md ops listed:=by simpa using hr
  have hst:qOp P ops C k (wpQuiet P ops C Lq l) a:=by unfold qOp;simp only [h0];exact h
  obtain ⟨v,hy,hK⟩:=yieldsIn_of_qOp h0 hst
  exact FW h0 (Region.noSelect_spec hsel) hs hc hn hkn (fun listed' a' hL=>seqB_ready hL.1) l.length listed a inv (Region.free_spec h0 hf) hr' hy
   (BJ hsel hs hc hn l (k+1) _ _ (fun j hj=>by have:=hl (j+1) (by simp;omega);simpa [Nat.add_assoc,Nat.add_comm 1 j] using this) (by simp only [List.length_cons] at hk;omega) (inv.set hr' hkn) hB' hK)
theorem aY {id:Nat} {Q:Exit→Act→World→Prop} {a:Act} {w:World} {l:List Oper} (n:Nat) (hm:P.follows .mixedOrders=true) (hB:Region.lexTailB .any l.toArray n=true)
  (hC:C { w with drawn:=w.drawn+1 })
  (h:wpQuiet P l.toArray C (fun a'=>∀ w',C w'→wpList P l.toArray Q (l.drop n) a' w') (l.take n) a):(Code.region id l.toArray true).wp P Q a w:=by
 simp only [Region.lexTailB,Bool.and_eq_true,decide_eq_true_eq] at hB
 obtain ⟨⟨⟨⟨hsel,hn⟩,hs⟩,hc⟩,hlex⟩:=hB
 have hn':n < l.length:=by simpa using hn
 have htl:(l.take n).length=n:=by simp;omega
 have hdl:(l.drop n).length=l.toArray.size - n:=by simp
 have inv0:HeadInv .any l.toArray n (Array.replicate l.toArray.size false) :=
  ⟨by simp,fun j oj _ hl=>(by rw [getD_replicate_false] at hl;cases hl),fun t _ ht=>getD_in (by simpa using ht) (getD_replicate_false _ _)⟩
 have H:=BJ (md:=.any) (C:=C) (g:=l.toArray.size - n) hsel hs hc hn (l.take n) 0 _ a (fun j hj=>by
  have hj':j < n:=by rw [htl] at hj;exact hj
  simp [hj']) (by simpa using htl) inv0 (by rw [htl];exact hlex) h
 refine wp_region_any hm ?_
 have:=vF (Q':=Q) (C:=C) (g:=l.toArray.size - n) (fun listed a' w' hw' hL=>by
  have:=wpAny_of_seq (md:=.any) (Q':=Q) (l.drop n) n listed a' w' (fun j=>by simp [List.getElem?_drop]) (by rw [hdl];exact hL.1) (hL.2 _ hw')
  rwa [hdl] at this) _ _ _ _ hC H
 rw [htl,show n+(l.toArray.size - n)=l.toArray.size by omega] at this
 exact this
end
end Go
namespace Go.Mm
open Go
abbrev View:=Nat→Option Obj
def View.In (V:View) (w:World):Prop:=∀ k o,V k=some o→w.heap[k]? = some o
def View.Cell (V:View) (b i:Nat) (v:Value):Prop:=∃ cs t fr,V b=some (.cells cs t fr)∧cs[i]? = some v
def View.Range (V:View) (b i:Nat) (vs:List Value):Prop:=∀ j v,vs[j]? = some v→V.Cell b (i+j) v
theorem View.Cell.cell {V:View} {w:World} {b i:Nat} {v:Value} (h:V.Cell b i v) (hV:V.In w):w.cell? ⟨b,i,none⟩=some v:=by
 obtain ⟨cs,t,fr,h1,h2⟩:=h
 rw [cell_of_row w b i cs t fr (hV _ _ h1)];exact h2
theorem View.Range.range {V:View} {w:World} {b i:Nat} {vs:List Value} (h:V.Range b i vs) (hV:V.In w):w.rangeAt b i vs:=fun j v hj=>(h j v hj).cell hV
theorem View.Cell.mono {V V':View} {b i:Nat} {v:Value} (h:V.Cell b i v) (hV:∀ k o,V k=some o→V' k=some o):V'.Cell b i v:=by
 obtain ⟨cs,t,fr,h1,h2⟩:=h
 exact ⟨cs,t,fr,hV _ _ h1,h2⟩
theorem View.Range.mono {V V':View} {b i:Nat} {vs:List Value} (h:V.Range b i vs) (hV:∀ k o,V k=some o→V' k=some o):V'.Range b i vs:=fun j v hj=>(h j v hj).mono hV
inductive dF where
 | blk (b:Nat) (t:TypeId) (cs:List Value)
 | row (v:Value) (t:TypeId) (size n:Nat) (xs:List Value)
def dF.foot:dF→Option Nat
 | .blk b _ _=>some b
 | .row v _ _ _ _=>v.ownBlock
def iL:Value→Bool
 | .int _ _ | .bool _ | .pointer none | .slice none _ _=>true
 | _=>false
def DR (w:World) (v:Value) (k:Nat):Prop:=∀ g,v.ownBlock=some g→∀ cur t fr,w.heap[g]? = some (.cells cur t fr)→∀ i c,k≤i→cur[i]? = some c→iL c=true
def dF.Holds (w:World):dF→Prop
 | .blk b t cs=>w.heap[b]? = some (.cells cs.toArray t (0,0))
 | .row v t s n xs=>w.ownsRow 0 t s v n xs∧DR w v (n * s)
structure St (w0:World) (X:List Nat) (V:View) (L:List dF) (w:World):Prop where
 os:w.os=w0.os
 output:w.output=w0.output
 size:w0.heap.size≤w.heap.size
 old:∀ k,k < w0.heap.size→k ∉ X→w.heap[k]? = w0.heap[k]?
 view:V.In w
 has:∀ e∈L,e.Holds w
 new:∀ e∈L,∀ b,e.foot=some b→w0.heap.size≤b∨b∈X
 off:∀ e∈L,∀ b,e.foot=some b→V b=none
 nd:(L.filterMap dF.foot).Nodup
structure Kp (w w':World):Prop where
 os:w'.os=w.os
 output:w'.output=w.output
 size:w.heap.size≤w'.heap.size
 old:∀ k,k < w.heap.size→w'.heap[k]? = w.heap[k]?
theorem Kp.refl (w:World):Kp w w:=⟨rfl,rfl,Nat.le_refl _,fun _ _=>rfl⟩
theorem Kp.drew (w:World) (n:Nat):Kp w (w.drewN n):=⟨rfl,rfl,Nat.le_refl _,fun _ _=>rfl⟩
theorem Kp.trans {a b c:World} (h:Kp a b) (k:Kp b c):Kp a c :=
 ⟨k.os.trans h.os,k.output.trans h.output,Nat.le_trans h.size k.size,fun i hi=>(k.old i (Nat.lt_of_lt_of_le hi h.size)).trans (h.old i hi)⟩
theorem lt_of_heap {w:World} {k:Nat} {o:Obj} (h:w.heap[k]? = some o):k < w.heap.size:=by
 rcases Nat.lt_or_ge k w.heap.size with h1 | h1
 ·exact h1
 ·rw [Array.getElem?_eq_none h1] at h;cases h
theorem View.In.kp {V:View} {w w':World} (h:V.In w) (k:Kp w w'):V.In w':=fun i o hi=>by
 have:=h i o hi
 rw [k.old i (lt_of_heap this)];exact this
theorem Ci {w w':World} {e:TypeId} {s n:Nat} {v:Value} {xs:List Value} (h:w.ownsRow 0 e s v n xs) (hb:∀ g,v.ownBlock=some g→w'.heap[g]? = w.heap[g]?):w'.ownsRow 0 e s v n xs:=by
 obtain ⟨h1,h2⟩:=h
 refine ⟨h1,?_⟩
 rcases h2 with h2 | ⟨g,cap,cur,rfl,h3,h4,h5⟩
 ·exact .inl h2
 ·exact .inr ⟨g,cap,cur,rfl,h3,by rw [hb g rfl];exact h4,h5⟩
theorem dF.Holds.of_heap {w w':World} {e:dF} (h:e.Holds w) (hb:∀ g,e.foot=some g→w'.heap[g]? = w.heap[g]?):e.Holds w':=by
 cases e with
 | blk b t cs=>exact (hb b rfl).trans h
 | row v t s n xs=>exact ⟨Ci h.1 hb,fun g hg cur t fr hc=>h.2 g hg cur t fr (by rw [← hb g hg];exact hc)⟩
theorem dF.Holds.lt {w:World} {e:dF} (h:e.Holds w) {g:Nat} (hg:e.foot=some g):g < w.heap.size:=by
 cases e with
 | blk b t cs=>cases hg;exact lt_of_heap h
 | row v t s n xs=>exact (World.ownsRow.lt h.1 g hg).2
variable {w0:World} {X:List Nat} {V:View} {L:List dF} {w w':World}
theorem St.start (w:World) (V:View) (hV:V.In w):St w [] V [] w :=
 ⟨rfl,rfl,Nat.le_refl _,fun _ _ _=>rfl,hV,by simp,by simp,by simp,by simp⟩
theorem St.kp (h:St w0 X V L w) (k:Kp w w'):St w0 X V L w' :=
 ⟨k.os.trans h.os,k.output.trans h.output,Nat.le_trans h.size k.size,fun i hi hx=>(k.old i (Nat.lt_of_lt_of_le hi h.size)).trans (h.old i hi hx),
  h.view.kp k,fun e he=>(h.has e he).of_heap (fun g hg=>k.old g ((h.has e he).lt hg)),h.new,h.off,h.nd⟩
theorem St.drew (h:St w0 X V L w) (n:Nat):St w0 X V L (w.drewN n):=h.kp (Kp.drew w n)
theorem St.bM (h:St w0 [] V L w):Kp w0 w:=⟨h.os,h.output,h.size,fun k hk=>h.old k hk (by simp)⟩
theorem vN {e:dF} {b:Nat} (he:e∈L) (hf:e.foot=some b):b∈L.filterMap dF.foot:=List.mem_filterMap.2 ⟨e,he,hf⟩
theorem St.alloc (h:St w0 X V L w) (t:TypeId) (cs:List Value):St w0 X V (.blk w.heap.size t cs :: L) (w.alloc (.cells cs.toArray t)):=by
 have hold:∀ k,k < w.heap.size→(w.alloc (.cells cs.toArray t)).heap[k]? = w.heap[k]?:=fun k hk=>heap_alloc_old w _ hk
 have hlt:∀ e∈L,∀ b,e.foot=some b→b < w.heap.size:=fun e he b hb=>(h.has e he).lt hb
 refine ⟨h.os,h.output,?_,fun k hk hx=>(hold k (Nat.lt_of_lt_of_le hk h.size)).trans (h.old k hk hx),fun k o hk=>?_,?_,?_,?_,?_⟩
 ·have:=h.size
  show _≤(w.heap.push _).size
  simp;omega
 ·have:=h.view k o hk
  rw [hold k (lt_of_heap this)];exact this
 ·intro e he
  rcases List.mem_cons.1 he with rfl | he
  ·exact heap_alloc_new w _
  ·exact (h.has e he).of_heap (fun g hg=>hold g (hlt e he g hg))
 ·intro e he b hb
  rcases List.mem_cons.1 he with rfl | he
  ·cases hb;exact .inl h.size
  ·exact h.new e he b hb
 ·intro e he b hb
  rcases List.mem_cons.1 he with rfl | he
  ·cases hb
   cases hv:V w.heap.size with
   | none=>rfl
   | some o=>exact absurd (lt_of_heap (h.view _ _ hv)) (Nat.lt_irrefl _)
  ·exact h.off e he b hb
 ·show (List.filterMap dF.foot (dF.blk w.heap.size t cs :: L)).Nodup
  rw [List.filterMap_cons_some (f:=dF.foot) (b:=w.heap.size) rfl,List.nodup_cons]
  refine ⟨fun hm=>?_,h.nd⟩
  obtain ⟨e,he,hf⟩:=List.mem_filterMap.1 hm
  exact absurd (hlt e he _ hf) (Nat.lt_irrefl _)
theorem CZ (hnd:(L.filterMap dF.foot).Nodup) {j i:Nat} {e f:dF} (hj:L[j]? = some e) (hi:L[i]? = some f) (hji:j≠i) {b:Nat} (he:e.foot=some b):f.foot≠some b:=by
 induction L generalizing j i with
 | nil=>simp at hj
 | cons a L ih =>
  intro hf
  cases ha:a.foot with
  | none =>
   rw [List.filterMap_cons_none ha] at hnd
   cases j with
   | zero=>simp at hj;subst hj;rw [he] at ha;cases ha
   | succ j =>
    cases i with
    | zero=>simp at hi;subst hi;rw [hf] at ha;cases ha
    | succ i=>exact ih hnd (by simpa using hj) (by simpa using hi) (by omega) hf
  | some c =>
   rw [List.filterMap_cons_some ha,List.nodup_cons] at hnd
   cases j with
   | zero =>
    simp at hj;subst hj
    rw [he] at ha;cases ha
    cases i with
    | zero=>exact hji rfl
    | succ i=>exact hnd.1 (vN (List.mem_of_getElem? (by simpa using hi)) hf)
   | succ j =>
    cases i with
    | zero =>
     simp at hi;subst hi
     rw [hf] at ha;cases ha
     exact hnd.1 (vN (List.mem_of_getElem? (by simpa using hj)) he)
    | succ i=>exact ih hnd.2 (by simpa using hj) (by simpa using hi) (by omega) hf
theorem mX {j:Nat} {e f:dF} (hj:L[j]? = some e) (hf:f.foot=e.foot):(L.set j f).filterMap dF.foot=L.filterMap dF.foot:=by
 induction L generalizing j with
 | nil=>simp at hj
 | cons a L ih =>
  cases j with
  | zero=>simp at hj;subst hj;simp [List.filterMap_cons,hf]
  | succ j =>
   simp only [List.set_cons_succ,List.filterMap_cons]
   rw [ih (by simpa using hj)]
theorem St.set (h:St w0 X V L w) {j:Nat} {e f:dF} {b:Nat} (hj:L[j]? = some e) (he:e.foot=some b) (hf:f.foot=some b)
  (hos:w'.os=w.os) (hout:w'.output=w.output) (hsz:w'.heap.size=w.heap.size) (hoth:∀ k,k≠b→w'.heap[k]? = w.heap[k]?) (hh:f.Holds w') {L':List dF} (hL:L.set j f=L'):St w0 X V L' w':=by
 subst hL
 have hem:e∈L:=List.mem_of_getElem? hj
 have hb:=h.new e hem b he
 have hbV:=h.off e hem b he
 refine ⟨hos.trans h.os,hout.trans h.output,by rw [hsz];exact h.size,fun k hk hx=>?_,fun k o hk=>?_,?_,?_,?_,?_⟩
 ·have hkb:k≠b:=by
   rintro rfl
   rcases hb with hb | hb
   ·omega
   ·exact hx hb
  exact (hoth k hkb).trans (h.old k hk hx)
 ·have hkb:k≠b:=by rintro rfl;rw [hbV] at hk;cases hk
  rw [hoth k hkb];exact h.view k o hk
 ·intro g hg
  rcases List.getElem?_of_mem hg with ⟨i,hi⟩
  rw [List.getElem?_set] at hi
  by_cases hji:j=i
  ·subst hji
   have hl:j < L.length:=by
    rcases List.getElem?_eq_some_iff.1 hj with ⟨hl,_⟩;exact hl
   simp [hl] at hi
   subst hi;exact hh
  ·simp [hji] at hi
   have hgL:g∈L:=List.mem_of_getElem? hi
   exact (h.has g hgL).of_heap (fun k hk=>hoth k (by rintro rfl;exact CZ h.nd hj hi hji he hk))
 ·intro g hg c hc
  rcases List.mem_or_eq_of_mem_set hg with hg | rfl
  ·exact h.new g hg c hc
  ·rw [hf] at hc;cases hc;exact hb
 ·intro g hg c hc
  rcases List.mem_or_eq_of_mem_set hg with hg | rfl
  ·exact h.off g hg c hc
  ·rw [hf] at hc;cases hc;exact hbV
 ·rw [mX hj (by rw [hf,he])];exact h.nd
theorem St.at (h:St w0 X V L w) {j:Nat} {b:Nat} {t:TypeId} {cs:List Value} (hj:L[j]? = some (.blk b t cs)):w.heap[b]? = some (.cells cs.toArray t (0,0)) :=
 h.has _ (List.mem_of_getElem? hj)
theorem St.wu (h:St w0 X V L w) {j:Nat} {v:Value} {t:TypeId} {s n:Nat} {xs:List Value} (hj:L[j]? = some (.row v t s n xs)):w.ownsRow 0 t s v n xs :=
 (h.has _ (List.mem_of_getElem? hj)).1
theorem St.Wj (h:St w0 X V L w) {j:Nat} {v:Value} {t:TypeId} {s n:Nat} {xs:List Value} (hj:L[j]? = some (.row v t s n xs)):DR w v (n * s) :=
 (h.has _ (List.mem_of_getElem? hj)).2
theorem St.freeze {b:Nat} {t:TypeId} {cs:List Value} (h:St w0 X V (.blk b t cs :: L) w):St w0 X (fun k=>if k=b then some (.cells cs.toArray t (0,0)) else V k) L w:=by
 refine ⟨h.os,h.output,h.size,h.old,fun k o hk=>?_,fun e he=>h.has e (List.mem_cons_of_mem _ he),fun e he=>h.new e (List.mem_cons_of_mem _ he),fun e he c hc=>?_,?_⟩
 ·by_cases hkb:k=b
  ·subst hkb
   simp at hk;subst hk
   exact h.has _ (List.mem_cons_self ..)
  ·simp [hkb] at hk;exact h.view k o hk
 ·have hcb:c≠b:=by
   rintro rfl
   have:=h.nd
   rw [List.filterMap_cons_some (f:=dF.foot) (b:=c) rfl,List.nodup_cons] at this
   exact this.1 (vN he hc)
  simp [hcb]
  exact h.off e (List.mem_cons_of_mem _ he) c hc
 ·have:=h.nd
  rw [List.filterMap_cons_some (f:=dF.foot) (b:=b) rfl,List.nodup_cons] at this
  exact this.2
theorem St.drop {e:dF} (h:St w0 X V (e :: L) w):St w0 X V L w :=
 ⟨h.os,h.output,h.size,h.old,h.view,fun g hg=>h.has g (List.mem_cons_of_mem _ hg),fun g hg=>h.new g (List.mem_cons_of_mem _ hg),fun g hg=>h.off g (List.mem_cons_of_mem _ hg),by
  have:=h.nd
  cases he:e.foot with
  | none=>rwa [List.filterMap_cons_none he] at this
  | some b=>rw [List.filterMap_cons_some he,List.nodup_cons] at this;exact this.2⟩
theorem St.perm (h:St w0 X V L w) {L':List dF} (hp:L.Perm L'):St w0 X V L' w :=
 ⟨h.os,h.output,h.size,h.old,h.view,fun g hg=>h.has g (hp.mem_iff.2 hg),fun g hg=>h.new g (hp.mem_iff.2 hg),fun g hg=>h.off g (hp.mem_iff.2 hg),(hp.filterMap dF.foot).nodup_iff.1 h.nd⟩
theorem St.weaken (h:St w0 X V L w) {V':View} (hV:∀ k o,V' k=some o→V k=some o):St w0 X V' L w :=
 ⟨h.os,h.output,h.size,h.old,fun k o hk=>h.view k o (hV k o hk),h.has,h.new,(fun e he b hb=>by
  cases hv:V' b with
  | none=>rfl
  | some o=>have:=h.off e he b hb;rw [hV b o hv] at this;cases this),h.nd⟩
theorem St.call (h:St w0 X V L w) (k:Kp w w') {V':View} (hV:V'.In w') (hnew:∀ i,i < w.heap.size→V' i=V i):St w0 X V' L w':=by
 have h':=h.kp k
 exact ⟨h'.os,h'.output,h'.size,h'.old,hV,h'.has,h'.new,fun e he b hb=>by rw [hnew b ((h.has e he).lt hb)];exact h.off e he b hb,h'.nd⟩
structure ni (b:Nat) (w w':World):Prop where
 os:w'.os=w.os
 output:w'.output=w.output
 size:w.heap.size≤w'.heap.size
 old:∀ k,k < w.heap.size→k≠b→w'.heap[k]? = w.heap[k]?
theorem St.but {e:dF} {b:Nat} (h:St w0 X V (e :: L) w) (he:e.foot=some b) (k:ni b w w'):St w0 X V L w':=by
 have hd:=h.drop
 have hb:=h.new e (List.mem_cons_self ..) b he
 have hbV:=h.off e (List.mem_cons_self ..) b he
 have hbL:∀ f∈L,∀ g,f.foot=some g→g≠b:=fun f hf g hg hgb=>by
  subst hgb
  have:=h.nd
  rw [List.filterMap_cons_some (f:=dF.foot) he,List.nodup_cons] at this
  exact this.1 (vN hf hg)
 refine ⟨k.os.trans h.os,k.output.trans h.output,Nat.le_trans h.size k.size,fun j hj hx=>?_,fun j o hj=>?_,fun f hf=>?_,hd.new,hd.off,hd.nd⟩
 ·have hjb:j≠b:=by
   rintro rfl
   rcases hb with hb | hb
   ·omega
   ·exact hx hb
  exact (k.old j (Nat.lt_of_lt_of_le hj h.size) hjb).trans (h.old j hj hx)
 ·have hjb:j≠b:=by rintro rfl;rw [hbV] at hj;cases hj
  have:=h.view j o hj
  rw [k.old j (lt_of_heap this) hjb];exact this
 ·exact (hd.has f hf).of_heap fun g hg=>k.old g ((hd.has f hf).lt hg) (hbL f hf g hg)
theorem St.sub {L':List dF} (h:St w0 X V L w) (hs:L'.Sublist L):St w0 X V L' w :=
 ⟨h.os,h.output,h.size,h.old,h.view,fun g hg=>h.has g (hs.subset hg),fun g hg=>h.new g (hs.subset hg),fun g hg=>h.off g (hs.subset hg),(hs.filterMap dF.foot).nodup h.nd⟩
end Go.Mm
