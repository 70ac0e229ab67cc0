/- A part of the proof: U10, P2, S1, R1, R2, M1. -/
import Derived.Test.YtjjmefieegcddaaDoorA10
import Derived.Test.YtjjmefieegcddaaDoorA04
import Derived.Test.YtjjmefieegcddaaDoorA08
import Derived.WalkKit
import Derived.StillTail
import Derived.Deep.Quiet
import Derived.Test.YtjjmefieegcddaaDoorProg
import Derived.WalkSpells
import Derived.WalkLawsBesides
import Derived.RegionTactic
import Derived.Deep.QuietTactic
import Derived.BigQuiet
import Derived.LoopTactic
import Derived.Deep.RegionWith
import Derived.Deep.MidRow
import Derived.OwnWalk
set_option linter.unusedVariables false
set_option linter.unusedSimpArgs false
namespace Go.Tm
open Go
open Go.Conc
section
variable {P:Program} {w0 w w1:World} {gs:Array Goroutine} {sl:Option (Nat × Nat)}
theorem stepT_do (m:Machine):stepT P m=doMove P (move P m):=rfl
theorem stepT_lock (hP:Prg P) (h:GA w0 gs w w1):LockM w0 (stepT P (crowd gs w sl)) (stepT P (crowd gs w1 sl)):=by
 rw [stepT_do,stepT_do]
 cases sl with
 | none=>exact askOn_lock hP h
 | some x =>
  obtain ⟨i,n⟩:=x
  cases n with
  | zero=>exact askOn_lock hP h
  | succ n =>
   have e:∀ w,move P (crowd gs w (some (i,n+1)))=if (gs[i]?).any (·.canRun w.os.mono) then .goroutine (crowd gs w (if n=0 then none else some (i,n))) i else askOn P (crowd gs w none):=fun _=>rfl
   rw [e,e,h.alike.os]
   by_cases hc:(gs[i]?).any (·.canRun w.os.mono)=true
   ·rw [if_pos hc,if_pos hc]
    refine runT_lock hP h ?_
    cases hx:gs[i]? with
    | none=>rw [hx] at hc;cases hc
    | some g=>exact (Array.getElem?_eq_some_iff.1 hx).1
   ·rw [if_neg hc,if_neg hc]
    exact askOn_lock hP h
theorem runNT_lock (hP:Prg P):∀ (n:Nat) (gs:Array Goroutine) (sl:Option (Nat × Nat)) (w w1:World) (t t1:Trace) (v:Value) (v1:World) (t1':Trace),GA w0 gs w w1→TrR t t1 →
  runNT P n (crowd gs w1 sl) t1=(.ended (.done v) v1,t1')→∃ v' t',runNT P n (crowd gs w sl) t=(.ended (.done v) v',t')∧TrR t' t1'∧Alike w0 (fun _=>False) v' v1:=by
 intro n
 induction n with
 | zero=>exact fun gs sl w w1 t t1 v v1 t1' _ _ h=>by cases h
 | succ n ih =>
  intro gs sl w w1 t t1 v v1 t1' h ht hr
  have hs:=stepT_lock (sl:=sl) hP h
  unfold runNT at hr ⊢
  generalize stepT P (crowd gs w sl)=s at hs ⊢
  generalize stepT P (crowd gs w1 sl)=s1 at hs hr
  cases hs with
  | lost hb =>
   cases hr
   exact (hb v rfl).elim
  | next h' ho=>exact ih _ _ _ _ _ _ v v1 t1' h' (ht.append ho) hr
  | ended ha ho =>
   cases hr
   exact ⟨_,_,rfl,ht.append ho,ha⟩
theorem runN_lock (hP:Prg P):∀ (n:Nat) (gs:Array Goroutine) (sl:Option (Nat × Nat)) (w w1:World) (last1:Machine),GA w0 gs w w1 →
  runN P n (crowd gs w1 sl)=.next last1→∃ gs' sl' v v1,last1=crowd gs' v1 sl'∧runN P n (crowd gs w sl)=.next (crowd gs' v sl')∧GA w0 gs' v v1:=by
 intro n
 induction n with
 | zero =>
  intro gs sl w w1 last1 h hr
  cases hr
  exact ⟨gs,sl,w,w1,rfl,rfl,h⟩
 | succ n ih =>
  intro gs sl w w1 last1 h hr
  have hs:=stepT_lock (sl:=sl) hP h
  unfold runN step at hr ⊢
  generalize stepT P (crowd gs w sl)=s at hs ⊢
  generalize stepT P (crowd gs w1 sl)=s1 at hs hr
  cases hs with
  | lost hb=>cases hr
  | next h' ho=>exact ih _ _ _ _ last1 h' hr
  | ended ha ho=>cases hr
variable {t t1:Trace}
theorem TrR.at (h:TrR t t1) (i:Nat):(t[i]? = none∧t1[i]? = none)∨∃ o o1,t[i]? = some o∧t1[i]? = some o1∧OpA o o1:=by
 by_cases hi:i < t.size
 ·have e:t[i]? = some t[i]:=by simp [hi]
  have e1:t1[i]? = some (t1[i]'(by rw [h.1];exact hi)):=by simp [h.1,hi]
  exact .inr ⟨_,_,e,e1,h.2 i _ _ e e1⟩
 ·exact .inl ⟨Array.getElem?_eq_none (by omega),Array.getElem?_eq_none (by rw [h.1];omega)⟩
theorem TrR.g (h:TrR t t1) (i:Nat):t1.g? i=t.g? i:=by
 unfold Trace.g?
 rcases h.at i with ⟨e,e1⟩ | ⟨o,o1,e,e1,hg,_⟩
 ·rw [e,e1]
 ·rw [e,e1]
  simp [hg]
def objRead:MemAct→Bool
 | .access ⟨.obj _,false,_⟩=>true
 | _=>false
theorem TrR.act (h:TrR t t1) {i:Nat} {a:MemAct} (ha:objRead a=false):t1.act? i=some a↔t.act? i=some a:=by
 unfold Trace.act?
 rcases h.at i with ⟨e,e1⟩ | ⟨o,o1,e,e1,_,hx⟩
 ·rw [e,e1]
 ·rw [e,e1]
  simp only [Option.map_some,Option.some.injEq]
  rcases hx with hx | ⟨r,s,h1,h2⟩
  ·rw [hx]
  ·rw [h1,h2]
   constructor
   ·rintro rfl
    cases ha
   ·rintro rfl
    cases ha
theorem TrR.deaf (h:TrR t t1) (g:Nat):∀ i,t1.deaf g i=t.deaf g i
 | 0=>rfl
 | i+1=>by
  have ih:=TrR.deaf h g i
  unfold Trace.deaf
  rcases h.at i with ⟨e,e1⟩ | ⟨o,o1,e,e1,hg,hx⟩
  ·rw [e,e1]
   exact ih
  ·rw [e,e1,ih]
   obtain ⟨g0,f0,p0,a0⟩:=o
   obtain ⟨g1,f1,p1,a1⟩:=o1
   dsimp only at hg hx
   subst hg
   rcases hx with rfl | ⟨r,s,rfl,rfl⟩
   ·cases a1 <;> first | rfl | (rename_i m;cases m <;> rfl)
   ·rfl
theorem TrR.heard (h:TrR t t1) (i:Nat):t1.heard i↔t.heard i:=by
 unfold Trace.heard
 simp only [h.g,h.deaf]
theorem TrR.notices (h:TrR t t1) {i j:Nat} (x:Notices t1 i j):Notices t i j:=by
 cases x with
 | atomic hij a b c=>exact .atomic hij ((h.act rfl).1 a) ((h.act rfl).1 b) fun k s h1 h2 h3=>c k s h1 h2 ((h.act rfl).2 h3)
 | spawn a b c=>exact .spawn ((h.act rfl).1 a) ((h.act rfl).1 b) (by rw [← h.g];exact c)
 | handOver a b=>exact .handOver ((h.act rfl).1 a) ((h.act rfl).1 b)
 | room a b=>exact .room ((h.act rfl).1 a) ((h.act rfl).1 b)
 | closed a b=>exact .closed ((h.act rfl).1 a) ((h.act rfl).1 b)
 | marked hij a b c=>exact .marked hij (a.elim (fun a=>.inl ((h.act rfl).1 a)) fun a=>.inr ((h.act rfl).1 a)) ((h.act rfl).1 b) fun k h1 h2 h3=>c k h1 h2 ((h.act rfl).2 h3)
theorem TrR.hb (h:TrR t t1) {i j:Nat} (x:HappensBefore t1 i j):HappensBefore t i j:=by
 unfold HappensBefore at x ⊢
 have one:∀ {i j},(ProgramOrder t1 i j∨(Notices t1 i j∧t1.heard i∧t1.heard j))→(ProgramOrder t i j∨(Notices t i j∧t.heard i∧t.heard j)):=by
  intro i j x
  rcases x with ⟨hij,g,a,b⟩ | ⟨a,b,c⟩
  ·exact .inl ⟨hij,g,by rw [← h.g];exact a,by rw [← h.g];exact b⟩
  ·exact .inr ⟨h.notices a,(h.heard i).1 b,(h.heard j).1 c⟩
 induction x with
 | single a=>exact .single (one a)
 | tail _ a ih=>exact .tail ih (one a)
theorem TrR.touch (h:TrR t t1) {i:Nat} {x:Touch} (hx:(t.act? i).bind (·.touch?)=some x):∃ y,(t1.act? i).bind (·.touch?)=some y∧y.loc=x.loc∧y.write=x.write∧(x.kind=.plain→y.kind=.plain)∧(x.kind=.said→y.kind=.said):=by
 unfold Trace.act? at hx ⊢
 rcases h.at i with ⟨e,e1⟩ | ⟨o,o1,e,e1,_,ha⟩
 ·rw [e] at hx
  cases hx
 ·rw [e] at hx
  rw [e1]
  rcases ha with ha | ⟨r,s,h1,h2⟩
  ·simp only [Option.map_some,Option.bind_some] at hx ⊢
   rw [ha,hx]
   exact ⟨x,rfl,rfl,rfl,id,id⟩
  ·simp only [Option.map_some,Option.bind_some] at hx ⊢
   rw [h1] at hx
   rw [h2]
   cases hx
   exact ⟨_,rfl,rfl,rfl,fun _=>rfl,fun h=>by cases s <;> cases h⟩
theorem TrR.race (h:TrR t t1) {said:Bool} (x:Race said t):Race said t1:=by
 obtain ⟨i,j,hij,⟨a,b,ha,hb,hc⟩,n1,n2⟩:=x
 obtain ⟨a',ha',l1,w1,p1,s1⟩:=h.touch ha
 obtain ⟨b',hb',l2,w2,p2,s2⟩:=h.touch hb
 obtain ⟨c1,c2,c3,c4⟩:=hc
 refine ⟨i,j,hij,⟨a',b',ha',hb',by rw [l1,l2];exact c1,by rw [l1];exact c2,by rw [w1,w2];exact c3,?_⟩,fun h'=>n1 (h.hb h'),fun h'=>n2 (h.hb h')⟩
 rcases c4 with c | c | ⟨c,d,e⟩
 ·exact .inl (p1 c)
 ·exact .inr (.inl (p2 c))
 ·exact .inr (.inr ⟨c,s1 d,s2 e⟩)
theorem TrR.over (h:TrR t t1) (x:t1.HandedOver):t.HandedOver:=by
 intro i g hg h0 ⟨a,ha,hm,hk⟩
 obtain ⟨b,hb,l,_,p,s⟩:=h.touch ha
 obtain ⟨j,hj,hh⟩:=x i g (by rw [h.g];exact hg) h0 ⟨b,hb,by rw [l];exact hm,by
  rcases hk with hk | hk
  ·refine .inl ?_
   cases hka:a.kind with
   | plain=>rw [p hka];simp
   | said=>rw [s hka];simp
   | atomic=>exact (hk hka).elim
  ·exact .inr ((h.heard i).2 hk)⟩
 exact ⟨j,by rw [← h.g];exact hj,h.hb hh⟩
theorem endsWith_world:∀ (n:Nat) (g:Goroutine) (k d:Nat) (w w1:World),g.LeavesIn P k→g.endsWith P w n d=g.endsWith P w1 n d
 | 0,g,k,d,w,w1,_=>rfl
 | n+1,g,k,d,w,w1,h=>by
  unfold Goroutine.endsWith
  cases hs:g.status <;> first
   | rfl
   | (dsimp only
      cases k with
      | zero=>exact absurd ((h:g.status=.finished).symm.trans hs) (by simp)
      | succ k =>
       rcases h with h | ⟨g',⟨h1,es,_,h2⟩,h3⟩
       ·rw [hs] at h;cases h
       ·rw [h2 w,h2 w1]
        exact endsWith_world n g' k _ w w1 h3)
theorem runN_then:∀ (N:Nat) (m last:Machine),runN P N m=.next last→runN P (N+1) m=step P last
 | 0,m,last,h=>by
  cases h
  show (match step P m with | .next m=>runN P 0 m | e=>e)=step P m
  cases step P m <;> rfl
 | N+1,m,last,h=>by
  unfold runN at h ⊢
  cases hs:step P m with
  | next m' =>
   rw [hs] at h
   exact runN_then N m' last h
  | ended o w=>rw [hs] at h;cases h
theorem good_lock {f:FuncId} {args:Array Value} {Post Post':Value→World→Prop} (hP:Prg P) (ha:Alike w0 (fun _=>False) w w1) (hw:HeapOk OC w1)
  (hpost:∀ v v' v1,Alike w0 (fun _=>False) v' v1→Post v v1→Post' v v')
  (h:∃ N last o w' t',runNT P (N+1) (solo (G (Frame.enter P f args .normal) []) w1) #[]=(.ended o w',t')∧runN P N (solo (G (Frame.enter P f args .normal) []) w1)=.next last∧step P last=.ended o w'∧Conc.Good P Post last o w' t') :
  ∃ N last o w' t',runNT P (N+1) (solo (G (Frame.enter P f args .normal) []) w) #[]=(.ended o w',t')∧runN P N (solo (G (Frame.enter P f args .normal) []) w)=.next last∧step P last=.ended o w'∧Conc.Good P Post' last o w' t':=by
 obtain ⟨N,last1,o,v1,t1',h1,h2,h3,v,rfl,hp,hr,ho,hl,he⟩:=h
 have hga:GA w0 #[G (Frame.enter P f args .normal) []] w w1:=by
  refine ⟨ha,hw,fun g hg=>?_,fun g hg=>?_⟩
  ·have:g=G (Frame.enter P f args .normal) []:=by simpa using hg
   subst this
   exact ⟨frI_enter hP _ _ _,fun _ h=>nomatch h⟩
  ·have:g=G (Frame.enter P f args .normal) []:=by simpa using hg
   subst this
   exact OffOk.none rfl
 obtain ⟨v',t',k1,k2,k3⟩:=runNT_lock hP (N+1) _ none w w1 #[] #[] v v1 t1' hga (TrR.refl _) h1
 obtain ⟨gs',sl',u,u1,rfl,k4,k5⟩:=runN_lock hP N _ none w w1 last1 hga h2
 refine ⟨N,crowd gs' u sl',.done v,v',t',k1,k4,?_,v,rfl,hpost _ _ _ k3 hp,fun said hx=>hr said (k2.race hx),k2.over ho,hl,?_⟩
 ·rw [← runN_then N _ _ k4,← runNT_fst P (N+1) _ #[],k1]
 ·intro i g hi h0
  obtain ⟨n,hn⟩:=he i g hi h0
  have hlv:g.Leaves P:=hl.1 g (by
   show g∈gs'.toList.drop 1
   have:gs'.toList[i]? = some g:=by simpa [crowd] using hi
   rw [List.mem_iff_getElem?]
   exact ⟨i - 1,by rw [List.getElem?_drop,show 1+(i - 1)=i from by omega];exact this⟩)
  obtain ⟨k,hk⟩:=hlv
  refine ⟨n,?_⟩
  rw [← k2.deaf,← k2.1]
  rw [← hn]
  exact endsWith_world n g k _ _ _ hk
end
end Go.Tm
namespace Go.Proofs.YtjjmefieegcddaaDoor
open Go Go.Tm Go.Extern
theorem norace_ok:(Tryd.prog.funcs.toList.all fun fn=>!fn.norace)=true:=by kernel_rfl
theorem unsafe_ok:((List.range 230).all fun t=>t == 173 || match Tryd.prog.underlying t with | some .unsafePointer=>false | _=>true)=true:=by kernel_rfl
theorem prgOk:Prg Tryd.prog where
 shy:=shyAll
 code:=by
  intro f fn c hf hc
  have hmem:fn∈Tryd.prog.funcs.toList:=by
   rw [Array.mem_toList_iff]
   exact Array.mem_of_getElem? hf
  have:=List.all_eq_true.1 code_ok fn hmem
  rw [hc] at this
  exact this
 norace:=by
  intro f
  cases hf:Tryd.prog.funcs[f]? with
  | none=>rfl
  | some fn =>
   have hmem:fn∈Tryd.prog.funcs.toList:=by
    rw [Array.mem_toList_iff]
    exact Array.mem_of_getElem? hf
   have:=List.all_eq_true.1 norace_ok fn hmem
   simpa using this
 safe:=by
  intro t ht hu
  unfold okT at ht
  simp only [Bool.and_eq_true,decide_eq_true_eq,bne_iff_ne] at ht
  have:=List.all_eq_true.1 unsafe_ok t (List.mem_range.2 ht.1)
  rw [hu] at this
  simp only [Bool.or_false,beq_iff_eq] at this
  exact ht.2 this
end Go.Proofs.YtjjmefieegcddaaDoor
namespace Go.Wg
open Go
def ANY:Nat:=2199023255551
def spanN (lo hi:Nat):Nat:=2 ^ (hi+1) - 2 ^ lo
def spanB (lo hi:Int):Nat :=
 if hi < 0∨hi < lo then 0 else if 40 < lo then 0 else spanN lo.toNat (min hi 40).toNat
def plusStep (m v:Nat) (out n:Nat):Nat:=if m.testBit n then out ||| (v * 2 ^ n) % 18446744073709551616 else out
def plusTo (m v k:Nat):Nat:=(List.range k).foldl (plusStep m v) 0
def plusB (m v:Nat):Nat:=plusTo m v 41 &&& ANY
theorem plusTo_succ (m v k:Nat):plusTo m v (k+1)=plusStep m v (plusTo m v k) k:=by
 unfold plusTo
 rw [List.range_succ,List.foldl_append]
 rfl
theorem wrap_u64 (n:Int) (h0:0≤n) (h1:n < 18446744073709551616):IntKind.u64.wrap n=n:=by
 unfold IntKind.wrap IntKind.bits
 simp [IntKind.signed]
 omega
theorem bits_and (a b:Nat) (ha:a < 18446744073709551616) (hb:b < 18446744073709551616):bits .and .u64 (a:Int) (b:Int)=((a &&& b:Nat):Int):=by
 unfold bits
 dsimp only
 have h:(BitVec.ofInt IntKind.u64.bits (a:Int) &&& BitVec.ofInt IntKind.u64.bits (b:Int)).toNat=a &&& b:=by
  rw [BitVec.toNat_and,BitVec.ofInt_natCast,BitVec.ofInt_natCast,BitVec.toNat_ofNat,BitVec.toNat_ofNat]
  show a % 18446744073709551616 &&& b % 18446744073709551616=_
  rw [Nat.mod_eq_of_lt ha,Nat.mod_eq_of_lt hb]
 rw [h]
 apply wrap_u64
 ·omega
 ·have:=Nat.and_le_left (n:=a) (m:=b);omega
theorem bits_or (a b:Nat) (ha:a < 18446744073709551616) (hb:b < 18446744073709551616):bits .or .u64 (a:Int) (b:Int)=((a ||| b:Nat):Int):=by
 unfold bits
 dsimp only
 have h:(BitVec.ofInt IntKind.u64.bits (a:Int) ||| BitVec.ofInt IntKind.u64.bits (b:Int)).toNat=a ||| b:=by
  rw [BitVec.toNat_or,BitVec.ofInt_natCast,BitVec.ofInt_natCast,BitVec.toNat_ofNat,BitVec.toNat_ofNat]
  show a % 18446744073709551616 ||| b % 18446744073709551616=_
  rw [Nat.mod_eq_of_lt ha,Nat.mod_eq_of_lt hb]
 rw [h]
 apply wrap_u64
 ·omega
 ·have:a ||| b < 2 ^ 64:=Nat.or_lt_two_pow (by omega) (by omega)
  omega
theorem has_bits (m n:Nat) (hm:m < 18446744073709551616):(bits .and .u64 ((m:Int) / 2 ^ n) 1 == 1)=m.testBit n:=by
 have e:((m:Int) / 2 ^ n)=((m / 2 ^ n:Nat):Int):=by
  rw [Int.natCast_ediv];simp
 have h1:m / 2 ^ n < 18446744073709551616:=Nat.lt_of_le_of_lt (Nat.div_le_self _ _) hm
 have h2:=bits_and (m / 2 ^ n) 1 h1 (by omega)
 rw [e,show (1:Int)=((1:Nat):Int) from rfl,h2]
 rw [Nat.testBit,Nat.shiftRight_eq_div_pow,Nat.and_comm]
 rcases Nat.mod_two_eq_zero_or_one (m / 2 ^ n) with h | h <;> simp [Nat.and_one_is_mod,h]
theorem span_all:((List.range 41).all fun lo=>(List.range 41).all fun hi=>decide (hi < lo) || (bits .and .u64 (IntKind.u64.wrap (2199023255551 / 2 ^ lo * 2 ^ lo)) (2199023255551 / 2 ^ (40 - hi)) == ((spanN lo hi:Nat):Int)))=true:=by kernel_rfl
theorem span_bits (lo hi:Nat) (h:lo≤hi) (h1:hi≤40):bits .and .u64 (IntKind.u64.wrap (2199023255551 / 2 ^ lo * 2 ^ lo)) (2199023255551 / 2 ^ (40 - hi))=((spanN lo hi:Nat):Int):=by
 have:=List.all_eq_true.1 (List.all_eq_true.1 span_all lo (List.mem_range.2 (by omega))) hi (List.mem_range.2 (by omega))
 simp only [Bool.or_eq_true,decide_eq_true_eq,beq_iff_eq] at this
 rcases this with h2 | h2
 ·omega
 ·exact h2
theorem spanN_lt (lo hi:Nat) (h1:hi≤40):spanN lo hi < 2199023255552:=by
 unfold spanN
 have h2:2 ^ (hi+1)≤2 ^ 41:=Nat.pow_le_pow_right (by omega) (by omega)
 have h3:0 < 2 ^ lo:=Nat.pow_pos (by omega)
 have h4:(2:Nat) ^ 41=2199023255552:=by decide
 omega
theorem spanB_lt (lo hi:Int):spanB lo hi < 2199023255552:=by
 unfold spanB
 split
 ·decide
 ·split
  ·decide
  ·exact spanN_lt _ _ (by omega)
theorem plusTo_lt (m v k:Nat):plusTo m v k < 18446744073709551616:=by
 induction k with
 | zero=>exact (by decide:(0:Nat) < 18446744073709551616)
 | succ k ih =>
  rw [plusTo_succ]
  unfold plusStep
  split
  ·have:plusTo m v k ||| v * 2 ^ k % 18446744073709551616 < 2 ^ 64:=Nat.or_lt_two_pow (by omega) (Nat.mod_lt _ (by decide))
   omega
  ·exact ih
theorem plusB_lt (m v:Nat):plusB m v < 2199023255552:=by
 unfold plusB
 have:=Nat.and_le_right (n:=plusTo m v 41) (m:=ANY)
 have h:ANY=2199023255551:=rfl
 omega
theorem wrap_shl (v n:Nat):IntKind.u64.wrap ((v:Int) * 2 ^ n)=(((v * 2 ^ n) % 18446744073709551616:Nat):Int):=by
 unfold IntKind.wrap IntKind.bits
 simp [IntKind.signed]
end Go.Wg
namespace Go
section
variable {P:Program} {ops:Array Oper} {md:Region.Mode} {C:World→Prop}
def wpAnyLQ (P:Program) (md:Region.Mode) (ops:Array Oper) (C:World→Prop) (n:Nat) (L:Array Bool→Act→Prop):Nat→Array Bool→Act→Prop
 | 0,listed,a=>L listed a
 | f+1,listed,a =>
  Region.ready md ops listed≠[]∧∀ i∈Region.ready md ops listed,i < n∧qOp P ops C i (wpAnyLQ P md ops C n L f (listed.setIfInBounds i true)) a
theorem wpAny_of_headQ {n g:Nat} {L:Array Bool→Act→Prop} {Q':Exit→Act→World→Prop} (hL:∀ listed a w,C w→L listed a→wpAny P md ops Q' g listed a w) :
  ∀ (f:Nat) (listed:Array Bool) (a:Act) (w:World),C w→wpAnyLQ P md ops C n L f listed a→wpAny P md ops Q' (f+g) listed a w
 | 0,listed,a,w,hw,h=>by rw [Nat.zero_add];exact hL _ _ _ hw h
 | f+1,listed,a,w,hw,h=>by
  rw [show f+1+g=(f+g)+1 by omega]
  exact ⟨fun h0=>absurd h0 h.1,fun i hi=>wpOp_of_qOp hw (fun a' w' hw' h'=>wpAny_of_headQ hL f _ a' w' hw' h') (h.2 i hi).2⟩
theorem wpAnyLQ_first {n i:Nat} {oi:Oper} {v:Value} {L:Array Bool→Act→Prop} (hi:ops[i]? = some oi) (hsel:∀ (j:Nat) (o:Oper) cs b,ops[j]? = some o→o.op≠.select cs b)
  (hs:Region.sinkB md ops n=true) (hc:Region.chainB md ops n=true) (hn:n < ops.size) (hin:i < n)
  (hdone:∀ listed a,L listed a→∀ j∈Region.ready md ops listed,n≤j) :
  ∀ (f:Nat) (listed:Array Bool) (a:Act),HeadInv md ops n listed →
   (∀ j oj,ops[j]? = some oj→j≠i→listed.getD j true=false→(∀ e∈oj.after,Region.binds md e=true→e.on≠i)→oi.apart ops oj=true) →
   i∈Region.ready md ops listed→YieldsIn P ops C oi v a →
   wpAnyLQ P md ops C n L f (listed.setIfInBounds i true) (a.put oi.dst v)→wpAnyLQ P md ops C n L (f+1) listed a:=by
 intro f
 induction f with
 | zero =>
  intro listed a inv _ hr hy H
  have hun:=(mem_ready.1 hr).1
  refine ⟨fun h=>(by rw [h] at hr;cases hr),fun j hj=>?_⟩
  have hjn:j < n:=by
   rcases Nat.lt_or_ge j n with h | h
   ·exact h
   ·exact absurd hj (tail_waits hs hc hn inv _ i rfl hin hun j h)
  refine ⟨hjn,?_⟩
  by_cases hji:j=i
  ·subst hji;exact hy.qOp hi H
  ·have:=hdone _ _ H j (ready_mono hj hji)
   omega
 | succ f ih =>
  intro listed a inv hfree hr hy H
  have hun:=(mem_ready.1 hr).1
  refine ⟨fun h=>(by rw [h] at hr;cases hr),fun j hj=>?_⟩
  have hjn:j < n:=by
   rcases Nat.lt_or_ge j n with h | h
   ·exact h
   ·exact absurd hj (tail_waits hs hc hn inv _ i rfl hin hun j h)
  refine ⟨hjn,?_⟩
  by_cases hji:j=i
  ·subst hji;exact hy.qOp hi H
  ·have h1:=(H.2 j (ready_mono hj hji)).2
   obtain ⟨hjun,oj,hoj,hall⟩:=mem_ready.1 hj
   have hnot:∀ e∈oj.after,Region.binds md e=true→e.on≠i:=fun e he hb heq=>by
    have h1:=hall e he hb
    rw [heq,getD_both hun] at h1
    cases h1
   have h2:=qOp_put hoj (hfree j oj hoj hji hjun hnot) (fun cs b=>hsel i oi cs b hi) (fun cs b=>hsel j oj cs b hoj) hy h1
   have hfree':∀ k ok,ops[k]? = some ok→k≠i→(listed.setIfInBounds j true).getD k true=false →
     (∀ e∈ok.after,Region.binds md e=true→e.on≠i)→oi.apart ops ok=true:=fun k ok hk hki hun hno=>by
    refine hfree k ok hk hki ?_ hno
    by_cases hjk:j=k
    ·subst hjk;exact hjun
    ·rw [getD_set_ne true hjk] at hun;exact hun
   refine qOp_mono (fun a' h3=>ih (listed.setIfInBounds j true) a' (inv.set hj hjn) hfree' (ready_mono hr (Ne.symm hji)) h3.1 ?_) h2
   rw [Array.setIfInBounds_comm _ _ hji]
   exact h3.2
theorem wpAnyLQ_lex {n g:Nat} {Lq:Act→Prop} (hsel:Region.noSelect ops=true) (hs:Region.sinkB md ops n=true) (hc:Region.chainB md ops n=true) (hn:n < ops.size) :
  ∀ (l:List Oper) (k:Nat) (listed:Array Bool) (a:Act),(∀ j,j < l.length→l[j]? = ops[k+j]?)→k+l.length=n→HeadInv md ops n listed →
  Region.lexHead md ops g l.length k listed=true→wpQuiet P ops C Lq l a →
  wpAnyLQ P md ops C n (fun listed' a'=>Region.seqB md ops g n listed'=true∧Lq a') l.length listed a
 | [],k,listed,a,_,hk,_,hB,h=>by
  have:k=n:=by simpa using hk
  subst this
  exact ⟨by simpa [Region.lexHead] using hB,h⟩
 | o :: l,k,listed,a,hl,hk,inv,hB,h=>by
  have h0:ops[k]? = some o:=by simpa using (hl 0 (by simp)).symm
  simp only [List.length_cons,Region.lexHead,Bool.and_eq_true] at hB
  obtain ⟨⟨hr,hf⟩,hB'⟩:=hB
  have hkn:k < n:=by simp only [List.length_cons] at hk;omega
  have hr':k∈Region.ready md ops listed:=by simpa using hr
  have hst:qOp P ops C k (wpQuiet P ops C Lq l) a:=by unfold qOp;simp only [h0];exact h
  obtain ⟨v,hy,hK⟩:=yieldsIn_of_qOp h0 hst
  exact wpAnyLQ_first h0 (Region.noSelect_spec hsel) hs hc hn hkn (fun listed' a' hL=>seqB_ready hL.1) l.length listed a inv (Region.free_spec h0 hf) hr' hy
   (wpAnyLQ_lex hsel hs hc hn l (k+1) _ _ (fun j hj=>by have:=hl (j+1) (by simp;omega);simpa [Nat.add_assoc,Nat.add_comm 1 j] using this) (by simp only [List.length_cons] at hk;omega) (inv.set hr' hkn) hB' hK)
theorem wp_region_quiet_tail {id:Nat} {Q:Exit→Act→World→Prop} {a:Act} {w:World} {l:List Oper} (n:Nat) (hm:P.follows .mixedOrders=true) (hB:Region.lexTailB .any l.toArray n=true)
  (hC:C { w with drawn:=w.drawn+1 })
  (h:wpQuiet P l.toArray C (fun a'=>∀ w',C w'→wpList P l.toArray Q (l.drop n) a' w') (l.take n) a):(Code.region id l.toArray true).wp P Q a w:=by
 simp only [Region.lexTailB,Bool.and_eq_true,decide_eq_true_eq] at hB
 obtain ⟨⟨⟨⟨hsel,hn⟩,hs⟩,hc⟩,hlex⟩:=hB
 have hn':n < l.length:=by simpa using hn
 have htl:(l.take n).length=n:=by simp;omega
 have hdl:(l.drop n).length=l.toArray.size - n:=by simp
 have inv0:HeadInv .any l.toArray n (Array.replicate l.toArray.size false) :=
  ⟨by simp,fun j oj _ hl=>(by rw [getD_replicate_false] at hl;cases hl),fun t _ ht=>getD_in (by simpa using ht) (getD_replicate_false _ _)⟩
 have H:=wpAnyLQ_lex (md:=.any) (C:=C) (g:=l.toArray.size - n) hsel hs hc hn (l.take n) 0 _ a (fun j hj=>by
  have hj':j < n:=by rw [htl] at hj;exact hj
  simp [hj']) (by simpa using htl) inv0 (by rw [htl];exact hlex) h
 refine wp_region_any hm ?_
 have:=wpAny_of_headQ (Q':=Q) (C:=C) (g:=l.toArray.size - n) (fun listed a' w' hw' hL=>by
  have:=wpAny_of_seq (md:=.any) (Q':=Q) (l.drop n) n listed a' w' (fun j=>by simp [List.getElem?_drop]) (by rw [hdl];exact hL.1) (hL.2 _ hw')
  rwa [hdl] at this) _ _ _ _ hC H
 rw [htl,show n+(l.toArray.size - n)=l.toArray.size by omega] at this
 exact this
end
end Go
namespace Go
end Go
namespace Go.Mm
open Go
abbrev View:=Nat→Option Obj
def View.In (V:View) (w:World):Prop:=∀ k o,V k=some o→w.heap[k]? = some o
def View.Cell (V:View) (b i:Nat) (v:Value):Prop:=∃ cs t fr,V b=some (.cells cs t fr)∧cs[i]? = some v
def View.Range (V:View) (b i:Nat) (vs:List Value):Prop:=∀ j v,vs[j]? = some v→V.Cell b (i+j) v
theorem View.Cell.cell {V:View} {w:World} {b i:Nat} {v:Value} (h:V.Cell b i v) (hV:V.In w):w.cell? ⟨b,i,none⟩=some v:=by
 obtain ⟨cs,t,fr,h1,h2⟩:=h
 rw [cell_of_row w b i cs t fr (hV _ _ h1)];exact h2
theorem View.Range.range {V:View} {w:World} {b i:Nat} {vs:List Value} (h:V.Range b i vs) (hV:V.In w):w.rangeAt b i vs:=fun j v hj=>(h j v hj).cell hV
theorem View.Cell.mono {V V':View} {b i:Nat} {v:Value} (h:V.Cell b i v) (hV:∀ k o,V k=some o→V' k=some o):V'.Cell b i v:=by
 obtain ⟨cs,t,fr,h1,h2⟩:=h
 exact ⟨cs,t,fr,hV _ _ h1,h2⟩
theorem View.Range.mono {V V':View} {b i:Nat} {vs:List Value} (h:V.Range b i vs) (hV:∀ k o,V k=some o→V' k=some o):V'.Range b i vs:=fun j v hj=>(h j v hj).mono hV
inductive Ent where
 | blk (b:Nat) (t:TypeId) (cs:List Value)
 | row (v:Value) (t:TypeId) (size n:Nat) (xs:List Value)
def Ent.foot:Ent→Option Nat
 | .blk b _ _=>some b
 | .row v _ _ _ _=>v.ownBlock
def flat0:Value→Bool
 | .int _ _ | .bool _ | .pointer none | .slice none _ _=>true
 | _=>false
def PadAt (w:World) (v:Value) (k:Nat):Prop:=∀ g,v.ownBlock=some g→∀ cur t fr,w.heap[g]? = some (.cells cur t fr)→∀ i c,k≤i→cur[i]? = some c→flat0 c=true
def Ent.Holds (w:World):Ent→Prop
 | .blk b t cs=>w.heap[b]? = some (.cells cs.toArray t (0,0))
 | .row v t s n xs=>w.ownsRow 0 t s v n xs∧PadAt w v (n * s)
structure St (w0:World) (X:List Nat) (V:View) (L:List Ent) (w:World):Prop where
 os:w.os=w0.os
 output:w.output=w0.output
 size:w0.heap.size≤w.heap.size
 old:∀ k,k < w0.heap.size→k ∉ X→w.heap[k]? = w0.heap[k]?
 view:V.In w
 has:∀ e∈L,e.Holds w
 new:∀ e∈L,∀ b,e.foot=some b→w0.heap.size≤b∨b∈X
 off:∀ e∈L,∀ b,e.foot=some b→V b=none
 nd:(L.filterMap Ent.foot).Nodup
structure Kp (w w':World):Prop where
 os:w'.os=w.os
 output:w'.output=w.output
 size:w.heap.size≤w'.heap.size
 old:∀ k,k < w.heap.size→w'.heap[k]? = w.heap[k]?
theorem Kp.refl (w:World):Kp w w:=⟨rfl,rfl,Nat.le_refl _,fun _ _=>rfl⟩
theorem Kp.drew (w:World) (n:Nat):Kp w (w.drewN n):=⟨rfl,rfl,Nat.le_refl _,fun _ _=>rfl⟩
theorem Kp.trans {a b c:World} (h:Kp a b) (k:Kp b c):Kp a c :=
 ⟨k.os.trans h.os,k.output.trans h.output,Nat.le_trans h.size k.size,fun i hi=>(k.old i (Nat.lt_of_lt_of_le hi h.size)).trans (h.old i hi)⟩
theorem lt_of_heap {w:World} {k:Nat} {o:Obj} (h:w.heap[k]? = some o):k < w.heap.size:=by
 rcases Nat.lt_or_ge k w.heap.size with h1 | h1
 ·exact h1
 ·rw [Array.getElem?_eq_none h1] at h;cases h
theorem View.In.kp {V:View} {w w':World} (h:V.In w) (k:Kp w w'):V.In w':=fun i o hi=>by
 have:=h i o hi
 rw [k.old i (lt_of_heap this)];exact this
theorem ownsRow_of_heap {w w':World} {e:TypeId} {s n:Nat} {v:Value} {xs:List Value} (h:w.ownsRow 0 e s v n xs) (hb:∀ g,v.ownBlock=some g→w'.heap[g]? = w.heap[g]?):w'.ownsRow 0 e s v n xs:=by
 obtain ⟨h1,h2⟩:=h
 refine ⟨h1,?_⟩
 rcases h2 with h2 | ⟨g,cap,cur,rfl,h3,h4,h5⟩
 ·exact .inl h2
 ·exact .inr ⟨g,cap,cur,rfl,h3,by rw [hb g rfl];exact h4,h5⟩
theorem Ent.Holds.of_heap {w w':World} {e:Ent} (h:e.Holds w) (hb:∀ g,e.foot=some g→w'.heap[g]? = w.heap[g]?):e.Holds w':=by
 cases e with
 | blk b t cs=>exact (hb b rfl).trans h
 | row v t s n xs=>exact ⟨ownsRow_of_heap h.1 hb,fun g hg cur t fr hc=>h.2 g hg cur t fr (by rw [← hb g hg];exact hc)⟩
theorem Ent.Holds.lt {w:World} {e:Ent} (h:e.Holds w) {g:Nat} (hg:e.foot=some g):g < w.heap.size:=by
 cases e with
 | blk b t cs=>cases hg;exact lt_of_heap h
 | row v t s n xs=>exact (World.ownsRow.lt h.1 g hg).2
variable {w0:World} {X:List Nat} {V:View} {L:List Ent} {w w':World}
theorem St.start (w:World) (V:View) (hV:V.In w):St w [] V [] w :=
 ⟨rfl,rfl,Nat.le_refl _,fun _ _ _=>rfl,hV,by simp,by simp,by simp,by simp⟩
theorem St.kp (h:St w0 X V L w) (k:Kp w w'):St w0 X V L w' :=
 ⟨k.os.trans h.os,k.output.trans h.output,Nat.le_trans h.size k.size,fun i hi hx=>(k.old i (Nat.lt_of_lt_of_le hi h.size)).trans (h.old i hi hx),
  h.view.kp k,fun e he=>(h.has e he).of_heap (fun g hg=>k.old g ((h.has e he).lt hg)),h.new,h.off,h.nd⟩
theorem St.drew (h:St w0 X V L w) (n:Nat):St w0 X V L (w.drewN n):=h.kp (Kp.drew w n)
theorem St.toKp (h:St w0 [] V L w):Kp w0 w:=⟨h.os,h.output,h.size,fun k hk=>h.old k hk (by simp)⟩
theorem foot_mem {e:Ent} {b:Nat} (he:e∈L) (hf:e.foot=some b):b∈L.filterMap Ent.foot:=List.mem_filterMap.2 ⟨e,he,hf⟩
theorem St.alloc (h:St w0 X V L w) (t:TypeId) (cs:List Value):St w0 X V (.blk w.heap.size t cs :: L) (w.alloc (.cells cs.toArray t)):=by
 have hold:∀ k,k < w.heap.size→(w.alloc (.cells cs.toArray t)).heap[k]? = w.heap[k]?:=fun k hk=>heap_alloc_old w _ hk
 have hlt:∀ e∈L,∀ b,e.foot=some b→b < w.heap.size:=fun e he b hb=>(h.has e he).lt hb
 refine ⟨h.os,h.output,?_,fun k hk hx=>(hold k (Nat.lt_of_lt_of_le hk h.size)).trans (h.old k hk hx),fun k o hk=>?_,?_,?_,?_,?_⟩
 ·have:=h.size
  show _≤(w.heap.push _).size
  simp;omega
 ·have:=h.view k o hk
  rw [hold k (lt_of_heap this)];exact this
 ·intro e he
  rcases List.mem_cons.1 he with rfl | he
  ·exact heap_alloc_new w _
  ·exact (h.has e he).of_heap (fun g hg=>hold g (hlt e he g hg))
 ·intro e he b hb
  rcases List.mem_cons.1 he with rfl | he
  ·cases hb;exact .inl h.size
  ·exact h.new e he b hb
 ·intro e he b hb
  rcases List.mem_cons.1 he with rfl | he
  ·cases hb
   cases hv:V w.heap.size with
   | none=>rfl
   | some o=>exact absurd (lt_of_heap (h.view _ _ hv)) (Nat.lt_irrefl _)
  ·exact h.off e he b hb
 ·show (List.filterMap Ent.foot (Ent.blk w.heap.size t cs :: L)).Nodup
  rw [List.filterMap_cons_some (f:=Ent.foot) (b:=w.heap.size) rfl,List.nodup_cons]
  refine ⟨fun hm=>?_,h.nd⟩
  obtain ⟨e,he,hf⟩:=List.mem_filterMap.1 hm
  exact absurd (hlt e he _ hf) (Nat.lt_irrefl _)
theorem foot_ne (hnd:(L.filterMap Ent.foot).Nodup) {j i:Nat} {e f:Ent} (hj:L[j]? = some e) (hi:L[i]? = some f) (hji:j≠i) {b:Nat} (he:e.foot=some b):f.foot≠some b:=by
 induction L generalizing j i with
 | nil=>simp at hj
 | cons a L ih =>
  intro hf
  cases ha:a.foot with
  | none =>
   rw [List.filterMap_cons_none ha] at hnd
   cases j with
   | zero=>simp at hj;subst hj;rw [he] at ha;cases ha
   | succ j =>
    cases i with
    | zero=>simp at hi;subst hi;rw [hf] at ha;cases ha
    | succ i=>exact ih hnd (by simpa using hj) (by simpa using hi) (by omega) hf
  | some c =>
   rw [List.filterMap_cons_some ha,List.nodup_cons] at hnd
   cases j with
   | zero =>
    simp at hj;subst hj
    rw [he] at ha;cases ha
    cases i with
    | zero=>exact hji rfl
    | succ i=>exact hnd.1 (foot_mem (List.mem_of_getElem? (by simpa using hi)) hf)
   | succ j =>
    cases i with
    | zero =>
     simp at hi;subst hi
     rw [hf] at ha;cases ha
     exact hnd.1 (foot_mem (List.mem_of_getElem? (by simpa using hj)) he)
    | succ i=>exact ih hnd.2 (by simpa using hj) (by simpa using hi) (by omega) hf
theorem filterMap_set {j:Nat} {e f:Ent} (hj:L[j]? = some e) (hf:f.foot=e.foot):(L.set j f).filterMap Ent.foot=L.filterMap Ent.foot:=by
 induction L generalizing j with
 | nil=>simp at hj
 | cons a L ih =>
  cases j with
  | zero=>simp at hj;subst hj;simp [List.filterMap_cons,hf]
  | succ j =>
   simp only [List.set_cons_succ,List.filterMap_cons]
   rw [ih (by simpa using hj)]
theorem St.set (h:St w0 X V L w) {j:Nat} {e f:Ent} {b:Nat} (hj:L[j]? = some e) (he:e.foot=some b) (hf:f.foot=some b)
  (hos:w'.os=w.os) (hout:w'.output=w.output) (hsz:w'.heap.size=w.heap.size) (hoth:∀ k,k≠b→w'.heap[k]? = w.heap[k]?) (hh:f.Holds w') {L':List Ent} (hL:L.set j f=L'):St w0 X V L' w':=by
 subst hL
 have hem:e∈L:=List.mem_of_getElem? hj
 have hb:=h.new e hem b he
 have hbV:=h.off e hem b he
 refine ⟨hos.trans h.os,hout.trans h.output,by rw [hsz];exact h.size,fun k hk hx=>?_,fun k o hk=>?_,?_,?_,?_,?_⟩
 ·have hkb:k≠b:=by
   rintro rfl
   rcases hb with hb | hb
   ·omega
   ·exact hx hb
  exact (hoth k hkb).trans (h.old k hk hx)
 ·have hkb:k≠b:=by rintro rfl;rw [hbV] at hk;cases hk
  rw [hoth k hkb];exact h.view k o hk
 ·intro g hg
  rcases List.getElem?_of_mem hg with ⟨i,hi⟩
  rw [List.getElem?_set] at hi
  by_cases hji:j=i
  ·subst hji
   have hl:j < L.length:=by
    rcases List.getElem?_eq_some_iff.1 hj with ⟨hl,_⟩;exact hl
   simp [hl] at hi
   subst hi;exact hh
  ·simp [hji] at hi
   have hgL:g∈L:=List.mem_of_getElem? hi
   exact (h.has g hgL).of_heap (fun k hk=>hoth k (by rintro rfl;exact foot_ne h.nd hj hi hji he hk))
 ·intro g hg c hc
  rcases List.mem_or_eq_of_mem_set hg with hg | rfl
  ·exact h.new g hg c hc
  ·rw [hf] at hc;cases hc;exact hb
 ·intro g hg c hc
  rcases List.mem_or_eq_of_mem_set hg with hg | rfl
  ·exact h.off g hg c hc
  ·rw [hf] at hc;cases hc;exact hbV
 ·rw [filterMap_set hj (by rw [hf,he])];exact h.nd
theorem St.at (h:St w0 X V L w) {j:Nat} {b:Nat} {t:TypeId} {cs:List Value} (hj:L[j]? = some (.blk b t cs)):w.heap[b]? = some (.cells cs.toArray t (0,0)) :=
 h.has _ (List.mem_of_getElem? hj)
theorem St.atRow (h:St w0 X V L w) {j:Nat} {v:Value} {t:TypeId} {s n:Nat} {xs:List Value} (hj:L[j]? = some (.row v t s n xs)):w.ownsRow 0 t s v n xs :=
 (h.has _ (List.mem_of_getElem? hj)).1
theorem St.atPad (h:St w0 X V L w) {j:Nat} {v:Value} {t:TypeId} {s n:Nat} {xs:List Value} (hj:L[j]? = some (.row v t s n xs)):PadAt w v (n * s) :=
 (h.has _ (List.mem_of_getElem? hj)).2
theorem St.freeze {b:Nat} {t:TypeId} {cs:List Value} (h:St w0 X V (.blk b t cs :: L) w):St w0 X (fun k=>if k=b then some (.cells cs.toArray t (0,0)) else V k) L w:=by
 refine ⟨h.os,h.output,h.size,h.old,fun k o hk=>?_,fun e he=>h.has e (List.mem_cons_of_mem _ he),fun e he=>h.new e (List.mem_cons_of_mem _ he),fun e he c hc=>?_,?_⟩
 ·by_cases hkb:k=b
  ·subst hkb
   simp at hk;subst hk
   exact h.has _ (List.mem_cons_self ..)
  ·simp [hkb] at hk;exact h.view k o hk
 ·have hcb:c≠b:=by
   rintro rfl
   have:=h.nd
   rw [List.filterMap_cons_some (f:=Ent.foot) (b:=c) rfl,List.nodup_cons] at this
   exact this.1 (foot_mem he hc)
  simp [hcb]
  exact h.off e (List.mem_cons_of_mem _ he) c hc
 ·have:=h.nd
  rw [List.filterMap_cons_some (f:=Ent.foot) (b:=b) rfl,List.nodup_cons] at this
  exact this.2
theorem St.drop {e:Ent} (h:St w0 X V (e :: L) w):St w0 X V L w :=
 ⟨h.os,h.output,h.size,h.old,h.view,fun g hg=>h.has g (List.mem_cons_of_mem _ hg),fun g hg=>h.new g (List.mem_cons_of_mem _ hg),fun g hg=>h.off g (List.mem_cons_of_mem _ hg),by
  have:=h.nd
  cases he:e.foot with
  | none=>rwa [List.filterMap_cons_none he] at this
  | some b=>rw [List.filterMap_cons_some he,List.nodup_cons] at this;exact this.2⟩
theorem St.perm (h:St w0 X V L w) {L':List Ent} (hp:L.Perm L'):St w0 X V L' w :=
 ⟨h.os,h.output,h.size,h.old,h.view,fun g hg=>h.has g (hp.mem_iff.2 hg),fun g hg=>h.new g (hp.mem_iff.2 hg),fun g hg=>h.off g (hp.mem_iff.2 hg),(hp.filterMap Ent.foot).nodup_iff.1 h.nd⟩
theorem St.weaken (h:St w0 X V L w) {V':View} (hV:∀ k o,V' k=some o→V k=some o):St w0 X V' L w :=
 ⟨h.os,h.output,h.size,h.old,fun k o hk=>h.view k o (hV k o hk),h.has,h.new,(fun e he b hb=>by
  cases hv:V' b with
  | none=>rfl
  | some o=>have:=h.off e he b hb;rw [hV b o hv] at this;cases this),h.nd⟩
theorem St.call (h:St w0 X V L w) (k:Kp w w') {V':View} (hV:V'.In w') (hnew:∀ i,i < w.heap.size→V' i=V i):St w0 X V' L w':=by
 have h':=h.kp k
 exact ⟨h'.os,h'.output,h'.size,h'.old,hV,h'.has,h'.new,fun e he b hb=>by rw [hnew b ((h.has e he).lt hb)];exact h.off e he b hb,h'.nd⟩
structure KpBut (b:Nat) (w w':World):Prop where
 os:w'.os=w.os
 output:w'.output=w.output
 size:w.heap.size≤w'.heap.size
 old:∀ k,k < w.heap.size→k≠b→w'.heap[k]? = w.heap[k]?
theorem St.but {e:Ent} {b:Nat} (h:St w0 X V (e :: L) w) (he:e.foot=some b) (k:KpBut b w w'):St w0 X V L w':=by
 have hd:=h.drop
 have hb:=h.new e (List.mem_cons_self ..) b he
 have hbV:=h.off e (List.mem_cons_self ..) b he
 have hbL:∀ f∈L,∀ g,f.foot=some g→g≠b:=fun f hf g hg hgb=>by
  subst hgb
  have:=h.nd
  rw [List.filterMap_cons_some (f:=Ent.foot) he,List.nodup_cons] at this
  exact this.1 (foot_mem hf hg)
 refine ⟨k.os.trans h.os,k.output.trans h.output,Nat.le_trans h.size k.size,fun j hj hx=>?_,fun j o hj=>?_,fun f hf=>?_,hd.new,hd.off,hd.nd⟩
 ·have hjb:j≠b:=by
   rintro rfl
   rcases hb with hb | hb
   ·omega
   ·exact hx hb
  exact (k.old j (Nat.lt_of_lt_of_le hj h.size) hjb).trans (h.old j hj hx)
 ·have hjb:j≠b:=by rintro rfl;rw [hbV] at hj;cases hj
  have:=h.view j o hj
  rw [k.old j (lt_of_heap this) hjb];exact this
 ·exact (hd.has f hf).of_heap fun g hg=>k.old g ((hd.has f hf).lt hg) (hbL f hf g hg)
theorem St.sub {L':List Ent} (h:St w0 X V L w) (hs:L'.Sublist L):St w0 X V L' w :=
 ⟨h.os,h.output,h.size,h.old,h.view,fun g hg=>h.has g (hs.subset hg),fun g hg=>h.new g (hs.subset hg),fun g hg=>h.off g (hs.subset hg),(hs.filterMap Ent.foot).nodup h.nd⟩
end Go.Mm
