/- A part of the proof: S24, S25, W74, W75. -/
import Derived.Test.YtjjmefieegcddaaDoorA29
import Derived.Test.YtjjmefieegcddaaDoorA21
set_option linter.unusedVariables false
set_option linter.unusedSimpArgs false
namespace Go.Wg
open Go Go.Mm Go.Proofs.YtjjmefieegcddaaDoor
def Sub (a b:Nat):Prop:=∀ i,a.testBit i=true→b.testBit i=true
theorem Sub.rfl {a:Nat}:Sub a a:=fun _ h=>h
theorem Sub.and {a a' b b':Nat} (h1:Sub a a') (h2:Sub b b'):Sub (a &&& b) (a' &&& b'):=fun i h=>by
 rw [Nat.testBit_and,Bool.and_eq_true] at h ⊢
 exact ⟨h1 i h.1,h2 i h.2⟩
theorem Sub.or {a a' b b':Nat} (h1:Sub a a') (h2:Sub b b'):Sub (a ||| b) (a' ||| b'):=fun i h=>by
 rw [Nat.testBit_or,Bool.or_eq_true] at h ⊢
 exact h.imp (h1 i) (h2 i)
theorem Sub.shl {a a':Nat} (h:Sub a a') (n j:Nat):Sub (a * 2 ^ n % 2 ^ j) (a' * 2 ^ n % 2 ^ j):=fun i hi=>by
 rw [Nat.testBit_mod_two_pow,← Nat.shiftLeft_eq,Nat.testBit_shiftLeft,Bool.and_eq_true,Bool.and_eq_true] at hi ⊢
 exact ⟨hi.1,hi.2.1,h _ hi.2.2⟩
theorem plusStep_mono {m m' v v' out out':Nat} (hm:Sub m m') (hv:Sub v v') (ho:Sub out out') (n:Nat):Sub (plusStep m v out n) (plusStep m' v' out' n):=by
 have hs:=hv.shl n 64
 unfold plusStep
 by_cases h:m.testBit n=true
 ·rw [if_pos h,if_pos (hm n h)]
  exact ho.or hs
 ·rw [if_neg h]
  by_cases h':m'.testBit n=true
  ·rw [if_pos h']
   intro i hi
   rw [Nat.testBit_or,Bool.or_eq_true]
   exact .inl (ho i hi)
  ·rw [if_neg h']
   exact ho
theorem plusB_mono {m m' v v':Nat} (hm:Sub m m') (hv:Sub v v'):Sub (plusB m v) (plusB m' v'):=by
 have key:∀ (l:List Nat) (out out':Nat),Sub out out'→Sub (l.foldl (plusStep m v) out) (l.foldl (plusStep m' v') out'):=fun l=>by
  induction l with
  | nil=>exact fun _ _ h=>h
  | cons n l ih=>exact fun _ _ h=>ih _ _ (plusStep_mono hm hv h n)
 exact (key _ 0 0 Sub.rfl).and Sub.rfl
theorem spanN_bit {a b:Nat} (h:a≤b) (i:Nat):(spanN a b).testBit i=(decide (a≤i) && decide (i≤b)):=by
 have e:spanN a b=(2 ^ (b+1 - a) - 1) <<< a:=by
  unfold spanN
  rw [Nat.shiftLeft_eq,Nat.sub_mul,Nat.one_mul,← Nat.pow_add]
  congr 2
  omega
 rw [e,Nat.testBit_shiftLeft,Nat.testBit_two_pow_sub_one]
 by_cases h1:a≤i
 ·simp only [h1,ge_iff_le,decide_true,Bool.true_and]
  by_cases h2:i≤b
  ·simp only [h2,decide_true,decide_eq_true_eq];omega
  ·simp only [h2,decide_false,decide_eq_false_iff_not];omega
 ·simp [h1]
theorem spanB_bit (lo hi:Int) (i:Nat):(spanB lo hi).testBit i=(decide (lo≤i) && decide ((i:Int)≤hi) && decide (i≤40)):=by
 unfold spanB
 by_cases h:hi < 0∨hi < lo
 ·rw [if_pos h,Nat.zero_testBit,Eq.comm,Bool.and_eq_false_iff,Bool.and_eq_false_iff]
  simp only [decide_eq_false_iff_not]
  omega
 ·rw [if_neg h]
  by_cases h2:40 < lo
  ·rw [if_pos h2,Nat.zero_testBit,Eq.comm,Bool.and_eq_false_iff,Bool.and_eq_false_iff]
   simp only [decide_eq_false_iff_not]
   omega
  ·rw [if_neg h2,spanN_bit (by omega),Bool.eq_iff_iff]
   simp only [Bool.and_eq_true,decide_eq_true_eq]
   omega
theorem spanB_mono {lo hi hi':Int} (h:hi≤hi'):Sub (spanB lo hi) (spanB lo hi'):=fun i hi=>by
 rw [spanB_bit] at hi ⊢
 simp only [Bool.and_eq_true,decide_eq_true_eq] at hi ⊢
 omega
structure SSub (s s':SS):Prop where
 lim:∀ i,Sub (s.limAt i) (s'.limAt i)
 los:∀ i,Sub (spanB (s.losAt i).1 (s.losAt i).2) (spanB (s'.losAt i).1 (s'.losAt i).2)
theorem sub_set {l l':List Nat} (hl:l.length=l'.length) (h:∀ j,Sub (l.getD j 0) (l'.getD j 0)) (i:Nat) {x x':Nat} (hx:Sub x x') (j:Nat):Sub ((l.set i x).getD j 0) ((l'.set i x').getD j 0):=by
 rw [List.getD_eq_getElem?_getD,List.getD_eq_getElem?_getD,List.getElem?_set,List.getElem?_set,hl]
 by_cases e:i=j
 ·rw [if_pos e,if_pos e]
  split
  ·exact hx
  ·exact Sub.rfl
 ·rw [if_neg e,if_neg e,← List.getD_eq_getElem?_getD,← List.getD_eq_getElem?_getD]
  exact h j
theorem sums_mono {out out':List Nat} (h:∀ j,Sub (out.getD j 0) (out'.getD j 0)) (f:List Nat):Sub (sums out f) (sums out' f):=by
 have key:∀ (f:List Nat) (m m':Nat),Sub m m'→Sub (f.foldl (fun m x=>plusB m (out.getD x 0)) m) (f.foldl (fun m x=>plusB m (out'.getD x 0)) m'):=fun f=>by
  induction f with
  | nil=>exact fun _ _ h=>h
  | cons x f ih=>exact fun _ _ hm=>ih _ _ (plusB_mono hm (h x))
 exact key f 1 1 Sub.rfl
theorem upAt_mono (k:Wk) {s s':SS} (h:SSub s s') (m:Nat):∀ j,Sub ((upAt k s m).getD j 0) ((upAt k s' m).getD j 0):=by
 induction m with
 | zero=>exact fun j=>Sub.rfl
 | succ m ih =>
  have hl:(upAt k s m).length=(upAt k s' m).length:=by rw [upAt_len,upAt_len]
  intro j
  rw [upAt,upAt]
  refine sub_set hl ih _ ?_ j
  unfold upOne
  by_cases hf:k.fills (k.n - 1 - m)=[]
  ·rw [if_pos hf,if_pos hf];exact h.lim _
  ·rw [if_neg hf,if_neg hf]
   exact (h.lim _).and (plusB_mono (sums_mono (sub_set hl ih _ (h.lim _)) _) (h.los _))
theorem can_iff (k:Wk) (s:SS):can k s=true↔∀ i,i < k.n→(up k s).getD i 0≠0:=by
 unfold can settle
 rw [Option.isNone_iff_eq_none,List.find?_eq_none]
 constructor
 ·intro h i hi
  have:=h i (by simp [hi])
  simpa using this
 ·intro h i hi
  have:=h i (by simpa using hi)
  simpa using this
theorem can_mono (k:Wk) {s s':SS} (h:SSub s s') (hc:can k s=true):can k s'=true:=by
 rw [can_iff] at hc ⊢
 intro i hi h0
 obtain ⟨j,hj⟩:=Nat.exists_testBit_of_ne_zero (hc i hi)
 have:=upAt_mono k h k.n i j hj
 have h0':(upAt k s' k.n).getD i 0=0:=h0
 rw [h0',Nat.zero_testBit] at this
 cases this
theorem losAt_more (s:SS) (hs:s.WF) {v:Nat} (hv:v < 6) (n i:Nat):(moreS s v n).losAt i=if v=i then ((s.losAt v).1,(s.losAt v).2+n) else s.losAt i:=getD_set _ _ _ _ _ (by rw [hs.los];exact hv)
theorem more_sub {s:SS} (hs:s.WF) {v:Nat} (hv:v < 6) {n m:Nat} (h:n≤m):SSub (moreS s v n) (moreS s v m):=⟨fun i=>Sub.rfl,fun i=>by
 rw [losAt_more s hs hv,losAt_more s hs hv]
 by_cases e:v=i
 ·rw [if_pos e,if_pos e]
  exact spanB_mono (by simp only;omega)
 ·rw [if_neg e,if_neg e]
  exact Sub.rfl⟩
theorem beyond_iff (k:Wk) {v:Nat} (hv:v < 6) {n:Nat} (hn:n≤40):can k (moreS (nowS k noneB) v n)=match beyondS k v with | some m=>decide (m≤n) | none=>false:=by
 cases hb:beyondS k v with
 | none =>
  unfold beyondS at hb
  rw [List.find?_eq_none] at hb
  simpa using hb n (by simp;omega)
 | some m =>
  unfold beyondS at hb
  rw [List.find?_range_eq_some] at hb
  obtain ⟨h1,h2,h3⟩:=hb
  simp only
  by_cases hmn:m≤n
  ·rw [can_mono k (more_sub (nowS_wf k noneB) hv hmn) h1]
   simp [hmn]
  ·have:=h3 n (by omega)
   simpa [hmn] using this
def Wk.more (k:Wk) (v:Nat) (n:Nat):Wk:=⟨k.ves.set v ⟨(k.v v).from_,(k.v v).room,(k.v v).lo,(k.v v).hi+n⟩,k.rdg⟩
theorem more_n (k:Wk) (v n:Nat):(k.more v n).n=k.n:=by simp [Wk.more,Wk.n]
theorem more_v (k:Wk) {v:Nat} (hv:v < k.n) (n i:Nat):(k.more v n).v i=if v=i then ⟨(k.v v).from_,(k.v v).room,(k.v v).lo,(k.v v).hi+n⟩ else k.v i:=getD_set _ _ _ _ _ hv
theorem more_from (k:Wk) {v:Nat} (hv:v < k.n) (n i:Nat):((k.more v n).v i).from_=(k.v i).from_:=by
 rw [more_v k hv]
 split
 ·next e=>subst e;rfl
 ·rfl
theorem more_fills (k:Wk) {v:Nat} (hv:v < k.n) (n i:Nat):(k.more v n).fills i=k.fills i:=by
 unfold Wk.fills
 rw [more_n]
 congr 1
 funext j
 rw [more_from k hv]
theorem up_congr {k k':Wk} (hn:k'.n=k.n) (hf:∀ i,k'.fills i=k.fills i) (s:SS):up k' s=up k s:=by
 have key:∀ m,upAt k' s m=upAt k s m:=fun m=>by
  induction m with
  | zero=>rfl
  | succ m ih=>rw [upAt,upAt,ih,hn];unfold upOne;rw [hf]
 unfold up
 rw [hn,key]
theorem can_congr {k k':Wk} (hn:k'.n=k.n) (hf:∀ i,k'.fills i=k.fills i) (s:SS):can k' s=can k s:=by
 unfold can settle
 rw [up_congr hn hf,hn]
theorem ss_ext {s s':SS} (h1:s.lim=s'.lim) (h2:s.los=s'.los):s=s':=by
 cases s;cases s';cases h1;cases h2;rfl
theorem nowA_more (k:Wk) {v:Nat} (hv:v < k.n) (h6:k.n≤6) (n:Nat) (i:Nat):nowA (k.more v n) i=if v < i then moreS (nowA k i) v n else nowA k i:=by
 induction i with
 | zero=>rfl
 | succ i ih =>
  have hwf:=nowA_wf k i
  rw [nowA,nowA,ih,more_v k hv]
  by_cases e:v=i
  ·subst e
   rw [if_neg (by omega),if_pos rfl,if_pos (by omega)]
   unfold moreS
   have hw:((nowA k v).setLim v (spanB 0 (k.v v).room)).WF:=hwf.setLim (spanB_lt _ _)
   rw [SS.losAt_setLos _ hw v (by omega),SS.setLos_twice]
  ·rw [if_neg e]
   by_cases hvi:v < i
   ·rw [if_pos hvi,if_pos (by omega)]
    refine ss_ext rfl ?_
    have hne:((nowA k i).setLim i (spanB 0 (k.v i).room)).los=(nowA k i).los:=rfl
    have e1:(((nowA k i).setLim i (spanB 0 (k.v i).room)).setLos i ((k.v i).lo,(k.v i).hi)).losAt v=(nowA k i).losAt v:=by
     unfold SS.losAt SS.setLos
     simp only [hne]
     rw [List.getD_eq_getElem?_getD,List.getElem?_set_ne (Ne.symm e),← List.getD_eq_getElem?_getD]
    unfold moreS
    rw [e1]
    simp only [SS.setLos,SS.setLim]
    exact List.set_comm _ _ e
   ·rw [if_neg hvi,if_neg (by omega)]
theorem nowS_more (k:Wk) {v:Nat} (hv:v < k.n) (h6:k.n≤6) (n:Nat):nowS (k.more v n) noneB=moreS (nowS k noneB) v n:=by
 have key:∀ (l:List Rdg) (s:SS),l.foldl (rdOne noneB) (moreS s v n)=moreS (l.foldl (rdOne noneB) s) v n:=fun l=>by
  induction l with
  | nil=>exact fun _=>rfl
  | cons r l ih=>exact fun s=>ih (rdOne noneB s r)
 unfold nowS
 rw [more_n,nowA_more k hv h6,if_pos hv]
 exact key k.rdg _
theorem can_more (k:Wk) {v:Nat} (hv:v < k.n) (h6:k.n≤6) (n:Nat):can (k.more v n) (nowS (k.more v n) noneB)=can k (moreS (nowS k noneB) v n):=by
 rw [can_congr (more_n k v n) (more_fills k hv n),nowS_more k hv h6]
theorem more_ok {k:Wk} (hk:k.Ok) {v:Nat} (hv:v < k.n) {n:Nat} (hn:(k.v v).hi+n≤20):(k.more v n).Ok:=by
 refine ⟨by rw [more_n];exact hk.pos,by rw [more_n];exact hk.le,fun i hi=>?_,hk.rdl,fun i hi=>by rw [more_n];exact hk.rdg i hi⟩
 rw [more_n] at hi
 rw [more_v k hv]
 split
 ·next e =>
  subst e
  obtain ⟨h1,h2,h3,h4,h5,h6,h7,h8,h9⟩:=hk.ves v hv
  exact ⟨h1,h2,h3,h4,h5,h6,by simp only;omega,hn,by simp only;omega⟩
 ·exact hk.ves i hi
theorem firstE_all0 {l:List Int} (h:∀ e∈l,e=0):firstE l=0:=by
 induction l with
 | nil=>rfl
 | cons e l ih=>rw [firstE,if_pos (h e (by simp))];exact ih fun x hx=>h x (by simp [hx])
theorem outB_in {n lo hi:Int} (h1:lo≤n) (h2:n≤hi):outB n lo hi=false:=by
 unfold outB
 rw [Bool.or_eq_false_iff,decide_eq_false_iff_not,decide_eq_false_iff_not]
 omega
theorem checkE_ok {k:Wk} (h:k.Ok):checkE k=0:=by
 have h0:=h.pos
 have h6:=h.le
 have hr:=h.rdl
 have hv:vesTo k k.n=0:=firstE_all0 fun e he=>by
  obtain ⟨i,hi,rfl⟩:=List.mem_map.1 he
  have hi:=List.mem_range.1 hi
  obtain ⟨h1,h2,h3,h4,h5,h6,h7,h8,h9⟩:=h.ves i hi
  unfold vesE
  rw [outB_in (by omega) (by omega),outB_in h3 h4,outB_in h5 h6,outB_in h7 h8]
  simp [unlessE,firstE,h9]
 have hd:rdgTo k k.rdg.length=0:=firstE_all0 fun e he=>by
  obtain ⟨i,hi,rfl⟩:=List.mem_map.1 he
  have hi:=List.mem_range.1 hi
  obtain ⟨h1,h2,h3,h4,h5,h6,h7,h8⟩:=h.rdg i hi
  unfold rdgE
  rw [outB_in h1 (by omega),outB_in h3 h4,outB_in h5 h6,outB_in h7 h8]
  simp [unlessE,firstE]
 unfold checkE
 rw [hv,hd,if_neg (by omega)]
 simp [unlessE,firstE,h0,h6]
theorem beginE_ok {k:Wk} (h:k.Ok) (ns:List Int) (hn:∀ n∈ns,0≤n∧n < k.n):beginE k ns=0:=by
 unfold beginE
 rw [checkE_ok h]
 simp only [ne_eq,not_true,if_false]
 rw [if_pos]
 rw [List.all_eq_true]
 intro n hm
 obtain ⟨h1,h2⟩:=hn n hm
 rw [outB_in h1 (by omega)]
 rfl
end Go.Wg
namespace Go.Wg
open Go Go.Mm Go.Proofs.YtjjmefieegcddaaDoor
variable {w0:World} {V:View} {L:List Ent} {w:World}
theorem inD_more {D D':List Nat} (h:∀ b∈D,b∈D') {v:Value} (hv:inD D v):inD D' v:=by
 rcases hv with hv | ⟨b,o,rfl,hb⟩ | ⟨b,o,n,c,rfl,hb⟩
 ·exact .inl hv
 ·exact .inr (.inl ⟨b,o,rfl,h b hb⟩)
 ·exact .inr (.inr ⟨b,o,n,c,rfl,h b hb⟩)
theorem vessels_view {k:Wk} {l:List Ves} {vv vv' rv:Value} (h:St w0 [] V (.row vv' 29 4 l.length (vesC l) :: L) w) (hg:gN≤w0.heap.size) (hk:WkIn V vv rv k) (hl:l.length≤100) :
  ∃ V',(∀ j o,V j=some o→V' j=some o)∧St w0 [] V' L w∧WkIn V' vv' rv ⟨l,k.rdg⟩:=by
 have hv4:∀ v:Ves,v.cells.length=4:=fun _=>rfl
 have hfl:∀ i,i < l.length→l[i]? = some ((⟨l,k.rdg⟩:Wk).v i):=fun i hi=>by simp [Wk.v,List.getD_eq_getElem?_getD,List.getElem?_eq_getElem hi]
 obtain ⟨D,hD,_,hrD⟩:=hk.cl
 rcases row_cases h with ⟨rfl,h0⟩ | ⟨g,cap,pad,rfl,c1,c2,c3,c4,c5,h1⟩
 ·refine ⟨V,fun _ _ h=>h,h.drop,⟨⟨none,0,by show Value.slice none 0 0=.slice none l.length 0;rw [h0],by show l.length≤0;omega,by decide,fun hn=>?_⟩,hk.rdg,⟨hl,hk.small.2⟩,D,hD,.inl rfl,hrD⟩⟩
  have:0 < l.length:=hn
  omega
 ·have hgV:=h1.off _ (List.mem_cons_self ..) g rfl
  have hgn:gN≤g:=by
   rcases h1.new _ (List.mem_cons_self ..) _ rfl with h2 | h2
   ·omega
   ·cases h2
  have h2:=h1.freeze
  have m1:=view_more (o:=.cells (vesC l ++ pad).toArray 29 (0,0)) hgV
  refine ⟨_,m1,h2,⟨⟨_,cap,rfl,c1,c2,fun _=>⟨g,0,rfl,fun i hi=>range_of hv4 (if_pos rfl) (hfl i hi)⟩⟩,?_,⟨hl,hk.small.2⟩,g :: D,⟨fun b hb=>?_,fun b hb=>?_,?_⟩,.inr (.inr ⟨g,0,_,_,rfl,by simp⟩),inD_more (fun b hb=>List.mem_cons_of_mem _ hb) hrD⟩⟩
  ·exact VSl.mono hk.rdg m1
  ·rcases List.mem_cons.1 hb with rfl | hb
   ·refine ⟨_,_,if_pos rfl,fun v hv=>.inl ?_⟩
    rcases List.mem_append.1 (by simpa using hv) with hv | hv
    ·exact vesC_flat _ v hv
    ·exact c5 v hv
   ·obtain ⟨cs,t,e1,e2⟩:=hD.cells b hb
    exact ⟨cs,t,m1 _ _ e1,fun v hv=>inD_more (fun b hb=>List.mem_cons_of_mem _ hb) (e2 v hv)⟩
  ·rcases List.mem_cons.1 hb with rfl | hb
   ·exact hgn
   ·exact hD.ge b hb
  ·obtain ⟨o,ho⟩:=hD.last
   exact ⟨o,m1 _ _ ho⟩
theorem mem_thieves (k:Wk) (v m:Nat):(v:Int)∈thievesTo k m↔v < m∧∃ n,beyondS k v=some n∧0 < n:=by
 induction m with
 | zero=>simp [thievesTo]
 | succ m ih =>
  rw [thievesTo]
  by_cases e:v=m
  ·subst e
   have hno:¬ (v:Int)∈thievesTo k v:=by rw [ih];omega
   cases hb:beyondS k v with
   | none=>simp [hno]
   | some n =>
    simp only
    by_cases h0:0 < n
    ·rw [if_pos h0];simp [h0]
    ·rw [if_neg h0];simp [hno,h0]
  ·have hlt:v < m+1↔v < m:=by omega
   have hne:(v:Int)≠(m:Int):=by omega
   rw [hlt,← ih]
   cases hb:beyondS k m with
   | none=>rfl
   | some n =>
    simp only
    by_cases h0:0 < n
    ·rw [if_pos h0];simp [hne]
    ·rw [if_neg h0]
end Go.Wg
namespace Go.Proofs.YtjjmefieegcddaaDoor
open Go.RowKit Go.Wg Go.Mm
variable {w:World} {V:View}
theorem wrap_nonneg (x:Int):0≤IntKind.u64.wrap x:=by
 unfold IntKind.wrap
 simp only [IntKind.signed,Bool.false_eq_true,if_false]
 exact Int.emod_nonneg _ (by decide)
theorem bits_nonneg (x y:Int):0≤bits .xor .u64 x y:=wrap_nonneg _
set_option maxRecDepth 20000 in
set_option maxHeartbeats 4000000 in
theorem stir_ok (bh:Nat) (l:List Int) (lv:Value) (hl:VI V lv l) (cn st:Int) (h0:0≤cn) (hc:cn≤1000000) (hVb:V bh=none) (hV:V.In w) (hg:w.heap[bh]? = some (.cells (hatC lv cn st).toArray 90 (0,0))) :
  Calls Tryd.prog 96 #[ptr bh] w fun e w'=>∃ v,e=.returned v∧(∃ x:Int,v=.int .u64 x∧0≤x)∧HatK bh lv cn 1 w w':=by
 obtain ⟨la,lcap,rfl,hlc,hlm,hle⟩:=hl.is
 have hS:=St.start1 w V hV hg hVb
 clear hl hg
 unfold ptr
 by_cases hlt:cn < l.length
 ·obtain ⟨lg,lo,rfl,hlr⟩:=hle (by omega)
  obtain ⟨c,hcn⟩:∃ c:Nat,cn=(c:Int):=⟨cn.toNat,by omega⟩
  subst hcn
  have hcell:=hlr c (by omega) 0 _ rfl
  simp only [Nat.mul_one,Nat.add_zero] at hcell
  generalize l.getD c 0=y at hcell
  clear hle hlr
  go_enter Tryd.func96,Tryd.ntmps96
  go_wp2_with (((with_reducible refine gL ?_);refine ql1 hS rfl rfl rfl ?_);refine ⟨_,zd,?_⟩;clear hS;(try clear w');intro a' hp;(try simp only [fr] at hp);subst hp;intro w' hS;(try simp only [sE] at hS))
  (refine held_start (S:=(St w [bh] V [.blk bh 90 (hatC (.slice (some ⟨lg,lo,none⟩) l.length lcap) (c:Int) st)])) [false,false,false,false,false,false,false,false,false,false] rfl (by kernel_rfl) ?_;replace hS:=St.drew1 hS;(iterate 10 ((first | refine hxm 0 rfl ?_ | refine hxp 1 rfl ?_ | refine hxp 2 rfl ?_ | refine hxa 3 rfl ?_ | refine hxm 4 rfl ?_ | refine hxp 5 rfl ?_ | refine hxp 6 rfl ?_ | refine hxa 7 rfl ?_ | refine hxp 8 rfl ?_ | refine hxp 9 rfl ?_);intro a' l' hp hl;(try simp only [fr] at hp);(try simp only [sB] at hl);subst hp;subst hl));refine wpAnyH_done (by kernel_rfl) ?_ _)
  go_wp2_with (fail)
  (refine held_start (S:=(St w [bh] V [.blk bh 90 (hatC (.slice (some ⟨lg,lo,none⟩) l.length lcap) (c:Int) st)])) [false,false,false,false,false,false,false,false,false,false,false,false,false,false,false] rfl (by kernel_rfl) ?_;replace hS:=St.drew1 hS;(iterate 15 ((first | refine hxm 0 rfl ?_ | refine hxm 1 rfl ?_ | refine hxp 2 rfl ?_ | refine hxp 3 rfl ?_ | refine hxa 4 rfl ?_ | refine hxm 5 rfl ?_ | refine hxp 6 rfl ?_ | refine hxp 7 rfl ?_ | refine hxa 8 rfl ?_ | refine hxp 9 rfl ?_ | refine hxc 10 rfl ?_ | refine hxp 11 rfl ?_ | refine hxp 12 rfl ?_ | refine hxp 13 rfl ?_ | refine hxp 14 rfl ?_);intro a' l' hp hl;(try simp only [fr] at hp);(try simp only [sB] at hl);subst hp;subst hl));refine wpAnyH_done (by kernel_rfl) ?_ _)
  generalize bits .xor .u64 _ _=t3
  go_wp2_with ((first | ((with_reducible refine gL ?_);refine ql1 hS rfl rfl rfl ?_) | ((with_reducible refine gS ?_);refine qs1 hS rfl rfl rfl ?_));refine ⟨_,zd,?_⟩;clear hS;(try clear w');intro a' hp;(try simp only [fr] at hp);subst hp;intro w' hS;(try simp only [sE] at hS))
  (refine held_start (S:=(St w [bh] V [])) [false,false,false,false,false,false,false,false,false,false,false,false,false,false] rfl (by kernel_rfl) ?_;replace hS:=St.drew1 hS;(iterate 7 ((first | refine hxm 0 rfl ?_ | refine hxm 1 rfl ?_ | refine hxp 2 rfl ?_ | refine hxp 3 rfl ?_ | refine hxm 5 rfl ?_ | refine hxp 6 rfl ?_ | refine hxp 7 rfl ?_);intro a' l' hp hl;(try simp only [fr] at hp);(try simp only [sB] at hl);subst hp;subst hl));refine he_two 4 8 (by kernel_rfl) ?_ ?_;rotate_left;(refine we_l1 8 rfl hS rfl  rfl rfl ?_;refine ⟨_,zd,?_⟩;clear hS;(try clear w');intro a' l' hp hl;(try simp only [fr] at hp);(try simp only [sB] at hl);subst hp;subst hl;intro w' hS;refine ⟨(St.subI hS),?_⟩);(refine hxp 9 rfl ?_;intro a' l' hp hl;(try simp only [fr] at hp);(try simp only [sB] at hl);subst hp;subst hl);(refine he_l1 4 (by kernel_rfl) rfl hS rfl rfl rfl ?_;refine ⟨_,zd,?_⟩;clear hS;(try clear w');intro a' l' hp hl;(try simp only [fr] at hp);(try simp only [sB] at hl);subst hp;subst hl;intro w' hS;refine ⟨(St.subI hS),?_⟩);(iterate 3 ((first | refine hxp 10 rfl ?_ | refine hxp 11 rfl ?_ | refine hxp 12 rfl ?_);intro a' l' hp hl;(try simp only [fr] at hp);(try simp only [sB] at hl);subst hp;subst hl));((refine he_s1 13 (by kernel_rfl) rfl hS rfl  rfl rfl ?_;refine ⟨_,zd,?_⟩);clear hS;(try clear w');intro a' l' hp hl;(try simp only [fr] at hp);(try simp only [sB] at hl);subst hp;subst hl;intro w' hS;(try simp only [sE] at hS);refine ⟨(St.subI hS),?_⟩);refine wpAnyH_done (by kernel_rfl) ?_ _;rotate_left;(refine we_l1 4 rfl hS rfl  rfl rfl ?_;refine ⟨_,zd,?_⟩;clear hS;(try clear w');intro a' l' hp hl;(try simp only [fr] at hp);(try simp only [sB] at hl);subst hp;subst hl;intro w' hS;refine ⟨(St.subI hS),?_⟩);(refine he_l1 8 (by kernel_rfl) rfl hS rfl rfl rfl ?_;refine ⟨_,zd,?_⟩;clear hS;(try clear w');intro a' l' hp hl;(try simp only [fr] at hp);(try simp only [sB] at hl);subst hp;subst hl;intro w' hS;refine ⟨(St.subI hS),?_⟩);(iterate 4 ((first | refine hxp 9 rfl ?_ | refine hxp 10 rfl ?_ | refine hxp 11 rfl ?_ | refine hxp 12 rfl ?_);intro a' l' hp hl;(try simp only [fr] at hp);(try simp only [sB] at hl);subst hp;subst hl));((refine he_s1 13 (by kernel_rfl) rfl hS rfl  rfl rfl ?_;refine ⟨_,zd,?_⟩);clear hS;(try clear w');intro a' l' hp hl;(try simp only [fr] at hp);(try simp only [sB] at hl);subst hp;subst hl;intro w' hS;(try simp only [sE] at hS);refine ⟨(St.subI hS),?_⟩);refine wpAnyH_done (by kernel_rfl) ?_ _)
  all_goals (go_wp2_with (((with_reducible refine gL ?_);refine ql1 hS rfl rfl rfl ?_);refine ⟨_,zd,?_⟩;clear hS;(try clear w');intro a' hp;(try simp only [fr] at hp);subst hp;intro w' hS;(try simp only [sE] at hS)))
  all_goals (((try simp only [Exit.inBlock,Exit.then]);(try refine bodyPost_norm ?_);refine ret_by ⟨_,by exact results1 (r1:=.tmp 2) (by kernel_rfl) (by exact rs_tmp rfl),?_⟩ rfl))
  all_goals exact ⟨_,rfl,⟨_,rfl,Int.ediv_nonneg (bits_nonneg _ _) (by decide)⟩,hatK_of hS (by omega) (by omega)⟩
 ·clear hle
  go_enter Tryd.func96,Tryd.ntmps96
  go_wp2_with (((with_reducible refine gL ?_);refine ql1 hS rfl rfl rfl ?_);refine ⟨_,zd,?_⟩;clear hS;(try clear w');intro a' hp;(try simp only [fr] at hp);subst hp;intro w' hS;(try simp only [sE] at hS))
  (refine held_start (S:=(St w [bh] V [.blk bh 90 (hatC (.slice la l.length lcap) cn st)])) [false,false,false,false,false,false,false,false,false,false] rfl (by kernel_rfl) ?_;replace hS:=St.drew1 hS;(iterate 10 ((first | refine hxm 0 rfl ?_ | refine hxp 1 rfl ?_ | refine hxp 2 rfl ?_ | refine hxa 3 rfl ?_ | refine hxm 4 rfl ?_ | refine hxp 5 rfl ?_ | refine hxp 6 rfl ?_ | refine hxa 7 rfl ?_ | refine hxp 8 rfl ?_ | refine hxp 9 rfl ?_);intro a' l' hp hl;(try simp only [fr] at hp);(try simp only [sB] at hl);subst hp;subst hl));refine wpAnyH_done (by kernel_rfl) ?_ _)
  go_wp2_with ((first | ((with_reducible refine gL ?_);refine ql1 hS rfl rfl rfl ?_) | ((with_reducible refine gS ?_);refine qs1 hS rfl rfl rfl ?_));refine ⟨_,zd,?_⟩;clear hS;(try clear w');intro a' hp;(try simp only [fr] at hp);subst hp;intro w' hS;(try simp only [sE] at hS))
  (refine held_start (S:=(St w [bh] V [])) [false,false,false,false,false,false,false,false,false,false,false,false,false,false] rfl (by kernel_rfl) ?_;replace hS:=St.drew1 hS;(iterate 7 ((first | refine hxm 0 rfl ?_ | refine hxm 1 rfl ?_ | refine hxp 2 rfl ?_ | refine hxp 3 rfl ?_ | refine hxm 5 rfl ?_ | refine hxp 6 rfl ?_ | refine hxp 7 rfl ?_);intro a' l' hp hl;(try simp only [fr] at hp);(try simp only [sB] at hl);subst hp;subst hl));refine he_two 4 8 (by kernel_rfl) ?_ ?_;rotate_left;(refine we_l1 8 rfl hS rfl  rfl rfl ?_;refine ⟨_,zd,?_⟩;clear hS;(try clear w');intro a' l' hp hl;(try simp only [fr] at hp);(try simp only [sB] at hl);subst hp;subst hl;intro w' hS;refine ⟨(St.subI hS),?_⟩);(refine hxp 9 rfl ?_;intro a' l' hp hl;(try simp only [fr] at hp);(try simp only [sB] at hl);subst hp;subst hl);(refine he_l1 4 (by kernel_rfl) rfl hS rfl rfl rfl ?_;refine ⟨_,zd,?_⟩;clear hS;(try clear w');intro a' l' hp hl;(try simp only [fr] at hp);(try simp only [sB] at hl);subst hp;subst hl;intro w' hS;refine ⟨(St.subI hS),?_⟩);(iterate 3 ((first | refine hxp 10 rfl ?_ | refine hxp 11 rfl ?_ | refine hxp 12 rfl ?_);intro a' l' hp hl;(try simp only [fr] at hp);(try simp only [sB] at hl);subst hp;subst hl));((refine he_s1 13 (by kernel_rfl) rfl hS rfl  rfl rfl ?_;refine ⟨_,zd,?_⟩);clear hS;(try clear w');intro a' l' hp hl;(try simp only [fr] at hp);(try simp only [sB] at hl);subst hp;subst hl;intro w' hS;(try simp only [sE] at hS);refine ⟨(St.subI hS),?_⟩);refine wpAnyH_done (by kernel_rfl) ?_ _;rotate_left;(refine we_l1 4 rfl hS rfl  rfl rfl ?_;refine ⟨_,zd,?_⟩;clear hS;(try clear w');intro a' l' hp hl;(try simp only [fr] at hp);(try simp only [sB] at hl);subst hp;subst hl;intro w' hS;refine ⟨(St.subI hS),?_⟩);(refine he_l1 8 (by kernel_rfl) rfl hS rfl rfl rfl ?_;refine ⟨_,zd,?_⟩;clear hS;(try clear w');intro a' l' hp hl;(try simp only [fr] at hp);(try simp only [sB] at hl);subst hp;subst hl;intro w' hS;refine ⟨(St.subI hS),?_⟩);(iterate 4 ((first | refine hxp 9 rfl ?_ | refine hxp 10 rfl ?_ | refine hxp 11 rfl ?_ | refine hxp 12 rfl ?_);intro a' l' hp hl;(try simp only [fr] at hp);(try simp only [sB] at hl);subst hp;subst hl));((refine he_s1 13 (by kernel_rfl) rfl hS rfl  rfl rfl ?_;refine ⟨_,zd,?_⟩);clear hS;(try clear w');intro a' l' hp hl;(try simp only [fr] at hp);(try simp only [sB] at hl);subst hp;subst hl;intro w' hS;(try simp only [sE] at hS);refine ⟨(St.subI hS),?_⟩);refine wpAnyH_done (by kernel_rfl) ?_ _)
  all_goals (go_wp2_with (((with_reducible refine gL ?_);refine ql1 hS rfl rfl rfl ?_);refine ⟨_,zd,?_⟩;clear hS;(try clear w');intro a' hp;(try simp only [fr] at hp);subst hp;intro w' hS;(try simp only [sE] at hS)))
  all_goals (((try simp only [Exit.inBlock,Exit.then]);(try refine bodyPost_norm ?_);refine ret_by ⟨_,by exact results1 (r1:=.tmp 2) (by kernel_rfl) (by exact rs_tmp rfl),?_⟩ rfl))
  all_goals exact ⟨_,rfl,⟨_,rfl,Int.ediv_nonneg (bits_nonneg _ _) (by decide)⟩,hatK_of hS (by omega) (by omega)⟩
end Go.Proofs.YtjjmefieegcddaaDoor
namespace Go.Proofs.YtjjmefieegcddaaDoor
open Go.RowKit Go.Wg Go.Mm
variable {w:World} {V:View}
structure HatOf (V:View) (bh:Nat) (lv:Value) (cn:Int):Prop where
 list:∃ l:List Int,VI V lv l
 pos:0≤cn
 small:cn≤1000000
class IntsL (cs:List Value) (l:outParam (List Int)):Prop where
 ok:cs=intsC l
instance:IntsL [] []:=⟨rfl⟩
instance {x:Int} {cs:List Value} {l:List Int} [h:IntsL cs l]:IntsL (.int .i64 x :: cs) (x :: l):=⟨by rw [h.ok];rfl⟩
set_option maxHeartbeats 1000000 in
theorem To_ok {bh:Nat} {lv:Value} {cn st n:Int} (hh:HatOf V bh lv cn) (hn:n≤1000∧-1000≤n) (hV:V.In w) (hVb:V bh=none) (hg:w.heap[bh]? = some (.cells (hatC lv cn st).toArray 90 (0,0))) :
  Calls Tryd.prog 39 #[.pointer (some ⟨bh,0,none⟩),.int .i64 n] w fun e w'=>∃ v,e=.returned v∧(∃ x:Int,v=.int .i64 x∧0≤x∧x≤max n 0)∧HatK bh lv cn 1 w w':=by
 obtain ⟨⟨l,hl⟩,h0,hc⟩:=hh
 obtain ⟨hn1,hn2⟩:=hn
 have hS:=St.start1 w V hV hg hVb
 have hst:=fun (w:World) (hV:V.In w)=>stir_ok (w:=w) bh l lv hl cn st h0 hc hVb hV
 clear hl hg
 by_cases h1:n < 1
 ·go_enter Tryd.func39,Tryd.ntmps39
  go_wp2_with (go_at_call 96;refine calls_hat hS ⟨1,_,fun _ hg=>hst _ (St.view hS) hg,?_⟩;clear hS;(try clear w');intro v cn' st' w' hp k1 k2 hS;(try simp only [sE] at hS);obtain ⟨x,rfl,hx⟩:=hp)
  ((try simp only [Exit.inBlock,Exit.then]);(try refine bodyPost_norm ?_);refine ret_by ⟨_,by exact results1 (r1:=.tmp 4) (by kernel_rfl) (by exact rs_tmp rfl),?_⟩ rfl)
  exact ⟨_,rfl,⟨_,rfl,by omega,by omega⟩,hatK_of hS (by omega) (by omega)⟩
 ·have hw:IntKind.u64.wrap n=n:=wrap_u64 n (by omega) (by omega)
  have hw2:IntKind.u64.wrap (n+1)=n+1:=wrap_u64 (n+1) (by omega) (by omega)
  have hr:∀ x:Int,0≤wrap64 (x % (n+1))∧wrap64 (x % (n+1))≤n:=fun x=>by
   have h2:=Int.emod_nonneg x (b:=n+1) (by omega)
   have h3:=Int.emod_lt_of_pos x (b:=n+1) (by omega)
   unfold wrap64
   omega
  replace hr:=mkHid hr
  go_enter Tryd.func39,Tryd.ntmps39
  go_wp2_with (go_at_call 96;refine calls_hat hS ⟨1,_,fun _ hg=>hst _ (St.view hS) hg,?_⟩;clear hS;(try clear w');intro v cn' st' w' hp k1 k2 hS;(try simp only [sE] at hS);obtain ⟨x,rfl,hx⟩:=hp)
  ((try simp only [Exit.inBlock,Exit.then]);(try refine bodyPost_norm ?_);refine ret_by ⟨_,by exact results1 (r1:=.tmp 4) (by kernel_rfl) (by exact rs_tmp rfl),?_⟩ rfl)
  obtain ⟨k3,k4⟩:=hr.out x
  exact ⟨_,rfl,⟨_,rfl,k3,by omega⟩,hatK_of hS (by omega) (by omega)⟩
set_option maxHeartbeats 1000000 in
theorem From_ok {bh:Nat} {lv:Value} {cn st lo hi:Int} (hh:HatOf V bh lv cn) (hn:lo≤400∧-400≤lo∧hi≤400∧-400≤hi) (hV:V.In w) (hVb:V bh=none) (hg:w.heap[bh]? = some (.cells (hatC lv cn st).toArray 90 (0,0))) :
  Calls Tryd.prog 95 #[.pointer (some ⟨bh,0,none⟩),.int .i64 lo,.int .i64 hi] w fun e w'=>∃ v,e=.returned v∧(∃ x:Int,v=.int .i64 x∧lo≤x∧x≤max lo hi)∧HatK bh lv cn 1 w w':=by
 have hS:=St.start1 w V hV hg hVb
 go_enter Tryd.func95,Tryd.ntmps95
 go_wp2_with (go_at_call 39;refine calls_hat hS ⟨1,_,fun _ hg=>To_ok hh (by omega) (St.view hS) hVb hg,?_⟩;clear hS;(try clear w');intro v cn' st' w' hp k1 k2 hS;(try simp only [sE] at hS);obtain ⟨x,rfl,hx⟩:=hp)
 ((try simp only [Exit.inBlock,Exit.then]);(try refine bodyPost_norm ?_);refine ret_by ⟨_,by exact results1 (r1:=.tmp 6) (by kernel_rfl) (by exact rs_tmp rfl),?_⟩ rfl)
 exact ⟨_,rfl,⟨_,rfl,by omega,by omega⟩,hatK_of hS (by omega) (by omega)⟩
set_option maxHeartbeats 1000000 in
theorem Seldom_ok {bh:Nat} {lv:Value} {cn st n:Int} (hh:HatOf V bh lv cn) (hn:n≤1000∧0≤n) (hV:V.In w) (hVb:V bh=none) (hg:w.heap[bh]? = some (.cells (hatC lv cn st).toArray 90 (0,0))) :
  Calls Tryd.prog 72 #[.pointer (some ⟨bh,0,none⟩),.int .i64 n] w fun e w'=>∃ v,e=.returned v∧(∃ x:Bool,v=.bool x)∧HatK bh lv cn 1 w w':=by
 have hS:=St.start1 w V hV hg hVb
 go_enter Tryd.func72,Tryd.ntmps72
 go_wp2_with (go_at_call 39;refine calls_hat hS ⟨1,_,fun _ hg=>To_ok hh (by omega) (St.view hS) hVb hg,?_⟩;clear hS;(try clear w');intro v cn' st' w' hp k1 k2 hS;(try simp only [sE] at hS);obtain ⟨x,rfl,hx⟩:=hp)
 ((try simp only [Exit.inBlock,Exit.then]);(try refine bodyPost_norm ?_);refine ret_by ⟨_,by exact results1 (r1:=.tmp 4) (by kernel_rfl) (by exact rs_tmp rfl),?_⟩ rfl)
 exact ⟨_,rfl,⟨_,rfl⟩,hatK_of hS (by omega) (by omega)⟩
theorem intsL_at {cs:List Value} {l:List Int} (h:cs=intsC l) {i:Nat} (hi:i < l.length):cs[i]? = some (.int .i64 (l.getD i 0)):=by
 subst h
 simp [intsC,List.getD_eq_getElem?_getD,List.getElem?_eq_getElem hi]
set_option maxHeartbeats 1000000 in
theorem One_ok {bh b n cap:Nat} {lv:Value} {cn st:Int} {cs:List Value} {t:TypeId} {l2:List Int} [hcs:IntsL cs l2] (hh:HatOf V bh lv cn) (hb:w.heap[b]? = some (.cells cs.toArray t (0,0))) (hl:l2.length=n∧0 < n∧n≤100) (hV:V.In w) (hVb:V bh=none) (hbb:b≠bh) (hg:w.heap[bh]? = some (.cells (hatC lv cn st).toArray 90 (0,0))) :
  Calls Tryd.prog 91 #[.pointer (some ⟨bh,0,none⟩),.slice (some ⟨b,0,none⟩) n cap] w fun e w'=>∃ v,e=.returned v∧(∃ x:Int,v=.int .i64 x∧x∈l2)∧HatK bh lv cn 1 w w':=by
 have hcs':=hcs.ok
 obtain ⟨rfl,hn0,hn1⟩:=hl
 have hsub:∀ j o,V j=some o→Vw V b (.cells cs.toArray t (0,0)) j=some o:=fun j o hj=>by
  by_cases e:j=b
  ·subst e
   rw [Vw.same]
   have:=hV j o hj
   rw [hb] at this
   exact this
  ·rw [Vw.other _ _ e];exact hj
 have hV':(Vw V b (.cells cs.toArray t (0,0))).In w:=fun j o hj=>by
  by_cases e:j=b
  ·subst e
   rw [Vw.same] at hj
   cases hj
   exact hb
  ·rw [Vw.other _ _ e] at hj;exact hV j o hj
 have hVb':(Vw V b (.cells cs.toArray t (0,0))) bh=none:=by rw [Vw.other _ _ (Ne.symm hbb)];exact hVb
 have hh':HatOf (Vw V b (.cells cs.toArray t (0,0))) bh lv cn:=by
  obtain ⟨⟨l,hl⟩,h0,hc⟩:=hh
  exact ⟨⟨l,VSl.mono hl hsub⟩,h0,hc⟩
 have hcell:∀ i:Nat,i < l2.length→(Vw V b (.cells cs.toArray t (0,0))).Cell b i (.int .i64 (l2.getD i 0)):=fun i hi=>⟨_,_,_,Vw.same _ _ _,by simpa using intsL_at hcs' hi⟩
 generalize Vw V b (.cells cs.toArray t (0,0))=V2 at hV' hVb' hh' hcell
 clear hV hVb hh hsub hcs hcs' hb
 have hS:=St.start1 w V2 hV' hg hVb'
 go_enter Tryd.func91,Tryd.ntmps91
 go_wp2_with (first | (((with_reducible refine gL ?_);refine qv1 hS rfl rfl rfl ?_);refine ⟨_,zd,?_⟩;clear hS;(try clear w');intro a' hp;(try simp only [fr] at hp);subst hp;intro w' hS;(try simp only [sE] at hS)) | (go_at_call 39;refine calls_hat hS ⟨1,_,fun _ hg=>To_ok hh' (by omega) (St.view hS) hVb' hg,?_⟩;clear hS;(try clear w');intro v cn' st' w' hp k1 k2 hS;(try simp only [sE] at hS);obtain ⟨x,rfl,hx0,hx1⟩:=hp;obtain ⟨m,hm⟩:∃ m:Nat,x=(m:Int):=⟨x.toNat,by omega⟩;subst hm;have hc:=hcell m (by omega);have hm1:(m:Int) < l2.length:=by omega))
 ((try simp only [Exit.inBlock,Exit.then]);(try refine bodyPost_norm ?_);refine ret_by ⟨_,by exact results1 (r1:=.tmp 4) (by kernel_rfl) (by exact rs_tmp rfl),?_⟩ rfl)
 refine ⟨_,rfl,⟨_,rfl,?_⟩,hatK_of hS (by omega) (by omega)⟩
 rw [List.getD_eq_getElem?_getD,List.getElem?_eq_getElem (by omega)]
 exact List.getElem_mem _
theorem NewHat_ok {lv:Value} (hlv:∃ a n c,lv=.slice a n c):Calls Tryd.prog 23 #[lv] w fun e w'=>∃ g,e=.returned (.pointer (some ⟨g,0,none⟩))∧Kp w w'∧w.heap.size≤g∧w'.heap[g]? = some (.cells (hatC lv 0 11400714819323198485).toArray 90 (0,0)):=by
 obtain ⟨a,n,c,rfl⟩:=hlv
 have hS:=St.start w (fun _=>none) (fun _ _ h=>nomatch h)
 go_enter Tryd.func23,Tryd.ntmps23
 go_wp2_with (((with_reducible refine gB ?_);refine qbox hS rfl rfl rfl ?_;refine ⟨_,za,?_⟩);clear hS;(try clear w');intro _;intro a' hp;(try simp only [fr] at hp);subst hp;intro w' hS)
 ((try simp only [Exit.inBlock,Exit.then]);(try refine bodyPost_norm ?_);refine ret_by ⟨_,by exact results1 (r1:=.tmp 2) (by kernel_rfl) (by exact rs_tmp rfl),?_⟩ rfl)
 exact ⟨_,rfl,hS.toKp,hS.newAt,hS.has1⟩
end Go.Proofs.YtjjmefieegcddaaDoor
