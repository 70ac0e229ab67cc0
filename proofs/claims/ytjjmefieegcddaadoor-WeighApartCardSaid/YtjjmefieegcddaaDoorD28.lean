/- A part of the proof: T29, S27, S28, S30, S31, W89, S32. -/
import Derived.Test.YtjjmefieegcddaaDoorD27
import Derived.Test.YtjjmefieegcddaaDoorD25
import Derived.Test.YtjjmefieegcddaaDoorD15
set_option linter.unusedVariables false
set_option linter.unusedSimpArgs false
set_option maxHeartbeats 8000000
namespace Go.Tm
open Go
open Go.Conc
variable {P:Program}
section
variable {tgt k:List Item} {S:Act→World→Prop} {a:Act} {w:World}
theorem aa7 {todo todo':List Item} {a':Act} {w':World} (hs:∀ (b:Frame) (cs:List Frame),b.kind=.normal→Steps P (lone (b.at a todo) cs w) (lone (b.at a' todo') cs w')) (h:fA P tgt S todo' a' w'):fA P tgt S todo a w:=fun b cs hb=>by
 obtain ⟨a2,w2,h1,h2⟩:=h b cs hb
 exact ⟨a2,w2,h1,(hs b cs hb).trans h2⟩
theorem abY {ops:Array Oper} {l2:List Nat}:∀ (l1:List Nat) (a:Act) (w:World),wpOps P ops (fun e a' w'=>e=.normal∧fA P tgt S (.inRegion ops l2 :: k) a' w') l1 a w→fA P tgt S (.inRegion ops (l1 ++ l2) :: k) a w
 | [],a,w,h=>h.2
 | i :: rest,a,w,h=>by
  have ih:=abY (ops:=ops) (l2:=l2) rest
  simp only [wpOps] at h
  rw [List.cons_append]
  cases ho:ops[i]? with
  | none =>
   simp only [ho] at h
   refine aa7 (fun b cs _=>?_) (ih a w h)
   have hs:=step_op_skip (P:=P) (b:=b) (a:=a) (k:=k) (cs:=cs) (w:=w) (ops:=ops) (i:=i) (rest:=rest ++ l2) (by simp [ho])
   simp only [ho,Option.bind_none,Act.put] at hs
   exact .one hs
  | some o =>
   simp only [ho] at h
   by_cases hw:Region.wanted o (yielded ops a.tmps)=true
   ·simp only [hw,if_true] at h
    rcases h with h | ⟨hasks,a₀,w₀,hq⟩
    case inr=>exact nomatch hq.1
    simp only [Oper.wp,Oper.upon] at h
    split at h
    ·rename_i v w' hr
     exact cO ho hw hr (ih _ _ h)
    ·rename_i w' hr
     exact Q8 ho hw hr (ih _ _ h)
    ·rename_i d w' hr
     refine aa7 (fun b cs _=>.one (step_lone_go ?_)) (ih _ _ h)
     have hg:=stepG_op (P:=P) (b:=b) (k:=k) (cs:=cs) (w:=w) (rest:=rest ++ l2) ho hw
     have:({ b.at a (.inRegion ops (i :: (rest ++ l2)) :: k) with defers:=d :: a.defers }:Frame).finish undef =
       b.at ({ a with defers:=d :: a.defers }.put o.dst undef) (.inRegion ops (rest ++ l2) :: k):=by
      have:=Frame.finish_at b { a with defers:=d :: a.defers } ops i (rest ++ l2) k undef
      rw [ho] at this;exact this
     rw [hg];simp only [stepG.apply,Sem.runT_eq,hr,GStep.bare_after]
     exact congrArg (fun fr=>GStep.go { frame:=fr,callers:=cs,status:=.running,dying:=none } w') this
    ·rename_i f args w' hr
     refine rZ ho hw hr (h.mono fun e w'' hR=>?_)
     cases e with
     | returned v=>exact ⟨v,rfl,ih _ _ hR⟩
     | panicked chain=>exact nomatch hR.1
     | outgrown =>
      obtain ⟨a₀,w₀,hq⟩:=hR
      exact nomatch hq.1
    ·rename_i row args w' hr
     intro b cs hb
     have hg:=stepG_op (P:=P) (b:=b) (k:=k) (cs:=cs) (w:=w) (rest:=rest ++ l2) ho hw
     have hfin:∀ v,(b.at a (.inRegion ops (i :: (rest ++ l2)) :: k)).finish v=b.at (a.put o.dst v) (.inRegion ops (rest ++ l2) :: k):=by
      intro v;rw [Frame.finish_at,ho];rfl
     obtain ⟨v,w'',hR,hsteps⟩:=h (b.at a (.inRegion ops (i :: (rest ++ l2)) :: k)) cs
     have henter:step P (lone (b.at a (.inRegion ops (i :: (rest ++ l2)) :: k)) cs w) =
       .next (lone (Frame.ofRow P row args .normal) (b.at a (.inRegion ops (i :: (rest ++ l2)) :: k) :: cs) w') :=
      step_lone_go (by rw [hg];simp [stepG.apply,hr,Frame.at])
     obtain ⟨a',w₃,hq,harr⟩:=ih _ _ hR b cs hb
     refine ⟨a',w₃,hq,.head henter (Steps.trans ?_ harr)⟩
     rw [← hfin];exact hsteps
    ·exact nomatch h.1
    ·exact h.elim
   ·simp only [hw,if_false,Bool.false_eq_true] at h
    refine aa7 (fun b cs _=>?_) (ih _ _ h)
    have hs:=step_op_skip (P:=P) (b:=b) (a:=a) (k:=k) (cs:=cs) (w:=w) (ops:=ops) (i:=i) (rest:=rest ++ l2)
     (by simp [ho];simpa using hw)
    simp only [ho,Option.bind_some] at hs
    exact .one hs
theorem abB {ops:Array Oper} {Q:Exit→Act→World→Prop} (l:List Oper) (m:Nat) (h:∀ j,j < l.length→l[j]? = ops[m+j]?):wpOps P ops Q (List.range' m l.length)=wpList P ops Q l:=by
 induction l generalizing m with
 | nil=>funext a w;simp [wpOps,wpList]
 | cons o l ih =>
  have h0:ops[m]? = some o:=by simpa using (h 0 (by simp)).symm
  have ih':=ih (m+1) (fun j hj=>by have:=h (j+1) (by simpa using hj);simpa [Nat.add_assoc,Nat.add_comm 1 j] using this)
  funext a w
  simp only [List.length_cons,List.range'_succ,wpOps,h0,wpList,ih']
end
end Go.Tm
namespace Go.Proofs.YtjjmefieegcddaaDoor
open Go.RowKit Go.Wg Go.Mm Go.Wk
open Go Go.Sr Go.Ph Go.Tm Go.Conc
variable {w:World} {V:View} {f0:FuncId} {R:Ending→World→Prop} {todo k0:List Item} {a:Act}
structure RB (f0:FuncId) (R:Ending→World→Prop) (todo:List Item) (a:Act) (w:World):Prop where
 df:a.defers=[]
 run:∀ (b:Frame) (cs:List Frame),b.fn=f0→b.kind=.normal→∀ τ d,ay OC (w.re τ d) →
  kU Tryd.prog (G (b.at a todo) cs) (w.re τ d) fun a' w'=>∃ e fr,a'=G fr cs∧R e w'∧fr.fn=f0∧fr.leaving Tryd.prog w' e∧e≠.outgrown∧ay OC w'
theorem RB.re (h:RB f0 R todo a w) (τ:Nat→Question→Nat) (d:Nat):RB f0 R todo a (w.re τ d):=⟨h.df,fun b cs h1 h2 τ' d' hh=>h.run b cs h1 h2 τ' d' hh⟩
theorem acV (tgt:List Item) (hit:todo.all qy=true) (hd:a.defers=[]) (h:∀ τ d,fA Tryd.prog tgt (RB f0 R tgt) todo a (w.re τ d)):RB f0 R todo a w :=
 ⟨hd,fun b cs hbf hbk τ d hh=>vI hbf hbk hit (fun x hx=>by rw [hd] at hx;cases hx) hh (S:=RB f0 R tgt) (fun a w τ d h=>h.re τ d) (fun τ' d'=>h τ' d') fun a' w' hS hh'=>hS.run b cs hbf hbk w'.tape w'.drawn hh'⟩
theorem acP {N:FuncId} {args:Array Value} {R':Ending→World→Prop} {ops:Array Oper} {l:List Nat} {i:Nat} {o:Oper} (hd:a.defers=[]) (ho:ops[i]? = some o) (hw:Region.wanted o (yielded ops a.tmps)=true) (hok':qj true o.op=true)
  (hr:∀ w,(execOp a.eval o).run Tryd.prog w=.ok (.enter N args) w) (hpan:∀ ch w,¬ R' (.panicked ch) w) (hc:∀ τ d,ay OC (w.re τ d)→kL Tryd.prog N args (w.re τ d) R')
  (hk:∀ v w',R' (.returned v) w'→RB f0 R (.inRegion ops l :: k0) (a.put o.dst v) w'):RB f0 R (.inRegion ops (i :: l) :: k0) a w :=
 ⟨hd,fun b cs hbf hbk τ d hh=>Oh (hc τ d hh) hh hbk ho hw hok' hr hpan fun v w' hv hh'=>(hk v w' hv).run b cs hbf hbk w'.tape w'.drawn hh'⟩
theorem abP {f0:FuncId} {R:Ending→World→Prop} {fn:Func} {B:Code} {args:Array Value} {m:Nat} (hf:Tryd.prog.funcs[f0]? = some fn) (hb:fn.body=some B) (hm:fn.ntmps - args.size=m) (hh:ay OC w)
  (h:RB f0 R [.code B] { tmps:=args ++ Array.replicate m undef,defers:=[] } w):kL Tryd.prog f0 args w R :=
 jD hf hb fun cs b hbf hbk _=>by
  rw [hm]
  exact h.run b cs hbf hbk w.tape w.drawn hh
theorem acX {fn:Func} {v:Value} (hf:Tryd.prog.funcs[f0]? = some fn) (hd:a.defers=[]) (hr:∀ w,(results fn a.tmps).run Tryd.prog w=.ok v w) (hR:∀ τ d,R (.returned v) (w.re τ d)) (hins:Ins R):RB f0 R (.code .ret :: k0) a w :=
 ⟨hd,fun b cs hbf hbk τ d hh=>Vo hbf hbk hd hf hh (hr _) (hR τ d) hins⟩
end Go.Proofs.YtjjmefieegcddaaDoor
namespace Go.Wg
open Go Go.Mm Go.Proofs.YtjjmefieegcddaaDoor
theorem Dl (m v k t:Nat) (ht:t < 64):(gZ m v k).testBit t=true↔∃ n,n < k∧m.testBit n=true∧n≤t∧v.testBit (t - n)=true:=by
 induction k with
 | zero=>simp [gZ]
 | succ k ih =>
  rw [qA]
  unfold rQ
  have hs:(v * 2 ^ k % 18446744073709551616).testBit t=(decide (k≤t) && v.testBit (t - k)):=by
   rw [show (18446744073709551616:Nat)=2 ^ 64 by decide,Nat.testBit_mod_two_pow,← Nat.shiftLeft_eq,Nat.testBit_shiftLeft]
   simp [ht]
  by_cases h:m.testBit k=true
  ·rw [if_pos h,Nat.testBit_or,Bool.or_eq_true,ih,hs,Bool.and_eq_true,decide_eq_true_eq]
   constructor
   ·rintro (⟨n,h1,h2,h3,h4⟩ | ⟨h1,h2⟩)
    ·exact ⟨n,by omega,h2,h3,h4⟩
    ·exact ⟨k,by omega,h,h1,h2⟩
   ·rintro ⟨n,h1,h2,h3,h4⟩
    by_cases e:n=k
    ·subst e;exact .inr ⟨h3,h4⟩
    ·exact .inl ⟨n,by omega,h2,h3,h4⟩
  ·rw [if_neg h,ih]
   constructor
   ·rintro ⟨n,h1,h2⟩;exact ⟨n,by omega,h2⟩
   ·rintro ⟨n,h1,h2,h3⟩
    by_cases e:n=k
    ·subst e;exact absurd h2 h
    ·exact ⟨n,by omega,h2,h3⟩
theorem X7 (t:Nat):ANY.testBit t=decide (t < 41):=by
 rw [show ANY=2 ^ 41 - 1 by decide,Nat.testBit_two_pow_sub_one]
theorem Ak (m v t:Nat):(nV m v).testBit t=true↔t≤40∧∃ a b,m.testBit a=true∧v.testBit b=true∧a+b=t:=by
 unfold nV
 rw [Nat.testBit_and,Bool.and_eq_true,X7,decide_eq_true_eq]
 constructor
 ·rintro ⟨h1,h2⟩
  obtain ⟨n,_,h3,h4,h5⟩:=(Dl m v 41 t (by omega)).1 h1
  exact ⟨by omega,n,t - n,h3,h5,by omega⟩
 ·rintro ⟨h1,a,b,h2,h3,h4⟩
  exact ⟨(Dl m v 41 t (by omega)).2 ⟨a,by omega,h2,by omega,by rw [show t - a=b by omega];exact h3⟩,by omega⟩
theorem Lp (U:List Nat):∀ (f:List Nat) (m t:Nat),f.Nodup→((f.foldl (fun m x=>nV m (U.getD x 0)) m).testBit t=true↔(f=[]∨t≤40)∧∃ (a:Nat) (c:Nat→Nat),m.testBit a=true∧(∀ x∈f,(U.getD x 0).testBit (c x)=true)∧t=a+(f.map c).sum)
 | [],m,t,_=>by
  simp only [List.foldl_nil,true_or,true_and,List.map_nil,List.sum_nil,Nat.add_zero]
  exact ⟨fun h=>⟨t,fun _=>0,h,(fun x hx=>by cases hx),rfl⟩,fun ⟨a,_,h,_,e⟩=>e ▸ h⟩
 | x :: f,m,t,hd=>by
  obtain ⟨hx,hf⟩:=List.nodup_cons.1 hd
  rw [List.foldl_cons,Lp U f _ t hf]
  constructor
  ·rintro ⟨h0,a,c,h1,h2,h3⟩
   obtain ⟨h4,p,q,h5,h6,h7⟩:=(Ak _ _ _).1 h1
   refine ⟨.inr ?_,p,fun y=>if y=x then q else c y,h5,fun y hy=>?_,?_⟩
   ·rcases h0 with rfl | h0
    ·simp at h3;omega
    ·exact h0
   ·rcases List.mem_cons.1 hy with rfl | hy
    ·simpa using h6
    ·have:y≠x:=fun e=>hx (e ▸ hy)
     simpa [this] using h2 y hy
   ·have e:f.map (fun y=>if y=x then q else c y)=f.map c:=List.map_congr_left fun y hy=>by
     have:y≠x:=fun e=>hx (e ▸ hy)
     simp [this]
    rw [List.map_cons,List.sum_cons,e,if_pos rfl]
    omega
  ·rintro ⟨h0,a,c,h1,h2,h3⟩
   have ht:t≤40:=h0.resolve_left (by simp)
   rw [List.map_cons,List.sum_cons] at h3
   exact ⟨.inr ht,a+c x,c,(Ak _ _ _).2 ⟨by omega,a,c x,h1,h2 x (by simp),rfl⟩,fun y hy=>h2 y (by simp [hy]),by omega⟩
theorem QY (a:Nat):(1:Nat).testBit a=true↔a=0:=by
 cases a with
 | zero=>simp
 | succ a=>simp [Nat.testBit_succ]
theorem MB (U:List Nat) {f:List Nat} (hf:f.Nodup) (hn:f≠[]) (t:Nat):(sums U f).testBit t=true↔t≤40∧∃ c:Nat→Nat,(∀ x∈f,(U.getD x 0).testBit (c x)=true)∧t=(f.map c).sum:=by
 unfold sums
 rw [Lp U f 1 t hf]
 constructor
 ·rintro ⟨h0,a,c,h1,h2,h3⟩
  have:=(QY a).1 h1
  exact ⟨h0.resolve_left hn,c,h2,by omega⟩
 ·rintro ⟨h0,c,h2,h3⟩
  exact ⟨.inr h0,0,c,(QY 0).2 rfl,h2,by omega⟩
def Fit (k:Wk) (s:SS) (w:Nat→Nat) (i:Nat):Prop :=
 (s.aK i).testBit (w i)=true∧(k.fills i≠[]→∃ d:Nat,(dO (s.aP i).1 (s.aP i).2).testBit d=true∧w i=((k.fills i).map w).sum+d)
def Hu (k:Wk) (s:SS) (w:Nat→Nat):Prop:=∀ i,i < k.n→Fit k s w i
theorem Bg (k:Wk) (i:Nat):(k.fills i).Nodup:=by
 unfold Wk.fills
 exact List.nodup_range.filter _
theorem Fit.congr {k:Wk} {s:SS} {w w':Nat→Nat} {i:Nat} (h:Fit k s w i) (h1:w' i=w i) (h2:∀ x∈k.fills i,w' x=w x):Fit k s w' i:=by
 have e:(k.fills i).map w'=(k.fills i).map w:=List.map_congr_left h2
 exact ⟨by rw [h1];exact h.1,fun hn=>by rw [h1,e];exact h.2 hn⟩
theorem gK {k:Wk} {i x:Nat}:x∈k.fills i↔x < k.n∧(k.v x).from_=(i:Int):=by
 unfold Wk.fills
 rw [List.mem_filter,List.mem_range,beq_iff_eq]
theorem Rz {k:Wk} (hok:k.Ok) {i x:Nat} (hx:x∈k.fills i) (j:Nat):j < k.n→inB k x j=true→inB k i j=true:=by
 induction j using Nat.strongRecOn with
 | ind j ih =>
  intro hj h
  have hxn:=gK.1 hx
  rw [kJ hok x hj,Bool.or_eq_true,Bool.and_eq_true,beq_iff_eq,decide_eq_true_eq] at h
  rw [kJ hok i hj,Bool.or_eq_true,Bool.and_eq_true,beq_iff_eq,decide_eq_true_eq]
  have h3:=(hok.ves j hj).2.1
  rcases h with rfl | ⟨h1,h2⟩
  ·refine .inr ⟨by omega,?_⟩
   rw [hxn.2,Int.toNat_natCast]
   exact gq k i
  ·exact .inr ⟨h1,ih _ (by omega) (by omega) h2⟩
theorem Ie {k:Wk} (hok:k.Ok) (i j:Nat):j < k.n→inB k i j=true→j=i∨∃ x∈k.fills i,inB k x j=true:=by
 induction j using Nat.strongRecOn with
 | ind j ih =>
  intro hj h
  rw [kJ hok i hj,Bool.or_eq_true,Bool.and_eq_true,beq_iff_eq,decide_eq_true_eq] at h
  have h3:=(hok.ves j hj).2.1
  rcases h with h | ⟨h1,h2⟩
  ·exact .inl h
  ·refine .inr ?_
   rcases ih _ (by omega) (by omega) h2 with h4 | ⟨x,hx,h4⟩
   ·exact ⟨j,gK.2 ⟨hj,by omega⟩,gq k j⟩
   ·refine ⟨x,hx,?_⟩
    rw [kJ hok x hj,Bool.or_eq_true,Bool.and_eq_true,decide_eq_true_eq]
    exact .inr ⟨h1,h4⟩
theorem Qz {k:Wk} (hok:k.Ok) {f:Int} {x y:Nat} (hx:x < k.n) (hy:y < k.n) (hfx:(k.v x).from_=f) (hfy:(k.v y).from_=f) (j:Nat):j < k.n→inB k x j=true→inB k y j=true→x=y:=by
 induction j using Nat.strongRecOn with
 | ind j ih =>
  intro hj h1 h2
  have h3:=(hok.ves j hj).2.1
  have g1:=h1
  have g2:=h2
  rw [kJ hok x hj,Bool.or_eq_true,Bool.and_eq_true,beq_iff_eq,decide_eq_true_eq] at g1
  rw [kJ hok y hj,Bool.or_eq_true,Bool.and_eq_true,beq_iff_eq,decide_eq_true_eq] at g2
  rcases g1 with g1 | ⟨g1,g3⟩
  ·rcases g2 with g2 | ⟨g2,g4⟩
   ·omega
   ·subst g1
    have:=DN hok y _ (by omega) g4
    have:=(hok.ves y hy).2.1
    omega
  ·rcases g2 with g2 | ⟨g2,g4⟩
   ·subst g2
    have:=DN hok x _ (by omega) g3
    have:=(hok.ves x hx).2.1
    omega
   ·exact ih _ (by omega) (by omega) g3 g4
theorem Hf {k:Wk} (hok:k.Ok) {i j x:Nat} (hj:inB k i j=true) (hx:x∈k.fills j):inB k i x=true:=by
 obtain ⟨h1,h2⟩:=gK.1 hx
 rw [kJ hok i h1,Bool.or_eq_true,Bool.and_eq_true,decide_eq_true_eq]
 refine .inr ⟨by omega,?_⟩
 rw [h2,Int.toNat_natCast]
 exact hj
noncomputable def glue (k:Wk) (f:List Nat) (W:Nat→Nat→Nat) (w:Nat→Nat) (j:Nat):Nat:=open Classical in if h:∃ x,x∈f∧inB k x j=true then W h.choose j else w j
theorem Qh {k:Wk} {f:List Nat} {W:Nat→Nat→Nat} {w:Nat→Nat} {x j:Nat} (hx:x∈f) (hb:inB k x j=true) (hone:∀ y∈f,inB k y j=true→y=x):glue k f W w j=W x j:=by
 unfold glue
 have h:∃ x,x∈f∧inB k x j=true:=⟨x,hx,hb⟩
 rw [dif_pos h,hone _ h.choose_spec.1 h.choose_spec.2]
theorem Ve {k:Wk} {f:List Nat} {W:Nat→Nat→Nat} {w:Nat→Nat} {j:Nat} (h:∀ x∈f,inB k x j=false):glue k f W w j=w j:=by
 unfold glue
 rw [dif_neg]
 rintro ⟨x,h1,h2⟩
 rw [h x h1] at h2
 cases h2
theorem GU {s:SS} (hs:s.WF) {i m:Nat} (h:(s.aK i).testBit m=true):m≤40:=by
 have h1:=hs.fZ i
 rcases Nat.lt_or_ge m 41 with h2 | h2
 ·omega
 ·have:(s.aK i).testBit m=false:=Nat.testBit_lt_two_pow (Nat.lt_of_lt_of_le h1 (by
   have:(2:Nat) ^ 41≤2 ^ m:=Nat.pow_le_pow_right (by omega) h2
   exact this))
  rw [this] at h
  cases h
theorem Vy {k:Wk} (hok:k.Ok) {s:SS} (hs:s.WF) (i:Nat):i < k.n→∀ m,((up k s).getD i 0).testBit m=true↔∃ w:Nat→Nat,w i=m∧∀ j,j < k.n→inB k i j=true→Fit k s w j:=by
 have key:∀ d i,k.n - i≤d→i < k.n→∀ m,((up k s).getD i 0).testBit m=true↔∃ w:Nat→Nat,w i=m∧∀ j,j < k.n→inB k i j=true→Fit k s w j:=fun d=>by
  induction d with
  | zero=>exact fun i h1 h2=>by omega
  | succ d ih =>
   intro i h1 hi m
   have hfg:=fun x hx=>rV hok (i:=i) (x:=x) hx
   have ihx:∀ x∈k.fills i,∀ m,((up k s).getD x 0).testBit m=true↔∃ w:Nat→Nat,w x=m∧∀ j,j < k.n→inB k x j=true→Fit k s w j:=fun x hx=>by
    have:=hfg x hx
    exact ih x (by omega) this.2
   rw [aaT hok s hi]
   by_cases hf:k.fills i=[]
   ·rw [if_pos hf]
    constructor
    ·intro h
     refine ⟨fun _=>m,rfl,fun j hj hb=>?_⟩
     rcases Ie hok i j hj hb with rfl | ⟨x,hx,_⟩
     ·exact ⟨h,fun hn=>absurd hf hn⟩
     ·rw [hf] at hx;cases hx
    ·rintro ⟨w,rfl,h⟩
     exact (h i hi (gq k i)).1
   ·rw [if_neg hf,Nat.testBit_and,Bool.and_eq_true,Ak]
    constructor
    ·rintro ⟨hl,h40,a,b,ha,hb,hab⟩
     obtain ⟨_,c,hc,hsum⟩:=(MB _ (Bg k i) hf a).1 ha
     have hW:∀ x,∃ w:Nat→Nat,x∈k.fills i→w x=c x∧∀ j,j < k.n→inB k x j=true→Fit k s w j:=fun x=>by
      by_cases hx:x∈k.fills i
      ·obtain ⟨w,h2,h3⟩:=(ihx x hx _).1 (hc x hx)
       exact ⟨w,fun _=>⟨h2,h3⟩⟩
      ·exact ⟨fun _=>0,fun h=>absurd h hx⟩
     have hone:∀ {x j},x∈k.fills i→j < k.n→inB k x j=true→∀ y∈k.fills i,inB k y j=true→y=x:=fun {x j} hx hj hb y hy hb' =>
      Qz hok (gK.1 hy).1 (gK.1 hx).1 (gK.1 hy).2 (gK.1 hx).2 j hj hb' hb
     let W:Nat→Nat→Nat:=fun x=>Classical.choose (hW x)
     have hWs:∀ x∈k.fills i,W x x=c x∧∀ j,j < k.n→inB k x j=true→Fit k s (W x) j:=fun x hx=>Classical.choose_spec (hW x) hx
     have gin:∀ {x j},x∈k.fills i→j < k.n→inB k x j=true→glue k (k.fills i) W (fun _=>m) j=W x j:=fun hx hj hb=>Qh hx hb (hone hx hj hb)
     have gi:glue k (k.fills i) W (fun _=>m) i=m:=Ve fun x hx=>by
      cases hh:inB k x i
      ·rfl
      ·have:=DN hok x i hi hh
       have:=hfg x hx
       omega
     refine ⟨glue k (k.fills i) W (fun _=>m),gi,fun j hj hb=>?_⟩
     rcases Ie hok i j hj hb with rfl | ⟨x,hx,hbx⟩
     ·refine ⟨by rw [gi];exact hl,fun _=>⟨b,by assumption,?_⟩⟩
      have e:(k.fills j).map (glue k (k.fills j) W fun _=>m)=(k.fills j).map c:=List.map_congr_left fun x hx=>by
       rw [gin hx (hfg x hx).2 (gq k x),(hWs x hx).1]
      rw [gi,e,← hsum]
      exact hab.symm
     ·refine ((hWs x hx).2 j hj hbx).congr (gin hx hj hbx) fun y hy=>?_
      exact gin hx (gK.1 hy).1 (Hf hok hbx hy)
    ·rintro ⟨w,rfl,h⟩
     obtain ⟨hl,hd⟩:=h i hi (gq k i)
     obtain ⟨b,hb,hab⟩:=hd hf
     have h40:=GU hs hl
     refine ⟨hl,h40,((k.fills i).map w).sum,b,(MB _ (Bg k i) hf _).2 ⟨by omega,w,fun x hx=>?_,rfl⟩,hb,hab.symm⟩
     exact (ihx x hx _).2 ⟨w,rfl,fun j hj hbx=>h j hj (Rz hok hx j hj hbx)⟩
 exact key _ i (Nat.le_refl _)
theorem Yf {k:Wk} (hok:k.Ok) (i:Nat):i < k.n→∃ r,r < k.n∧(k.v r).from_=-1∧inB k r i=true:=by
 induction i using Nat.strongRecOn with
 | ind i ih =>
  intro hi
  obtain ⟨o1,o2,_⟩:=hok.ves i hi
  by_cases h:(k.v i).from_=-1
  ·exact ⟨i,hi,h,gq k i⟩
  ·obtain ⟨r,h1,h2,h3⟩:=ih (k.v i).from_.toNat (by omega) (by omega)
   refine ⟨r,h1,h2,?_⟩
   rw [kJ hok r hi,Bool.or_eq_true,Bool.and_eq_true,decide_eq_true_eq]
   exact .inr ⟨by omega,h3⟩
theorem QS {k:Wk} (hok:k.Ok) {s:SS} (hs:s.WF):can k s=true↔∃ w,Hu k s w:=by
 rw [XA]
 constructor
 ·intro h
  let R:=(List.range k.n).filter fun r=>(k.v r).from_ == -1
  have hR:∀ {r},r∈R↔r < k.n∧(k.v r).from_=-1:=by simp [R]
  have hW:∀ x,∃ w:Nat→Nat,x < k.n→∀ j,j < k.n→inB k x j=true→Fit k s w j:=fun x=>by
   by_cases hx:x < k.n
   ·obtain ⟨m,hm⟩:=Nat.exists_testBit_of_ne_zero (h x hx)
    obtain ⟨w,_,h2⟩:=(Vy hok hs x hx m).1 hm
    exact ⟨w,fun _=>h2⟩
   ·exact ⟨fun _=>0,fun h=>absurd h hx⟩
  let W:Nat→Nat→Nat:=fun x=>Classical.choose (hW x)
  have hWs:∀ x,x < k.n→∀ j,j < k.n→inB k x j=true→Fit k s (W x) j:=fun x hx=>Classical.choose_spec (hW x) hx
  refine ⟨glue k R W fun _=>0,fun j hj=>?_⟩
  obtain ⟨r,h1,h2,h3⟩:=Yf hok j hj
  have gin:∀ {j},j < k.n→inB k r j=true→glue k R W (fun _=>0) j=W r j:=fun hj hb=>Qh (hR.2 ⟨h1,h2⟩) hb fun y hy hb'=>Qz hok (hR.1 hy).1 h1 (hR.1 hy).2 h2 _ hj hb' hb
  exact (hWs r h1 j hj h3).congr (gin hj h3) fun y hy=>gin (gK.1 hy).1 (Hf hok h3 hy)
 ·rintro ⟨w,h⟩ i hi h0
  have:=(Vy hok hs i hi (w i)).2 ⟨w,rfl,fun j hj _=>h j hj⟩
  rw [h0,Nat.zero_testBit] at this
  cases this
def Wk.plus (k:Wk) (r:je):Wk:=⟨k.ves,k.rdg ++ [r]⟩
theorem yT {k:Wk} (hok:k.Ok) (h5:k.rdg.length≤5) {r:je} (hr:r.Ok k.n):(k.plus r).Ok:=by
 refine ⟨hok.pos,hok.le,hok.ves,?_,fun i hi=>?_⟩
 ·show (k.rdg ++ [r]).length≤6
  simp;omega
 ·show ((k.rdg ++ [r]).getD i default).Ok k.n
  have hi':i < (k.rdg ++ [r]).length:=hi
  rw [List.length_append,List.length_singleton] at hi'
  rw [List.getD_eq_getElem?_getD]
  by_cases h:i < k.rdg.length
  ·rw [List.getElem?_append_left h,← List.getD_eq_getElem?_getD]
   exact hok.rdg i h
  ·obtain rfl:i=k.rdg.length:=by omega
   simpa using hr
def Wk.cut (k:Wk) (v M:Nat):Wk:=(k.branch v).plus ⟨0,0,(M:Int),0⟩
structure Holds (g:Gr) (P:Nat→Int→Prop):Prop where
 wf:g.WF
 has:∀ n,g.has.testBit n=true↔∃ y,P n y
 lo:∀ n,g.has.testBit n=true→P n (g.get n).1
 hi:∀ n,g.has.testBit n=true→P n (g.get n).2
 all:∀ n y,P n y→(g.get n).1≤y∧y≤(g.get n).2
theorem acI {x n:Nat} (h1:x < 2199023255552) (h:x.testBit n=true):n≤40:=by
 rcases Nat.lt_or_ge n 41 with h2 | h2
 ·omega
 ·have:x.testBit n=false:=Nat.testBit_lt_two_pow (Nat.lt_of_lt_of_le h1 (by
   rw [show (2199023255552:Nat)=2 ^ 41 by decide]
   exact Nat.pow_le_pow_right (by decide) h2))
  rw [this] at h;cases h
theorem Holds.small {g:Gr} {P:Nat→Int→Prop} (h:Holds g P) {n:Nat} {y:Int} (hp:P n y):n≤40:=acI h.wf.small ((h.has n).2 ⟨y,hp⟩)
theorem Holds.congr {g:Gr} {P Q:Nat→Int→Prop} (h:Holds g P) (e:∀ n y,P n y↔Q n y):Holds g Q:=by
 have:P=Q:=funext fun n=>funext fun y=>propext (e n y)
 rwa [← this]
theorem aav:Holds Gr.empty fun _ _=>False :=
 ⟨Gr.uQ,fun n=>⟨fun h=>by simp [Gr.empty] at h,fun ⟨_,h⟩=>h.elim⟩,fun n h=>by simp [Gr.empty] at h,fun n h=>by simp [Gr.empty] at h,fun n y h=>h.elim⟩
theorem abW (g:Gr) (n:Nat) (v:Int × Int) (m:Nat):(g.add n v).has.testBit m=(g.has.testBit m || decide (n=m)):=by
 show (g.has ||| 2 ^ n).testBit m=_
 rw [Nat.testBit_or,Nat.testBit_two_pow]
theorem add_get (g:Gr) (hg:g.WF) {n:Nat} (hn:n < 41) (v:Int × Int) (m:Nat):(g.add n v).get m=if n=m then (if g.has.testBit n then sO (g.get n) v else v) else g.get m:=by
 have hl:=hg.len
 show (g.at_.set n _).getD m (0,0)=_
 rw [fC _ _ _ _ _ (by omega)]
 rfl
theorem Holds.add {g:Gr} {P:Nat→Int→Prop} (h:Holds g P) {n:Nat} (hn:n < 41) {Q:Int→Prop} {v:Int × Int} (h1:Q v.1) (h2:Q v.2) (ha:∀ y,Q y→v.1≤y∧y≤v.2):Holds (g.add n v) fun m y=>P m y∨(m=n∧Q y):=by
 have hv:=ha _ h1
 refine ⟨h.wf.add hn v,fun m=>?_,fun m hm=>?_,fun m hm=>?_,fun m y hy=>?_⟩
 ·rw [abW,Bool.or_eq_true,decide_eq_true_eq,h.has]
  constructor
  ·rintro (⟨y,hy⟩ | rfl)
   ·exact ⟨y,.inl hy⟩
   ·exact ⟨_,.inr ⟨rfl,h1⟩⟩
  ·rintro ⟨y,hy | ⟨rfl,_⟩⟩
   ·exact .inl ⟨y,hy⟩
   ·exact .inr rfl
 ·rw [abW,Bool.or_eq_true,decide_eq_true_eq] at hm
  rw [add_get g h.wf hn]
  by_cases e:n=m
  ·subst e
   rw [if_pos rfl]
   split
   ·rename_i hb
    show P n (min (g.get n).1 v.1)∨(n=n∧Q (min (g.get n).1 v.1))
    rcases Int.le_total (g.get n).1 v.1 with h3 | h3
    ·rw [Int.min_eq_left h3];exact .inl (h.lo n hb)
    ·rw [Int.min_eq_right h3];exact .inr ⟨rfl,h1⟩
   ·exact .inr ⟨rfl,h1⟩
  ·rw [if_neg e]
   exact .inl (h.lo m (hm.resolve_right e))
 ·rw [abW,Bool.or_eq_true,decide_eq_true_eq] at hm
  rw [add_get g h.wf hn]
  by_cases e:n=m
  ·subst e
   rw [if_pos rfl]
   split
   ·rename_i hb
    show P n (max (g.get n).2 v.2)∨(n=n∧Q (max (g.get n).2 v.2))
    rcases Int.le_total (g.get n).2 v.2 with h3 | h3
    ·rw [Int.max_eq_right h3];exact .inr ⟨rfl,h2⟩
    ·rw [Int.max_eq_left h3];exact .inl (h.hi n hb)
   ·exact .inr ⟨rfl,h2⟩
  ·rw [if_neg e]
   exact .inl (h.hi m (hm.resolve_right e))
 ·rw [add_get g h.wf hn]
  by_cases e:n=m
  ·subst e
   rw [if_pos rfl]
   split
   ·show min _ _≤y∧y≤max _ _
    rcases hy with hy | ⟨_,hy⟩
    ·have:=h.all n y hy;omega
    ·have:=ha y hy;omega
   ·rename_i hb
    rcases hy with hy | ⟨_,hy⟩
    ·exact absurd ((h.has n).2 ⟨y,hy⟩) hb
    ·exact ha y hy
  ·rw [if_neg e]
   rcases hy with hy | ⟨rfl,_⟩
   ·exact h.all m y hy
   ·exact absurd rfl e
theorem acg (s:SS) (st:Bool) (i:Nat) (m:Nat) (hm:m≤41):Holds (lY s st i m) fun n y=>n < m∧(s.aK i).testBit n=true∧y=if st then (n:Int) else 0:=by
 induction m with
 | zero=>exact aav.congr fun n y=>⟨fun h=>h.elim,fun h=>absurd h.1 (by omega)⟩
 | succ m ih =>
  rw [lY]
  have h:=ih (by omega)
  split
  ·rename_i hb
   refine (h.add (n:=m) (by omega) (Q:=fun y=>y=if st then (m:Int) else 0) (by cases st <;> rfl) (by cases st <;> rfl) (by rintro y rfl;cases st <;> simp)).congr fun n y=>?_
   constructor
   ·rintro (⟨h1,h2⟩ | ⟨rfl,h2⟩)
    ·exact ⟨by omega,h2⟩
    ·exact ⟨by omega,hb,h2⟩
   ·rintro ⟨h1,h2,h3⟩
    by_cases e:n=m
    ·subst e;exact .inr ⟨rfl,h3⟩
    ·exact .inl ⟨by omega,h2,h3⟩
  ·rename_i hb
   refine h.congr fun n y=>⟨fun ⟨h1,h2⟩=>⟨by omega,h2⟩,fun ⟨h1,h2,h3⟩=>⟨?_,h2,h3⟩⟩
   by_cases e:n=m
   ·subst e;exact absurd h2 hb
   ·omega
theorem acD {a b g:Gr} {P Q R:Nat→Int→Prop} (ha:Holds a P) (hb:Holds b Q) (hg:Holds g R) (x:Nat) (m:Nat) (hm:x+m≤41) :
  Holds (rM a b x g m) fun n y=>R n y∨∃ q y1 y2,q < m∧n=x+q∧P x y1∧Q q y2∧y=y1+y2:=by
 induction m with
 | zero=>exact hg.congr fun n y=>⟨.inl,fun h=>h.elim id fun ⟨q,_,_,h,_⟩=>absurd h (by omega)⟩
 | succ m ih =>
  rw [rM]
  have h:=ih (by omega)
  split
  ·rename_i hc
   rw [Bool.and_eq_true] at hc
   refine (h.add (n:=x+m) (by omega) (Q:=fun y=>∃ y1 y2,P x y1∧Q m y2∧y=y1+y2) ⟨_,_,ha.lo x hc.1,hb.lo m hc.2,rfl⟩ ⟨_,_,ha.hi x hc.1,hb.hi m hc.2,rfl⟩ ?_).congr fun n y=>?_
   ·rintro y ⟨y1,y2,h1,h2,rfl⟩
    have:=ha.all _ _ h1
    have:=hb.all _ _ h2
    show (a.get x).1+(b.get m).1≤_∧_≤(a.get x).2+(b.get m).2
    omega
   ·constructor
    ·rintro ((h1 | ⟨q,y1,y2,h1,h2⟩) | ⟨rfl,y1,y2,h2⟩)
     ·exact .inl h1
     ·exact .inr ⟨q,y1,y2,by omega,h2⟩
     ·exact .inr ⟨m,y1,y2,by omega,rfl,h2⟩
    ·rintro (h1 | ⟨q,y1,y2,h1,h2,h3⟩)
     ·exact .inl (.inl h1)
     ·by_cases e:q=m
      ·subst e;exact .inr ⟨h2,y1,y2,h3⟩
      ·exact .inl (.inr ⟨q,y1,y2,by omega,h2,h3⟩)
  ·rename_i hc
   refine h.congr fun n y=>⟨fun h1=>h1.imp_right fun ⟨q,y1,y2,h1,h2⟩=>⟨q,y1,y2,by omega,h2⟩,fun h1=>h1.imp_right fun ⟨q,y1,y2,h1,h2,h3,h4,h5⟩=>⟨q,y1,y2,?_,h2,h3,h4,h5⟩⟩
   by_cases e:q=m
   ·subst e
    exact absurd (by rw [(ha.has x).2 ⟨y1,h3⟩,(hb.has q).2 ⟨y2,h4⟩];rfl) hc
   ·omega
theorem abZ {a b:Gr} {P Q:Nat→Int→Prop} (ha:Holds a P) (hb:Holds b Q) (x:Nat) (hx:x≤41) :
  Holds (ku a b x) fun n y=>∃ p q y1 y2,p < x∧n=p+q∧n≤40∧P p y1∧Q q y2∧y=y1+y2:=by
 induction x with
 | zero=>exact aav.congr fun n y=>⟨fun h=>h.elim,fun ⟨_,_,_,_,h,_⟩=>absurd h (by omega)⟩
 | succ x ih =>
  rw [ku]
  refine (acD ha hb (ih (by omega)) x (41 - x) (by omega)).congr fun n y=>?_
  constructor
  ·rintro (⟨p,q,y1,y2,h1,h2⟩ | ⟨q,y1,y2,h1,h2,h3⟩)
   ·exact ⟨p,q,y1,y2,by omega,h2⟩
   ·exact ⟨x,q,y1,y2,by omega,h2,by omega,h3⟩
  ·rintro ⟨p,q,y1,y2,h1,h2,h3,h4⟩
   by_cases e:p=x
   ·subst e;exact .inr ⟨q,y1,y2,by omega,h2,h4⟩
   ·exact .inl ⟨p,q,y1,y2,by omega,h2,h3,h4⟩
theorem ach {a b:Gr} {P Q:Nat→Int→Prop} (ha:Holds a P) (hb:Holds b Q):Holds (pR a b) fun n y=>∃ p q y1 y2,n=p+q∧n≤40∧P p y1∧Q q y2∧y=y1+y2 :=
 (abZ ha hb 41 (by omega)).congr fun n y=>⟨fun ⟨p,q,y1,y2,_,h⟩=>⟨p,q,y1,y2,h⟩,fun ⟨p,q,y1,y2,h1,h2,h3⟩=>⟨p,q,y1,y2,by omega,h1,h2,h3⟩⟩
theorem abH {F:Nat→Gr} {Px:Nat→Nat→Int→Prop}:∀ (l:List Nat),l.Nodup→(∀ x∈l,Holds (F x) (Px x))→∀ {g:Gr} {R:Nat→Int→Prop},Holds g R →
  Holds (l.foldl (fun sm x=>pR sm (F x)) g) fun n y=>n≤40∧∃ n0 y0,∃ (c:Nat→Nat) (z:Nat→Int),R n0 y0∧(∀ x∈l,Px x (c x) (z x))∧n=n0+(l.map c).sum∧y=y0+(l.map z).sum
 | [],_,_,g,R,hg=>hg.congr fun n y=>by
  constructor
  ·exact fun h=>⟨hg.small h,n,y,fun _=>0,fun _=>0,h,(fun x hx=>nomatch hx),by simp,by simp⟩
  ·rintro ⟨_,n0,y0,c,z,h,_,h2,h3⟩
   simp at h2 h3
   rw [h2,h3];exact h
 | x :: l,hd,hF,g,R,hg=>by
  obtain ⟨hx,hl⟩:=List.nodup_cons.1 hd
  rw [List.foldl_cons]
  refine (abH l hl (fun y hy=>hF y (List.mem_cons_of_mem _ hy)) (ach hg (hF x (List.mem_cons_self ..)))).congr fun n y=>?_
  constructor
  ·rintro ⟨h40,n0,y0,c,z,⟨p,q,y1,y2,h1,h2,h3,h4,h5⟩,h6,h7,h8⟩
   have e:∀ {β:Type} [Inhabited β] (c:Nat→β) (q:β),l.map (fun y=>if y=x then q else c y)=l.map c:=fun c q=>List.map_congr_left fun y hy=>by
    have:y≠x:=fun e=>hx (e ▸ hy)
    simp [this]
   refine ⟨h40,p,y1,fun y=>if y=x then q else c y,fun y=>if y=x then y2 else z y,h3,fun y hy=>?_,?_,?_⟩
   ·rcases List.mem_cons.1 hy with rfl | hy
    ·simpa using h4
    ·have:y≠x:=fun e=>hx (e ▸ hy)
     simpa [this] using h6 y hy
   ·rw [List.map_cons,List.sum_cons,e,if_pos rfl];omega
   ·rw [List.map_cons,List.sum_cons,e,if_pos rfl];omega
  ·rintro ⟨h40,n0,y0,c,z,h1,h2,h3,h4⟩
   rw [List.map_cons,List.sum_cons] at h3 h4
   exact ⟨h40,n0+c x,y0+z x,c,z,⟨n0,c x,y0,z x,rfl,by omega,h1,h2 x (List.mem_cons_self ..),rfl⟩,fun y hy=>h2 y (List.mem_cons_of_mem _ hy),by omega,by omega⟩
theorem abJ {sums g:Gr} {P R:Nat→Int→Prop} (hs:Holds sums P) (hg:Holds g R) (lim:Nat) (st:Bool) {lo:Int} (hlo:0≤lo) (x:Nat) (m:Nat) (hm:∀ j:Nat,j < m→x+(lo+j).toNat < 41) :
  Holds (iO sums lim st lo x g m) fun n y=>R n y∨∃ (j:Nat) (y1:Int),j < m∧n=x+(lo+j).toNat∧lim.testBit n=true∧P x y1∧y=if st then y1 else y1+(lo+j):=by
 induction m with
 | zero=>exact hg.congr fun n y=>⟨.inl,fun h=>h.elim id fun ⟨q,_,h,_⟩=>absurd h (by omega)⟩
 | succ m ih =>
  rw [iO]
  have h:=ih fun j hj=>hm j (by omega)
  split
  ·rename_i hc
   rw [Bool.and_eq_true] at hc
   refine (h.add (n:=x+(lo+m).toNat) (hm m (by omega)) (Q:=fun y=>∃ y1,P x y1∧y=if st then y1 else y1+(lo+m)) ⟨(sums.get x).1,hs.lo x hc.1,by cases st <;> rfl⟩ ⟨(sums.get x).2,hs.hi x hc.1,by cases st <;> rfl⟩ ?_).congr fun n y=>?_
   ·rintro y ⟨y1,h1,rfl⟩
    have:=hs.all _ _ h1
    cases st
    ·show (sums.get x).1+(lo+m)≤y1+(lo+m)∧y1+(lo+m)≤(sums.get x).2+(lo+m)
     omega
    ·exact this
   ·constructor
    ·rintro ((h1 | ⟨q,y1,h1,h2⟩) | ⟨rfl,y1,h2,h3⟩)
     ·exact .inl h1
     ·exact .inr ⟨q,y1,by omega,h2⟩
     ·exact .inr ⟨m,y1,by omega,rfl,hc.2,h2,h3⟩
    ·rintro (h1 | ⟨q,y1,h1,h2,h3,h4⟩)
     ·exact .inl (.inl h1)
     ·by_cases e:q=m
      ·subst e;exact .inr ⟨h2,y1,h4⟩
      ·exact .inl (.inr ⟨q,y1,by omega,h2,h3,h4⟩)
  ·rename_i hc
   refine h.congr fun n y=>⟨fun h1=>h1.imp_right fun ⟨q,y1,h1,h2⟩=>⟨q,y1,by omega,h2⟩,fun h1=>h1.imp_right fun ⟨q,y1,h1,h2,h3,h4,h5⟩=>⟨q,y1,?_,h2,h3,h4,h5⟩⟩
   by_cases e:q=m
   ·subst e
    rw [h2] at h3
    exact absurd (by rw [(hs.has x).2 ⟨y1,h4⟩,h3];rfl) hc
   ·omega
theorem abT {sums:Gr} {P:Nat→Int→Prop} (hs:Holds sums P) (lim:Nat) (st:Bool) {lo hi:Int} (hlo:0≤lo) (X:Nat) (hX:X≤41) :
  Holds (jY sums lim st lo hi X) fun n y=>∃ (x d:Nat) (y1:Int),x < X∧lo≤d∧(d:Int)≤hi∧n=x+d∧n≤40∧lim.testBit n=true∧P x y1∧y=if st then y1 else y1+d:=by
 induction X with
 | zero=>exact aav.congr fun n y=>⟨fun h=>h.elim,fun ⟨_,_,_,h,_⟩=>absurd h (by omega)⟩
 | succ x ih =>
  rw [jY]
  have hN:∀ j:Nat,j < qY lo hi x→lo+j≤hi∧x+(lo+j).toNat < 41:=fun j hj=>by
   unfold qY at hj
   omega
  refine (abJ hs (ih (by omega)) lim st hlo x (qY lo hi x) fun j hj=>(hN j hj).2).congr fun n y=>?_
  constructor
  ·rintro (⟨p,d,y1,h1,h2⟩ | ⟨j,y1,h1,h2,h3,h4,h5⟩)
   ·exact ⟨p,d,y1,by omega,h2⟩
   ·have:=hN j h1
    refine ⟨x,(lo+j).toNat,y1,by omega,by omega,by omega,h2,by omega,h3,h4,?_⟩
    rw [h5,show ((lo+j).toNat:Int)=lo+j by omega]
  ·rintro ⟨p,d,y1,h1,h2,h3,h4,h5,h6,h7,h8⟩
   by_cases e:p=x
   ·subst e
    refine .inr ⟨(d - lo).toNat,y1,by unfold qY;omega,by omega,h6,h7,?_⟩
    rw [h8,show lo+((d - lo).toNat:Int)=d by omega]
   ·exact .inl ⟨p,d,y1,by omega,h2,h3,h4,h5,h6,h7,h8⟩
theorem aaU {α:Type} (p:α→Bool) (o:α→Int) (l:List α):((l.filter p).map o).sum=(l.map fun j=>if p j then o j else 0).sum:=by
 induction l with
 | nil=>rfl
 | cons a l ih =>
  by_cases h:p a=true
  ·rw [List.filter_cons_of_pos h];simp [ih,h]
  ·rw [List.filter_cons_of_neg h];simp [ih,h]
theorem sum_add {α:Type} (f g:α→Int) (l:List α):(l.map fun j=>f j+g j).sum=(l.map f).sum+(l.map g).sum:=by
 induction l with
 | nil=>rfl
 | cons a l ih=>simp only [List.map_cons,List.sum_cons,ih];omega
theorem aaZ {α:Type} {f:α→Int} {l:List α} (h:∀ x∈l,f x=0):(l.map f).sum=0:=by
 induction l with
 | nil=>rfl
 | cons a l ih=>rw [List.map_cons,List.sum_cons,h a (by simp),ih fun x hx=>h x (by simp [hx])];rfl
theorem abG {α:Type} {f:α→Int} {l:List α} {x:α} (hl:l.Nodup) (hx:x∈l) (h:∀ y∈l,y≠x→f y=0):(l.map f).sum=f x:=by
 induction l with
 | nil=>cases hx
 | cons a l ih =>
  obtain ⟨ha,hl⟩:=List.nodup_cons.1 hl
  rw [List.map_cons,List.sum_cons]
  rcases List.mem_cons.1 hx with rfl | hx
  ·rw [aaZ fun y hy=>h y (by simp [hy]) fun e=>ha (e ▸ hy)];omega
  ·rw [h a (by simp) fun e=>ha (e ▸ hx),ih hl hx fun y hy=>h y (by simp [hy])];omega
theorem ab2 {α β:Type} (g:α→β→Int) (f:List α) (l:List β):(f.map fun x=>(l.map fun j=>g x j).sum).sum=(l.map fun j=>(f.map fun x=>g x j).sum).sum:=by
 induction f with
 | nil=>simp only [List.map_nil,List.sum_nil];exact (aaZ fun _ _=>rfl).symm
 | cons a f ih =>
  simp only [List.map_cons,List.sum_cons]
  rw [ih,sum_add (fun j=>g a j) fun j=>(f.map fun x=>g x j).sum]
theorem acN {α:Type} {f g:α→Int} {l:List α} (h:∀ x∈l,f x≤g x):(l.map f).sum≤(l.map g).sum:=by
 induction l with
 | nil=>exact Int.le_refl _
 | cons a l ih =>
  have:=h a (by simp)
  have:=ih fun x hx=>h x (by simp [hx])
  simp only [List.map_cons,List.sum_cons]
  omega
def aah (k:Wk) (o:Nat→Int) (i:Nat):Int:=(((List.range k.n).filter (inB k i)).map o).sum
theorem ab4 {k:Wk} {o o':Nat→Int} {i:Nat} (h:∀ j,j < k.n→inB k i j=true→o j=o' j):aah k o i=aah k o' i:=by
 unfold aah
 congr 1
 exact List.map_congr_left fun j hj=>by
  obtain ⟨h1,h2⟩:=List.mem_filter.1 hj
  exact h j (List.mem_range.1 h1) h2
theorem abf {k:Wk} (hok:k.Ok) (o:Nat→Int) {i:Nat} (hi:i < k.n):aah k o i=o i+((k.fills i).map (aah k o)).sum:=by
 have e1:((k.fills i).map (aah k o)).sum=((List.range k.n).map fun j=>((k.fills i).map fun x=>if inB k x j then o j else 0).sum).sum:=by
  rw [← ab2]
  congr 1
  exact List.map_congr_left fun x _=>aaU _ _ _
 have e2:o i=((List.range k.n).map fun j=>if j=i then o j else 0).sum:=by
  rw [abG (x:=i) List.nodup_range (List.mem_range.2 hi) fun y _ hy=>if_neg hy,if_pos rfl]
 unfold aah
 rw [aaU]
 conv=>rhs;rw [e2]
 rw [show ((k.fills i).map fun i=>(((List.range k.n).filter (inB k i)).map o).sum).sum=((k.fills i).map (aah k o)).sum from rfl,e1,← sum_add]
 congr 1
 refine List.map_congr_left fun j hj=>?_
 have hj':=List.mem_range.1 hj
 by_cases e:j=i
 ·subst e
  rw [if_pos rfl,if_pos (gq k j),aaZ fun x hx=>?_]
  ·omega
  ·rw [if_neg]
   intro h
   have h1:=DN hok x j hj' h
   have h2:=(rV hok hx).1
   omega
 ·rw [if_neg e]
  by_cases hb:inB k i j=true
  ·rw [if_pos hb]
   rcases Ie hok i j hj' hb with h | ⟨x,hx,hxb⟩
   ·exact absurd h e
   ·rw [abG (Bg k i) hx fun y hy hyx=>if_neg fun h=>hyx ?_,if_pos hxb]
    ·omega
    ·exact Qz hok (gK.1 hy).1 (gK.1 hx).1 (gK.1 hy).2 (gK.1 hx).2 j hj' h hxb
  ·rw [if_neg hb,aaZ fun x hx=>if_neg fun h=>hb (Rz hok hx j hj' h)]
   rfl
theorem V6 {k:Wk} (hok:k.Ok) {r:Nat}:r∈k.sources↔r < k.n∧(k.v r).from_=-1:=by
 unfold Wk.sources
 rw [List.mem_filter,List.mem_range,decide_eq_true_eq]
 constructor
 ·rintro ⟨h1,h2⟩
  have:=(hok.ves r h1).1
  exact ⟨h1,by omega⟩
 ·rintro ⟨h1,h2⟩
  exact ⟨h1,by omega⟩
theorem abI (k:Wk):k.sources.Nodup:=List.nodup_range.filter _
theorem acz {k:Wk} (hok:k.Ok) (o:Nat→Int):((List.range k.n).map o).sum=(k.sources.map (aah k o)).sum:=by
 have e1:(k.sources.map (aah k o)).sum=((List.range k.n).map fun j=>(k.sources.map fun x=>if inB k x j then o j else 0).sum).sum:=by
  rw [← ab2]
  congr 1
  exact List.map_congr_left fun x _=>aaU _ _ _
 rw [e1]
 congr 1
 refine List.map_congr_left fun j hj=>?_
 have hj':=List.mem_range.1 hj
 obtain ⟨r,h1,h2,h3⟩:=Yf hok j hj'
 rw [abG (abI k) ((V6 hok).2 ⟨h1,h2⟩) fun y hy hyx=>if_neg fun h=>hyx ?_,if_pos h3]
 have hy':=(V6 hok).1 hy
 exact Qz hok hy'.1 h1 hy'.2 h2 j hj' h h3
def mg (k:Wk) (w:Nat→Nat) (st:Bool) (j:Nat):Int :=
 if k.fills j=[] then (if st then (w j:Int) else 0) else (if st then 0 else (w j:Int) - (((k.fills j).map w).sum:Nat))
theorem abX {k:Wk} {w w':Nat→Nat} (st:Bool) {j:Nat} (h1:w j=w' j) (h2:∀ x∈k.fills j,w x=w' x):mg k w st j=mg k w' st j:=by
 unfold mg
 rw [h1,List.map_congr_left h2]
theorem aaG {k:Wk} (hok:k.Ok) {w w':Nat→Nat} (st:Bool) {i:Nat} (h:∀ j,j < k.n→inB k i j=true→w j=w' j):aah k (mg k w st) i=aah k (mg k w' st) i :=
 ab4 fun j hj hb=>abX st (h j hj hb) fun x hx=>h x (gK.1 hx).1 (Hf hok hb hx)
theorem ab5 {k:Wk} (hok:k.Ok) {s:SS} {f:List Nat} {fr:Int} (hf:∀ x∈f,x < k.n∧(k.v x).from_=fr) {Wp:Nat→(Nat→Nat)→Prop} (hW:∀ x∈f,∃ w:Nat→Nat,Wp x w∧∀ j,j < k.n→inB k x j=true→Fit k s w j) (w0:Nat→Nat) :
  ∃ w:Nat→Nat,(∀ j,(∀ x∈f,inB k x j=false)→w j=w0 j)∧∀ x∈f,∃ wx:Nat→Nat,Wp x wx∧(∀ j,j < k.n→inB k x j=true→w j=wx j∧Fit k s w j):=by
 have hW':∀ x,∃ w:Nat→Nat,x∈f→Wp x w∧∀ j,j < k.n→inB k x j=true→Fit k s w j:=fun x=>by
  by_cases hx:x∈f
  ·obtain ⟨w,h⟩:=hW x hx
   exact ⟨w,fun _=>h⟩
  ·exact ⟨fun _=>0,fun h=>absurd h hx⟩
 let W:Nat→Nat→Nat:=fun x=>Classical.choose (hW' x)
 have hWs:∀ x∈f,Wp x (W x)∧∀ j,j < k.n→inB k x j=true→Fit k s (W x) j:=fun x hx=>Classical.choose_spec (hW' x) hx
 have gin:∀ {x j},x∈f→j < k.n→inB k x j=true→glue k f W w0 j=W x j:=fun {x j} hx hj hb=>Qh hx hb fun y hy hb'=>Qz hok (hf y hy).1 (hf x hx).1 (hf y hy).2 (hf x hx).2 j hj hb' hb
 refine ⟨glue k f W w0,fun j h=>Ve h,fun x hx=>⟨W x,(hWs x hx).1,fun j hj hb=>⟨gin hx hj hb,?_⟩⟩⟩
 exact ((hWs x hx).2 j hj hb).congr (gin hx hj hb) fun y hy=>gin hx (gK.1 hy).1 (Hf hok hb hy)
theorem abR {k:Wk} (hok:k.Ok) {s:SS} (hs:s.WF) (hlo:∀ i,0≤(s.aP i).1) (st:Bool):∀ (f i:Nat),i < k.n→k.n - i≤f →
  Holds (jm k s st f i) fun n y=>∃ w:Nat→Nat,w i=n∧(∀ j,j < k.n→inB k i j=true→Fit k s w j)∧y=aah k (mg k w st) i:=fun f=>by
 induction f with
 | zero=>exact fun i h1 h2=>by omega
 | succ f ih =>
  intro i hi hf
  rw [jm]
  by_cases hn:k.fills i=[]
  ·rw [if_pos hn]
   refine (acg s st i 41 (by omega)).congr fun n y=>?_
   have hbr:∀ w,aah k (mg k w st) i=if st then (w i:Int) else 0:=fun w=>by
    rw [abf hok _ hi,hn]
    simp [mg,hn]
   constructor
   ·rintro ⟨h1,h2,h3⟩
    refine ⟨fun _=>n,rfl,fun j hj hb=>?_,by rw [hbr,h3]⟩
    rcases Ie hok i j hj hb with rfl | ⟨x,hx,_⟩
    ·exact ⟨h2,fun h=>absurd hn h⟩
    ·rw [hn] at hx;cases hx
   ·rintro ⟨w,rfl,h1,h2⟩
    have hl:=(h1 i hi (gq k i)).1
    have:=GU hs hl
    exact ⟨by omega,hl,by rw [h2,hbr]⟩
  ·rw [if_neg hn]
   have hfg:=fun x hx=>rV hok (i:=i) (x:=x) hx
   have hH:=abH (k.fills i) (Bg k i) (fun x hx=>ih x (hfg x hx).2 (by have:=hfg x hx;omega)) (aav.add (n:=0) (by decide) (Q:=fun y=>y=0) (v:=(0,0)) rfl rfl (by rintro y rfl;simp))
   refine (abT hH (s.aK i) st (hlo i) (hi:=(s.aP i).2) 41 (by omega)).congr fun n y=>?_
   constructor
   ·rintro ⟨x,d,y1,h1,h2,h3,rfl,h5,h6,⟨h7,n0,y0,c,z,h8,h9,rfl,rfl⟩,h10⟩
    obtain ⟨rfl,rfl⟩:n0=0∧y0=0:=h8.resolve_left id
    obtain ⟨w,hw1,hw2⟩:=ab5 hok (f:=k.fills i) (fr:=(i:Int)) (fun x hx=>gK.1 hx) (Wp:=fun x w=>w x=c x∧z x=aah k (mg k w st) x) (fun x hx=>by
     obtain ⟨w,g1,g2,g3⟩:=h9 x hx
     exact ⟨w,⟨g1,g3⟩,g2⟩) (fun _=>0+((k.fills i).map c).sum+d)
    have hwi:w i=0+((k.fills i).map c).sum+d:=hw1 i fun x hx=>by
     cases hh:inB k x i
     ·rfl
     ·have:=DN hok x i hi hh
      have:=hfg x hx
      omega
    have hwc:(k.fills i).map w=(k.fills i).map c:=List.map_congr_left fun x hx=>by
     obtain ⟨wx,⟨g1,_⟩,g2⟩:=hw2 x hx
     rw [(g2 x (hfg x hx).2 (gq k x)).1,g1]
    have hwz:(k.fills i).map (aah k (mg k w st))=(k.fills i).map z:=List.map_congr_left fun x hx=>by
     obtain ⟨wx,⟨_,g1⟩,g2⟩:=hw2 x hx
     rw [g1]
     exact aaG hok st fun j hj hb=>(g2 j hj hb).1
    refine ⟨w,hwi,fun j hj hb=>?_,?_⟩
    ·rcases Ie hok i j hj hb with rfl | ⟨x,hx,hbx⟩
     ·refine ⟨by rw [hwi];exact h6,fun _=>⟨d,?_,by rw [hwi,hwc];omega⟩⟩
      rw [wI]
      simp only [Bool.and_eq_true,decide_eq_true_eq]
      omega
     ·obtain ⟨wx,_,g2⟩:=hw2 x hx
      exact (g2 j hj hbx).2
    ·rw [abf hok _ hi,hwz,h10]
     unfold mg
     rw [if_neg hn,hwc,hwi]
     cases st
     ·simp only [Bool.false_eq_true,if_false];omega
     ·simp only [if_true]
   ·rintro ⟨w,rfl,h1,h2⟩
    obtain ⟨hl,hd⟩:=h1 i hi (gq k i)
    obtain ⟨d,hd1,hd2⟩:=hd hn
    have h40:=GU hs hl
    rw [wI] at hd1
    simp only [Bool.and_eq_true,decide_eq_true_eq] at hd1
    refine ⟨((k.fills i).map w).sum,d,((k.fills i).map (aah k (mg k w st))).sum,by omega,by omega,by omega,hd2,h40,hl,⟨by omega,0,0,w,aah k (mg k w st),.inr ⟨rfl,rfl⟩,fun x hx=>?_,by omega,by omega⟩,?_⟩
    ·exact ⟨w,rfl,fun j hj hb=>h1 j hj (Rz hok hx j hj hb),rfl⟩
    ·rw [h2,abf hok _ hi]
     unfold mg
     rw [if_neg hn,hd2]
     cases st
     ·simp only [Bool.false_eq_true,if_false];omega
     ·simp only [if_true];omega
theorem acv {g:Gr} {P:Nat→Int→Prop} (h:Holds g P) (m:Nat) :
  match gy g m with
  | none=>∀ n y,n < m→¬ P n y
  | some r=>(∃ n,n < m∧P n r.1)∧(∃ n,n < m∧P n r.2)∧∀ n y,n < m→P n y→r.1≤y∧y≤r.2:=by
 induction m with
 | zero=>exact fun n y hn=>absurd hn (by omega)
 | succ m ih =>
  rw [gy]
  by_cases hb:g.has.testBit m=true
  ·rw [if_pos hb]
   have h1:=h.lo m hb
   have h2:=h.hi m hb
   cases hf:gy g m with
   | none =>
    rw [hf] at ih
    refine ⟨⟨m,by omega,h1⟩,⟨m,by omega,h2⟩,fun n y hn hp=>?_⟩
    by_cases e:n=m
    ·subst e;exact h.all n y hp
    ·exact absurd hp (ih n y (by omega))
   | some r =>
    rw [hf] at ih
    obtain ⟨⟨n1,g1,g2⟩,⟨n2,g3,g4⟩,g5⟩:=ih
    refine ⟨?_,?_,fun n y hn hp=>?_⟩
    ·show ∃ n,n < m+1∧P n (min r.1 (g.get m).1)
     rcases Int.le_total r.1 (g.get m).1 with h3 | h3
     ·rw [Int.min_eq_left h3];exact ⟨n1,by omega,g2⟩
     ·rw [Int.min_eq_right h3];exact ⟨m,by omega,h1⟩
    ·show ∃ n,n < m+1∧P n (max r.2 (g.get m).2)
     rcases Int.le_total r.2 (g.get m).2 with h3 | h3
     ·rw [Int.max_eq_right h3];exact ⟨m,by omega,h2⟩
     ·rw [Int.max_eq_left h3];exact ⟨n2,by omega,g4⟩
    ·show min r.1 (g.get m).1≤y∧y≤max r.2 (g.get m).2
     by_cases e:n=m
     ·subst e;have:=h.all n y hp;omega
     ·have:=g5 n y (by omega) hp;omega
  ·rw [if_neg hb]
   have hno:∀ y,¬ P m y:=fun y hp=>hb ((h.has m).2 ⟨y,hp⟩)
   cases hf:gy g m with
   | none =>
    rw [hf] at ih
    intro n y hn hp
    by_cases e:n=m
    ·subst e;exact hno y hp
    ·exact ih n y (by omega) hp
   | some r =>
    rw [hf] at ih
    obtain ⟨⟨n1,g1,g2⟩,⟨n2,g3,g4⟩,g5⟩:=ih
    refine ⟨⟨n1,by omega,g2⟩,⟨n2,by omega,g4⟩,fun n y hn hp=>?_⟩
    by_cases e:n=m
    ·subst e;exact absurd hp (hno y)
    ·exact g5 n y (by omega) hp
theorem abd {k:Wk} (hok:k.Ok) {s:SS} (hs:s.WF) (hlo:∀ i,0≤(s.aP i).1) (st:Bool) {i:Nat} (hi:i < k.n) {w0:Nat→Nat} (h0:∀ j,j < k.n→inB k i j=true→Fit k s w0 j) :
  (∃ w:Nat→Nat,(∀ j,j < k.n→inB k i j=true→Fit k s w j)∧aah k (mg k w st) i=(kX k s st i).1)∧(∃ w:Nat→Nat,(∀ j,j < k.n→inB k i j=true→Fit k s w j)∧aah k (mg k w st) i=(kX k s st i).2) ∧
   ∀ w:Nat→Nat,(∀ j,j < k.n→inB k i j=true→Fit k s w j)→(kX k s st i).1≤aah k (mg k w st) i∧aah k (mg k w st) i≤(kX k s st i).2:=by
 have hH:=abR hok hs hlo st (k.n - i) i hi (Nat.le_refl _)
 have hf:=acv hH 41
 unfold kX Qg
 cases e:gy (jm k s st (k.n - i) i) 41 with
 | none =>
  rw [e] at hf
  have hp:∃ w:Nat→Nat,w i=w0 i∧(∀ j,j < k.n→inB k i j=true→Fit k s w j)∧aah k (mg k w0 st) i=aah k (mg k w st) i:=⟨w0,rfl,h0,rfl⟩
  have:=hH.small hp
  exact absurd hp (hf _ _ (by omega))
 | some r =>
  rw [e] at hf
  obtain ⟨⟨n1,_,w1,_,g1,g2⟩,⟨n2,_,w2,_,g3,g4⟩,g5⟩:=hf
  refine ⟨⟨w1,g1,g2.symm⟩,⟨w2,g3,g4.symm⟩,fun w hw=>?_⟩
  have hp:∃ w':Nat→Nat,w' i=w i∧(∀ j,j < k.n→inB k i j=true→Fit k s w' j)∧aah k (mg k w st) i=aah k (mg k w' st) i:=⟨w,rfl,hw,rfl⟩
  have:=hH.small hp
  exact g5 _ _ (by omega) hp
def aaj (k:Wk) (w:Nat→Nat) (st:Bool):Int:=((List.range k.n).map (mg k w st)).sum
theorem acC (k:Wk) (s:SS) (st:Bool):dW k s st=((k.sources.map fun i=>(kX k s st i).1).sum,(k.sources.map fun i=>(kX k s st i).2).sum):=by
 have key:∀ (l:List Nat) (t:Int × Int),l.foldl (fun t i=>dX t (kX k s st i)) t=(t.1+(l.map fun i=>(kX k s st i).1).sum,t.2+(l.map fun i=>(kX k s st i).2).sum):=fun l=>by
  induction l with
  | nil=>intro t;simp
  | cons a l ih =>
   intro t
   rw [List.foldl_cons,ih]
   simp only [dX,List.map_cons,List.sum_cons,Prod.mk.injEq]
   omega
 unfold dW
 rw [key]
 simp
theorem acw {k:Wk} (hok:k.Ok) {s:SS} (hs:s.WF) (hlo:∀ i,0≤(s.aP i).1) (st:Bool) {w0:Nat→Nat} (h0:Hu k s w0) :
  (∃ w,Hu k s w∧aaj k w st=(dW k s st).1)∧(∃ w,Hu k s w∧aaj k w st=(dW k s st).2)∧∀ w,Hu k s w→(dW k s st).1≤aaj k w st∧aaj k w st≤(dW k s st).2:=by
 have hF:=fun {i} (hi:i < k.n)=>abd hok hs hlo st hi fun j hj _=>h0 j hj
 have key:∀ g:Nat→Int,(∀ r∈k.sources,∃ w:Nat→Nat,aah k (mg k w st) r=g r∧∀ j,j < k.n→inB k r j=true→Fit k s w j)→∃ w,Hu k s w∧aaj k w st=(k.sources.map g).sum:=fun g hg=>by
  obtain ⟨w,_,hw⟩:=ab5 hok (f:=k.sources) (fr:=-1) (fun x hx=>(V6 hok).1 hx) (Wp:=fun x w=>aah k (mg k w st) x=g x) hg fun _=>0
  refine ⟨w,fun j hj=>?_,?_⟩
  ·obtain ⟨r,h1,h2,h3⟩:=Yf hok j hj
   obtain ⟨wx,_,g2⟩:=hw r ((V6 hok).2 ⟨h1,h2⟩)
   exact (g2 j hj h3).2
  ·unfold aaj
   rw [acz hok]
   congr 1
   refine List.map_congr_left fun x hx=>?_
   obtain ⟨wx,g1,g2⟩:=hw x hx
   rw [← g1]
   exact aaG hok st fun j hj hb=>(g2 j hj hb).1
 rw [acC]
 refine ⟨key _ fun r hr=>?_,key _ fun r hr=>?_,fun w hw=>?_⟩
 ·obtain ⟨⟨w,h1,h2⟩,_⟩:=hF ((V6 hok).1 hr).1
  exact ⟨w,h2,h1⟩
 ·obtain ⟨_,⟨w,h1,h2⟩,_⟩:=hF ((V6 hok).1 hr).1
  exact ⟨w,h2,h1⟩
 ·unfold aaj
  rw [acz hok]
  refine ⟨acN fun r hr=>?_,acN fun r hr=>?_⟩
  ·obtain ⟨_,_,h⟩:=hF ((V6 hok).1 hr).1
   exact (h w fun j hj _=>hw j hj).1
  ·obtain ⟨_,_,h⟩:=hF ((V6 hok).1 hr).1
   exact (h w fun j hj _=>hw j hj).2
structure Least (S:Int→Prop) (r:Int × Int):Prop where
 lo:S r.1
 hi:S r.2
 all:∀ y,S y→r.1≤y∧y≤r.2
theorem Least.eq {S S':Int→Prop} {r r':Int × Int} (h:Least S r) (h':Least S' r') (e:∀ y,S y↔S' y):r=r':=by
 have h1:=h.all _ ((e _).2 h'.lo)
 have h2:=h.all _ ((e _).2 h'.hi)
 have h3:=h'.all _ ((e _).1 h.lo)
 have h4:=h'.all _ ((e _).1 h.hi)
 exact Prod.ext (by omega) (by omega)
theorem Least.sub {S S':Int→Prop} {r r':Int × Int} (h:Least S r) (h':Least S' r') (e:∀ y,S y→S' y):r'.1≤r.1∧r.2≤r'.2 :=
 ⟨(h'.all _ (e _ h.lo)).1,(h'.all _ (e _ h.hi)).2⟩
theorem ab8 {k:Wk} (hok:k.Ok) {s:SS} (hs:s.WF) (hlo:∀ i,0≤(s.aP i).1) (st:Bool) {w0:Nat→Nat} (h0:Hu k s w0):Least (fun y=>∃ w,Hu k s w∧y=aaj k w st) (dW k s st):=by
 obtain ⟨⟨w1,a1,a2⟩,⟨w2,b1,b2⟩,h⟩:=acw hok hs hlo st h0
 exact ⟨⟨w1,a1,a2.symm⟩,⟨w2,b1,b2.symm⟩,by rintro y ⟨w,hw,rfl⟩;exact h w hw⟩
theorem acE {k:Wk} (hok:k.Ok) (st:Bool) {w0:Nat→Nat} (h0:Hu k (aN k aC) w0):Least (fun y=>∃ w,Hu k (aN k aC) w∧y=aaj k w st) (dW k (aN k aC) st):=ab8 hok (gG _ _) (QU k hok aC) st h0
end Go.Wg
namespace Go.Proofs.YtjjmefieegcddaaDoor
open Go.RowKit Go.Wg Go.Mm Go.Wk
open Go Go.Sr Go.Ph Go.Tm Go.Conc
variable {w:World} {V:View} {w0:World} {L:List dF} {X:List Nat} {f0:FuncId} {R:Ending→World→Prop} {k0:List Item} {a:Act}
theorem abU {k:Wk} (hok:k.Ok):vX k=if can k (aN k aC) then (dW k (aN k aC) false,0) else ((0,0),9):=by
 unfold vX can
 rw [if_pos (G7 hok [] (fun n hn=>nomatch hn))]
theorem acj {k:Wk} (hok:k.Ok):abN k=(can k (aN k aC),0):=by
 unfold abN
 rw [if_pos (G7 hok [] (fun n hn=>nomatch hn))]
theorem acM {N:FuncId} {fn:Func} {y:Array Operand} {ats:Array TypeId} {args:Array Value} {v:Value} {ops:Array Oper} {l:List Nat} {i:Nat} {o:Oper} (d:Nat) (hS:St w0 X V L w) (hf:Tryd.prog.funcs[N]? = some fn) (hb:(fn.name == "runtime.NumGoroutine")=false) (hb2:fn.body.isNone=false) (hc:∀ τ d,ay OC (w.re τ d)→kL Tryd.prog N args (w.re τ d) fun e w'=>e=.returned v∧Kp (w.re τ d) w')
  (hd:a.defers=[]) (ho:ops[i]? = some o) (hdst:o.dst=some d) (hw:Region.wanted o (yielded ops a.tmps)=true) (hop:o.op=.call { callee:=.value (.func N),args:=y,argTypes:=ats }) (hy:y.toList.map a.eval=args.toList)
  (h:∀ w' a',St w0 X V L w'→a.put (some d) v=a'→RB f0 R (.inRegion ops l :: k0) a' w'):RB f0 R (.inRegion ops (i :: l) :: k0) a w:=by
 refine acP (N:=N) (args:=args) (R':=fun e w'=>e=.returned v∧Kp w w') hd ho hw (by rw [hop];rfl) (fun w1=>?_) (fun ch w1 h=>nomatch h.1) (fun τ d hh=>(hc τ d hh).mono fun e w1 h=>⟨h.1,uq h.2⟩) ?_
 ·rw [run_call_body hop hf hb hb2,show y.map a.eval=args from Array.ext' (by rw [Array.toList_map,hy])]
 rintro v' w1 ⟨hv,hk⟩
 cases hv
 rw [hdst]
 exact h _ _ (hS.kp hk) rfl
theorem acy {vv rv:Value} {k:Wk} {x1 x2 e:Int} {y:Array Operand} {ats:Array TypeId} {ops:Array Oper} {l:List Nat} {i:Nat} {o:Oper} (d:Nat) (hS:St w0 X V L w) (hB:Bs V) (hk:iJ V vv rv k) (hv:vX k=((x1,x2),e))
  (hd:a.defers=[]) (ho:ops[i]? = some o) (hdst:o.dst=some d) (hw:Region.wanted o (yielded ops a.tmps)=true) (hop:o.op=.call { callee:=.value (.func 40),args:=y,argTypes:=ats }) (hy:y.toList.map a.eval=[.agg #[vv,rv]])
  (h:∀ w' a',St w0 X V L w'→a.put (some d) (.tuple #[.agg #[.int .i64 x1,.int .i64 x2],.int .i64 e])=a'→RB f0 R (.inRegion ops l :: k0) a' w'):RB f0 R (.inRegion ops (i :: l) :: k0) a w:=by
 refine acM d hS Tryd.func40 (by kernel_rfl) (by kernel_rfl) (fun τ d hh=>?_) hd ho hdst hw hop hy h
 have hL:=ZB vv rv k hk hB.gv (hS.re1 τ d).view hh
 rw [hv] at hL
 exact hL
theorem acQ {y:Array Operand} {ats:Array TypeId} {ops:Array Oper} {l:List Nat} {i:Nat} {o:Oper} (d:Nat) (hS:St w0 X V L w) (hB:Bs V)
  (hd:a.defers=[]) (ho:ops[i]? = some o) (hdst:o.dst=some d) (hw:Region.wanted o (yielded ops a.tmps)=true) (hop:o.op=.call { callee:=.value (.func 21),args:=y,argTypes:=ats }) (hy:y.toList.map a.eval=[])
  (h:∀ w' a',St w0 X V L w'→a.put (some d) (.bool true)=a'→RB f0 R (.inRegion ops l :: k0) a' w'):RB f0 R (.inRegion ops (i :: l) :: k0) a w :=
 acM d hS Tryd.func21 (by kernel_rfl) (by kernel_rfl) (fun τ d hh=>TB hB (hS.re1 τ d).view hh) hd ho hdst hw hop hy h
theorem acW {fn:Func} (hf:Tryd.prog.funcs[f0]? = some fn) (hS:St w0 [] V L w) (hd:a.defers=[]) (hr:∀ w,(results fn a.tmps).run Tryd.prog w=.ok (.bool true) w):RB f0 (fun r w'=>r=.returned (.bool true)∧Kp w0 w') (.code .ret :: k0) a w :=
 acX hf hd hr (fun τ d=>⟨rfl,aaw hS.bM τ d⟩) xM
theorem abD {tgt todo:List Item} (hit:todo.all qy=true) (hd:a.defers=[]) (hS:St w0 X V L w) (h:∀ w',St w0 X V L w'→fA Tryd.prog tgt (RB f0 R tgt) todo a w'):RB f0 R todo a w :=
 acV tgt hit hd fun τ d=>h _ (hS.re1 τ d)
theorem aa6 {tgt k:List Item} {S:Act→World→Prop} (n:Nat) {l:List Oper} (hn:n≤l.length) (hw:wpList Tryd.prog l.toArray (fun e a' w'=>e=.normal∧fA Tryd.prog tgt S (.inRegion l.toArray (List.range' n (l.length - n)) :: k) a' w') (l.take n) a w) :
  fA Tryd.prog tgt S (.inRegion l.toArray (List.range l.toArray.size) :: k) a w:=by
 have e:List.range l.toArray.size=List.range' 0 (l.take n).length ++ List.range' n (l.length - n):=by
  rw [List.range_eq_range',List.length_take,Nat.min_eq_left hn]
  have:=List.range'_append (s:=0) (m:=n) (n:=l.length - n) (step:=1)
  rw [Nat.zero_add,Nat.one_mul] at this
  rw [this]
  congr 1
  show l.length=_
  omega
 rw [e]
 refine abY _ a w ?_
 rw [abB (l.take n) 0 fun j hj=>?_]
 ·exact hw
 ·rw [List.length_take] at hj
  rw [Nat.zero_add,List.getElem?_take,if_pos (by omega)]
  simp
theorem abr {tgt k:List Item} {S:Act→World→Prop} (n:Nat) {l:List Oper} {m:List Nat} (hm:m=List.range' n (l.length - n)) (hw:wpList Tryd.prog l.toArray (fun e a' w'=>e=.normal∧fA Tryd.prog tgt S (.inRegion l.toArray [] :: k) a' w') (l.drop n) a w):fA Tryd.prog tgt S (.inRegion l.toArray m :: k) a w:=by
 subst hm
 have e:List.range' n (l.length - n)=List.range' n (l.drop n).length ++ []:=by rw [List.length_drop,List.append_nil]
 rw [e]
 refine abY _ a w ?_
 rw [abB (l.drop n) n fun j hj=>?_]
 ·exact hw
 ·rw [List.getElem?_drop]
  simp
end Go.Proofs.YtjjmefieegcddaaDoor
namespace Go.Wg
open Go Go.Mm Go.Proofs.YtjjmefieegcddaaDoor
def upW (k:Wk) (v:Nat) (u:Nat→Nat) (j:Nat):Nat:=u (cB k v j)
theorem acF (k:Wk) (v:Nat):(List.range k.n).filter (inB k v)=(List.range (cB k v k.n)).map (gB k v):=by
 refine List.ext_getElem? fun i=>?_
 have hl:((List.range k.n).filter (inB k v)).length=cB k v k.n:=rfl
 by_cases hi:i < cB k v k.n
 ·have e:((List.range k.n).filter (inB k v))[i]? = some (gB k v i):=by
   unfold gB
   rw [List.getD_eq_getElem?_getD,List.getElem?_eq_getElem (by rw [hl];exact hi)]
   rfl
  rw [e]
  simp [hi]
 ·rw [List.getElem?_eq_none (by rw [hl];omega),List.getElem?_eq_none (by simp;omega)]
theorem abn {k:Wk} (hok:k.Ok) {v:Nat} (hv:v < k.n) (u:Nat→Nat) {p:Nat} (hp:p < cB k v k.n):Fit (k.branch v) (aN (k.branch v) aC) u p↔Fit k (aN k aC) (upW k v u) (gB k v p):=by
 have hf:=I7 hok v hp
 have hfb:∀ x∈(k.branch v).fills p,x < cB k v k.n:=fun x hx=>by
  have:=(gK.1 hx).1
  rwa [jy] at this
 have hm:(k.fills (gB k v p)).map (upW k v u)=((k.branch v).fills p).map u:=by
  rw [← hf,List.map_map]
  refine List.map_congr_left fun x hx=>?_
  simp only [Function.comp,upW,Qo k v (hfb x hx)]
 have hu:upW k v u (gB k v p)=u p:=by unfold upW;rw [Qo k v hp]
 have hne:k.fills (gB k v p)≠[]↔(k.branch v).fills p≠[]:=by
  rw [← hf]
  simp
 unfold Fit
 rw [NW hok hv hp,Oz hok hv hp,hm,hu,hne]
theorem aaM {k:Wk} (hok:k.Ok) {v:Nat} (hv:v < k.n) (u:Nat→Nat):Hu (k.branch v) (aN (k.branch v) aC) u↔∀ j,j < k.n→inB k v j=true→Fit k (aN k aC) (upW k v u) j:=by
 constructor
 ·intro h j hj hb
  have:=h (cB k v j) (by rw [jy];exact vH k v hj hb)
  rwa [abn hok hv u (vH k v hj hb),Lj k v hj hb] at this
 ·intro h p hp
  rw [jy] at hp
  obtain ⟨h1,h2⟩:=uV k v hp
  exact (abn hok hv u hp).2 (h _ h1 h2)
theorem abL {k:Wk} (hok:k.Ok) {v:Nat} (u:Nat→Nat) (st:Bool) {p:Nat} (hp:p < cB k v k.n):mg (k.branch v) u st p=mg k (upW k v u) st (gB k v p):=by
 have hf:=I7 hok v hp
 have hfb:∀ x∈(k.branch v).fills p,x < cB k v k.n:=fun x hx=>by
  have:=(gK.1 hx).1
  rwa [jy] at this
 have hm:(k.fills (gB k v p)).map (upW k v u)=((k.branch v).fills p).map u:=by
  rw [← hf,List.map_map]
  refine List.map_congr_left fun x hx=>?_
  simp only [Function.comp,upW,Qo k v (hfb x hx)]
 have hu:upW k v u (gB k v p)=u p:=by unfold upW;rw [Qo k v hp]
 have he:(k.fills (gB k v p)=[])=((k.branch v).fills p=[]):=by
  rw [← hf]
  simp
 unfold mg
 rw [hm,hu]
 simp only [he]
theorem aaL {k:Wk} (hok:k.Ok) (v:Nat) (u:Nat→Nat) (st:Bool):aaj (k.branch v) u st=aah k (mg k (upW k v u) st) v:=by
 unfold aaj aah
 rw [acF,jy,List.map_map]
 congr 1
 exact List.map_congr_left fun p hp=>abL hok u st (List.mem_range.1 hp)
theorem abE {k:Wk} (hok:k.Ok) {v:Nat} (w:Nat→Nat) {j:Nat} (hj:j < k.n) (hb:inB k v j=true):upW k v (fun p=>w (gB k v p)) j=w j:=by
 show w (gB k v (cB k v j))=w j
 rw [Lj k v hj hb]
theorem abQ {k:Wk} (hok:k.Ok) {v:Nat} (hv:v < k.n) (st:Bool) {w0:Nat→Nat} (h0:Hu (k.branch v) (aN (k.branch v) aC) w0):dW (k.branch v) (aN (k.branch v) aC) st=kX k (aN k aC) st v:=by
 have h1:=acE (kP hok hv) st h0
 obtain ⟨⟨wa,a1,a2⟩,⟨wb,b1,b2⟩,h2⟩:=abd hok (gG k aC) (QU k hok aC) st hv (fun j hj hb=>(aaM hok hv w0).1 h0 j hj hb)
 have h3:Least (fun y=>∃ w:Nat→Nat,(∀ j,j < k.n→inB k v j=true→Fit k (aN k aC) w j)∧y=aah k (mg k w st) v) (kX k (aN k aC) st v):=⟨⟨wa,a1,a2.symm⟩,⟨wb,b1,b2.symm⟩,by rintro y ⟨w,hw,rfl⟩;exact h2 w hw⟩
 refine h1.eq h3 fun y=>⟨fun ⟨w,hw,hy⟩=>⟨upW k v w,(aaM hok hv w).1 hw,by rw [hy,aaL hok]⟩,fun ⟨w,hw,hy⟩=>⟨fun p=>w (gB k v p),?_,?_⟩⟩
 ·refine (aaM hok hv _).2 fun j hj hb=>(hw j hj hb).congr (abE hok w hj hb) fun x hx=>?_
  exact abE hok w (gK.1 hx).1 (Hf hok hb hx)
 ·rw [hy,aaL hok]
  exact aaG hok st fun j hj hb=>(abE hok w hj hb).symm
theorem ab3 {k:Wk} (hok:k.Ok):can k (aN k aC)=k.sources.all fun r=>(up k (aN k aC)).getD r 0 != 0:=by
 rw [Bool.eq_iff_iff,XA,List.all_eq_true]
 constructor
 ·intro h r hr
  have:=h r ((V6 hok).1 hr).1
  simpa using this
 ·intro h i hi
  obtain ⟨r,h1,h2,h3⟩:=Yf hok i hi
  have h4:=h r ((V6 hok).2 ⟨h1,h2⟩)
  exact abO hok _ (by simpa using h4) i hi h3
def apB (k:Wk) (m:Nat):Bool:=(List.range m).all fun r=>decide (0≤(k.v r).from_) || ((up k (aN k aC)).getD r 0 != 0)
def apL (k:Wk):Nat→Int × Int
 | 0=>(0,0)
 | m+1=>if (k.v m).from_ < 0∧(up k (aN k aC)).getD m 0≠0 then dX (apL k m) (kX k (aN k aC) false m) else apL k m
theorem ab9 (k:Wk) (m:Nat):apB k (m+1)=(apB k m && (decide (0≤(k.v m).from_) || ((up k (aN k aC)).getD m 0 != 0))):=by
 unfold apB
 rw [List.range_succ,List.all_append]
 simp
theorem acT {k:Wk} (hok:k.Ok):apB k k.n=can k (aN k aC):=by
 rw [ab3 hok,Bool.eq_iff_iff]
 unfold apB Wk.sources
 rw [List.all_eq_true,List.all_eq_true]
 constructor
 ·intro h r hr
  obtain ⟨h1,h2⟩:=List.mem_filter.1 hr
  have:=h r h1
  rw [decide_eq_true_eq] at h2
  have h3:¬ 0≤(k.v r).from_:=by omega
  simpa [h3] using this
 ·intro h r hr
  by_cases h2:0≤(k.v r).from_
  ·simp [h2]
  ·have:=h r (List.mem_filter.2 ⟨hr,by rw [decide_eq_true_eq];omega⟩)
   rw [this,Bool.or_true]
theorem acR {k:Wk} (hok:k.Ok) (h:can k (aN k aC)=true):apL k k.n=dW k (aN k aC) false:=by
 rw [XA] at h
 have key:∀ m,m≤k.n→apL k m=((List.range m).filter fun i=>decide ((k.v i).from_ < 0)).foldl (fun t i=>dX t (kX k (aN k aC) false i)) (0,0):=fun m=>by
  induction m with
  | zero=>intro _;rfl
  | succ m ih =>
   intro hm
   rw [apL,List.range_succ,List.filter_append,List.foldl_append,← ih (by omega)]
   by_cases hf:(k.v m).from_ < 0
   ·rw [if_pos ⟨hf,h m (by omega)⟩,List.filter_cons_of_pos (by simpa using hf)]
    rfl
   ·rw [if_neg fun h2=>hf h2.1,List.filter_cons_of_neg (by simpa using hf)]
    rfl
 exact key k.n (Nat.le_refl _)
end Go.Wg
