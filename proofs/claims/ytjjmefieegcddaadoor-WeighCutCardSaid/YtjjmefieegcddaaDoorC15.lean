/- A part of the proof: W21, W22, W23, Q6, W24, W25, W26, W27, W28, W62, W63, W64. -/
import Derived.Test.YtjjmefieegcddaaDoorC14
import Derived.Defers
import Derived.Recover
import Derived.Test.YtjjmefieegcddaaDoorC12
import Derived.Scope
import Derived.Test.YtjjmefieegcddaaDoorC11
set_option linter.unusedVariables false
set_option linter.unusedSimpArgs false
set_option maxHeartbeats 8000000
namespace Go.Proofs.YtjjmefieegcddaaDoor
open Go.RowKit Go.Wg Go.Mm
theorem J3 {V V':View} {p:Nat} {k:Wk} (h:jh V p k) (hV:∀ i o,V i=some o→V' i=some o):jh V' p k:=by
 obtain ⟨ts,vv,rv,hC⟩:=h
 exact ⟨ts,vv,rv,hC.mono hV⟩
theorem Ho {V:View} {w w1 w':World} (hV:V.In w) (hk:w.heap.size≤w1.heap.size):∀ i o,newV V w1 w' i=some o→newV V w w' i=some o:=fun i o h=>by
 unfold newV at h ⊢
 split at h
 ·rename_i h1
  have:=lt_of_heap (hV i o h)
  simp [this,h]
 ·rename_i h1
  rw [if_neg (by omega)];exact h
structure abj (V:View) (w w':World) (k:Wk) (ns:List Int) (c:Value):Prop where
 kp:Kp w w'
 bad:aS k ns≠0→c=.pointer none
 good:aS k ns=0→∃ p,c=.pointer (some ⟨p,0,none⟩)∧(newV V w w').In w'∧jh (newV V w w') p k∧∃ D,Closed (newV V w w') D∧p∈D
set_option maxRecDepth 20000 in
theorem EF (V:View) (vv rv:Value) (k:Wk) (hk:iJ V vv rv k) (sl:Value) (ns:List Int) (hsl:pW V sl ns.length 1 fun j=>[.int .i64 (ns.getD j 0)]) (hlen:ns.length≤100) (w:World) (hV:V.In w) :
  Calls Tryd.prog 77 #[.agg #[vv,rv],sl] w fun r w'=>∃ c,r=.returned (.tuple #[c,.int .i64 (aS k ns)])∧abj V w w' k ns c:=by
 have hopen:=fun hok w1 hV1=>Xh V vv rv k hk hok w1 hV1
 have hcheck:=fun w1 hV1=>Wq V vv rv k hk w1 hV1
 obtain ⟨va,vcap,rfl,hvc,hvm,hve⟩:=hk.ves.is
 obtain ⟨ra,rcap,rfl,hrc,hrm,hre⟩:=hk.rdg.is
 obtain ⟨na,ncap,rfl,hnc,hnm,hne⟩:=hsl.is
 have hn100:=hk.small.1
 have hS:=St.start w V hV
 clear hk hsl hve hre
 by_cases hck:nS k=0
 ·have hok:=AU hck
  have hpos:=hok.pos
  have hn6:=hok.le
  have hB:aS k ns=if ns.all (fun n=>!fQ n 0 (k.n - 1)) then 0 else 3:=by unfold aS;rw [if_neg (by simp [hck])]
  have hopen:=hopen hok
  rw [hck] at hcheck
  replace hck:=aj hck
  replace hB:=aj hB
  go_enter Tryd.func77,Tryd.ntmps77
  go_wp2_with (first | (first | (((with_reducible refine gL ?_);refine lW hS rfl rfl rfl ?_);refine ⟨_,zd,?_⟩;clear hS;(try clear w');intro a' hp;(try simp only [fr] at hp);subst hp;intro w' hS;(try simp only [sE] at hS)) | ((with_reducible refine gB ?_);refine iK 2 rfl hS rfl rfl rfl ?_;refine ⟨_,za,?_⟩;clear hS;(try clear w');intro b2;intro a' hp;(try simp only [fr] at hp);subst hp;intro w' hS)) | (go_at_call 29;refine aH hS ⟨_,hcheck _ (St.view hS),?_⟩;clear hS;(try clear w');intro w' hS))
  go_loopw [16] (fun iv wr=>∃ i:Nat,i≤ns.length∧iv=.int .i64 (i:Int)∧(ns.take i).all (fun n=>!fQ n 0 (k.n - 1))=true∧St w [] V [.blk b2 25 [.slice va k.n vcap,.slice ra k.rdg.length rcap]] wr) (fun iv _=>ns.length - (intOf iv).toNat)
  case atStart=>exact ⟨0,by omega,rfl,rfl,hS⟩
  case round =>
   clear hS
   obtain ⟨i,hi,rfl,hall,hS⟩:=hrel
   by_cases hlt:i < ns.length
   ·have h0:(0:Int)≤i:=by omega
    have h1:(i:Int) < ns.length:=by omega
    obtain ⟨ng,no,rfl,hnr⟩:=hne (by omega)
    have hc:=hnr i hlt 0 _ rfl
    simp only [Nat.mul_one,Nat.add_zero] at hc
    have hT:(ns.take (i+1)).all (fun n=>!fQ n 0 (k.n - 1))=!fQ (ns.getD i 0) 0 (k.n - 1):=by
     rw [List.take_succ_eq_append_getElem hlt,List.all_append,hall]
     simp [List.getD_eq_getElem?_getD,List.getElem?_eq_getElem hlt]
    have hA:fQ (ns.getD i 0) 0 (k.n - 1)=true→ns.all (fun n=>!fQ n 0 (k.n - 1))=false:=fun h=>by
     rw [List.all_eq_false]
     exact ⟨ns.getD i 0,by rw [List.getD_eq_getElem?_getD,List.getElem?_eq_getElem hlt];exact List.getElem_mem _,by rw [h];decide⟩
    clear hne hnr hall
    generalize ns.getD i 0=n at hc hT hA
    cases ho:fQ n 0 (k.n - 1)
    ·rw [ho] at hT
     replace hT:=aj hT
     clear hA
     go_wp2_with (first | (((with_reducible refine gL ?_);first | refine gY hS rfl rfl rfl ?_ | refine nC hS rfl rfl rfl ?_);refine ⟨_,zd,?_⟩;clear hS;(try clear w');intro a' hp;(try simp only [fr] at hp);subst hp;intro w' hS;(try simp only [sE] at hS)) | (go_at_call 88;refine aH hS ⟨_,fB _ _ _ _,?_⟩;rw [ho];clear hS;(try clear w');intro w' hS))
     go_roundw
     case rel=>exact ⟨i+1,by omega,by go_num,hT.out,hS⟩
     case measure=>simp only [intOf];omega
    ·have hA:=hA ho
     replace hA:=aj hA
     clear hT
     go_wp2_with (first | (((with_reducible refine gL ?_);first | refine gY hS rfl rfl rfl ?_ | refine nC hS rfl rfl rfl ?_);refine ⟨_,zd,?_⟩;clear hS;(try clear w');intro a' hp;(try simp only [fr] at hp);subst hp;intro w' hS;(try simp only [sE] at hS)) | (go_at_call 88;refine aH hS ⟨_,fB _ _ _ _,?_⟩;rw [ho];clear hS;(try clear w');intro w' hS))
     ((try simp only [Exit.inBlock,Exit.then]);(try refine aB ?_);refine bK ⟨_,by exact dA (r1:=.tmp 4) (r2:=.tmp 5) (by kernel_rfl) (by exact bD rfl) (by exact bD rfl),?_⟩ rfl)
     have hB3:aS k ns=3:=by rw [hB.out,hA.out];rfl
     refine ⟨_,by rw [hB3],hS.bM,fun _=>rfl,fun h=>?_⟩
     rw [hB3] at h;cases h
   ·obtain rfl:i=ns.length:=by omega
    rw [List.take_length] at hall
    have hB0:aS k ns=0:=by rw [hB.out,hall];rfl
    replace hall:=aj hall
    replace hB0:=aj hB0
    go_wp2_with (first | (((with_reducible refine gL ?_);refine lW hS rfl rfl rfl ?_);refine ⟨_,zd,?_⟩;clear hS;(try clear w');intro a' hp;(try simp only [fr] at hp);subst hp;intro w' hS;(try simp only [sE] at hS)) | (go_at_call 114;refine (hopen _ (St.view hS)).mono ?_;rintro _ w2 ⟨p,rfl,hkp,hin,hcel,D,hD,hpD⟩))
    ((try simp only [Exit.inBlock,Exit.then]);(try refine aB ?_);refine bK ⟨_,by exact dA (r1:=.tmp 4) (r2:=.tmp 5) (by kernel_rfl) (by exact bD rfl) (by exact bD rfl),?_⟩ rfl)
    refine ⟨_,by rw [hB0.out],hS.bM.trans hkp,fun h=>absurd hB0.out h,fun _=>⟨p,rfl,Qe (hS.view.kp hkp),J3 hcel (Ho hV hS.size),D,kM hD (Ho hV hS.size),hpD⟩⟩
 ·have hB:aS k ns=nS k:=by unfold aS;rw [if_pos hck]
  have hck':(nS k == 0)=false:=by rw [beq_eq_false_iff_ne];exact hck
  replace hB:=aj hB
  generalize nS k=e at hcheck hck hck' hB
  clear hopen
  go_enter Tryd.func77,Tryd.ntmps77
  go_wp2_with (first | (first | (((with_reducible refine gL ?_);refine lW hS rfl rfl rfl ?_);refine ⟨_,zd,?_⟩;clear hS;(try clear w');intro a' hp;(try simp only [fr] at hp);subst hp;intro w' hS;(try simp only [sE] at hS)) | ((with_reducible refine gB ?_);refine iK 2 rfl hS rfl rfl rfl ?_;refine ⟨_,za,?_⟩;clear hS;(try clear w');intro b2;intro a' hp;(try simp only [fr] at hp);subst hp;intro w' hS)) | (go_at_call 29;refine aH hS ⟨_,hcheck _ (St.view hS),?_⟩;clear hS;(try clear w');intro w' hS))
  ((try simp only [Exit.inBlock,Exit.then]);(try refine aB ?_);refine bK ⟨_,by exact dA (r1:=.tmp 4) (r2:=.tmp 5) (by kernel_rfl) (by exact bD rfl) (by exact bD rfl),?_⟩ rfl)
  refine ⟨_,by rw [hB.out],hS.bM,fun _=>rfl,fun h=>?_⟩
  exact absurd (hB.out.symm.trans h) hck
theorem MP (w:World) (t:TypeId) (v:Value):Kp w (w.alloc (.cells #[v] t)) :=
 ⟨rfl,rfl,by show _≤(w.heap.push _).size;simp,fun k hk=>heap_alloc_old w _ hk⟩
theorem Zv (w:World):(Instr.typeAssert .nilIface 20 152 true).run Tryd.prog w=.ok (.tuple #[.agg #[.int .i64 0],.bool false]) w:=by kernel_rfl
theorem Zl (i:Int) (w:World):(Instr.typeAssert (.iface 152 (.agg #[.int .i64 i])) 20 152 true).run Tryd.prog w=.ok (.tuple #[.agg #[.int .i64 i],.bool true]) w:=by kernel_rfl
set_option maxRecDepth 20000 in
theorem MC (p:Addr) (w:World) :
  CallsD Tryd.prog 82 #[.pointer (some p)] .returning w fun e u' w'=>e=.returned (.tuple #[])∧u'=.returning∧Kp w w':=by
 have hta:=Zv
 refine callsD_of_wpS Tryd.func82 rfl fun c₀ cs hu=>?_
 apply wpS_seq
 apply wpS_region
 simp [wpOpsS,go_sem,recoverD,hu,Tryd.ntmps82,Exit.thenS,hta]
 apply wpS_seq
 apply wpS_region
 simp [wpOpsS,go_sem,hu,Exit.thenS]
 refine wpS_cond (t:=false) (by simp [Act.eval,Array.replicate]) ?_
 simp only [Bool.false_eq_true,if_false]
 refine wpS_of_wp (wp_skip ?_)
 have hk:=MP w 152 (.int .i64 0)
 cases c₀
 simp_all [bodyPostS,results,Tryd.results82]
set_option maxRecDepth 20000 in
theorem Pv (b:Nat) (x:Value) (i:Int) (older:List PanicEntry) (w:World) (hb:w.heap[b]? = some (.cells #[x] 38 (0,0))) :
  CallsD Tryd.prog 82 #[.pointer (some ⟨b,0,none⟩)] (.panicking ({ v:=.iface 152 (.agg #[.int .i64 i]),recovered:=false } :: older)) w fun e u' w' =>
   e=.returned (.tuple #[])∧u'=.panicking ({ v:=.iface 152 (.agg #[.int .i64 i]),recovered:=true } :: older)∧ni b w w'∧w'.heap[b]? = some (.cells #[.int .i64 9] 38 (0,0)):=by
 have hta:=Zl i
 have hlt:=lt_of_heap hb
 refine callsD_of_wpS Tryd.func82 rfl fun c₀ cs hu=>?_
 apply wpS_seq
 apply wpS_region
 simp [wpOpsS,go_sem,recoverD,hu,Tryd.ntmps82,Exit.thenS,hta]
 apply wpS_seq
 apply wpS_region
 simp [wpOpsS,go_sem,hu,Exit.thenS]
 refine wpS_cond (t:=true) (by simp [Act.eval,Array.replicate]) ?_
 simp only [if_true]
 apply wpS_region
 have hh:(w.alloc (.cells #[.int .i64 i] 152)).heap[b]? = some (.cells [x].toArray 38 (0,0)):=by rw [heap_alloc_old w _ hlt];exact hb
 have hc:=aX (o:=0) (v:=x) hh rfl
 have hz:=frozen_of_row _ b 0 _ _ hh
 have hk:=MP w 152 (.int .i64 i)
 have hend:ni b w ((w.alloc (.cells #[.int .i64 i] 152)).setCell ⟨b,0,none⟩ (.int .i64 9))∧((w.alloc (.cells #[.int .i64 i] 152)).setCell ⟨b,0,none⟩ (.int .i64 9)).heap[b]? = some (.cells #[.int .i64 9] 38 (0,0)):=by
  refine ⟨⟨hk.os,hk.output,?_,fun k hk1 hk2=>?_⟩,?_⟩
  ·have:=hk.size
   have e:((w.alloc (.cells #[.int .i64 i] 152)).setCell ⟨b,0,none⟩ (.int .i64 9)).heap.size=(w.alloc (.cells #[.int .i64 i] 152)).heap.size:=by simp [World.setCell]
   omega
  ·rw [qL _ _ _ _ hk2];exact hk.old k hk1
  ·rw [heap_setCell_same _ b 0 _ 38 _ hh];simp
 generalize w.alloc (.cells #[.int .i64 i] 152)=W at hc hz hend ⊢
 simp [wpOpsS,go_sem,hc,hz,bodyPostS,results,Tryd.results82]
 exact hend
variable {w0 w:World} {X:List Nat} {V:View} {L:List dF}
theorem fF {vv rv sl:Value} {k:Wk} {ns:List Int} {R:Ending→World→Prop} (hS:St w0 X V L w) (hk:iJ V vv rv k) (hsl:pW V sl ns.length 1 fun j=>[.int .i64 (ns.getD j 0)]) (hlen:ns.length≤100) (hb:aS k ns≠0)
  (h:∀ w',St w0 X V L w'→R (.returned (.tuple #[.pointer none,.int .i64 (aS k ns)])) w'):Calls Tryd.prog 77 #[.agg #[vv,rv],sl] w R :=
 (EF V vv rv k hk sl ns hsl hlen w hS.view).mono fun e w' ⟨c,he,hr⟩=>by
  subst he
  rw [hr.bad hb]
  exact h w' (hS.kp hr.kp)
theorem eG {vv rv sl:Value} {k:Wk} {ns:List Int} {R:Ending→World→Prop} (hS:St w0 X V L w) (hk:iJ V vv rv k) (hsl:pW V sl ns.length 1 fun j=>[.int .i64 (ns.getD j 0)]) (hlen:ns.length≤100) (hb:aS k ns=0)
  (h:∀ p V' w',(∀ j o,V j=some o→V' j=some o)→jh V' p k→St w0 X V' L w'→R (.returned (.tuple #[.pointer (some ⟨p,0,none⟩),.int .i64 0])) w'):Calls Tryd.prog 77 #[.agg #[vv,rv],sl] w R :=
 (EF V vv rv k hk sl ns hsl hlen w hS.view).mono fun e w' ⟨c,he,hr⟩=>by
  subst he
  obtain ⟨p,rfl,hin,hcel,_⟩:=hr.good hb
  rw [hb]
  exact h p _ w' (rD hS.view) hcel (hS.call hr.kp hin Ku)
theorem zG {vv rv sl:Value} {k:Wk} {ns:List Int} {R:Ending→World→Prop} (hS:St w0 X V L w) (hk:iJ V vv rv k) (hsl:pW V sl ns.length 1 fun j=>[.int .i64 (ns.getD j 0)]) (hlen:ns.length≤100) (hb:aS k ns=0)
  (h:∀ p V' w' D,(∀ j o,V j=some o→V' j=some o)→jh V' p k→Closed V' D→p∈D→St w0 X V' L w'→R (.returned (.tuple #[.pointer (some ⟨p,0,none⟩),.int .i64 0])) w'):Calls Tryd.prog 77 #[.agg #[vv,rv],sl] w R :=
 (EF V vv rv k hk sl ns hsl hlen w hS.view).mono fun e w' ⟨c,he,hr⟩=>by
  subst he
  obtain ⟨p,rfl,hin,hcel,D,hD,hpD⟩:=hr.good hb
  rw [hb]
  exact h p _ w' D (rD hS.view) hcel hD hpD (hS.call hr.kp hin Ku)
theorem pG {V:View} {get:Nat→List Value}:pW V (.slice none 0 0) 0 1 get:=⟨⟨none,0,rfl,by omega,by omega,fun h=>absurd h (by omega)⟩⟩
theorem dP {k:Wk} {ns:List Int} (h:aS k ns=0):k.Ok:=by
 unfold aS at h
 split at h
 ·rename_i h1;exact absurd h h1
 ·rename_i h1;exact AU (by simpa using h1)
end Go.Proofs.YtjjmefieegcddaaDoor
namespace Go.Mm
open Go
variable {P:Program}
def uZ (d:Nat):ResultVar→Bool
 | .tmp t=>t != d
 | .cell t _=>t != d
theorem mQ {tmps:Array Value} {d:Nat} {v:Value} {r:ResultVar} (h:uZ d r=true):iI (tmps.setIfInBounds d v) r=iI tmps r:=by
 cases r with
 | tmp t =>
  have h':¬ d=t:=fun e=>by subst e;simp [uZ] at h
  simp [iI,Array.getElem?_setIfInBounds,h']
 | cell t ty =>
  have h':¬ d=t:=fun e=>by subst e;simp [uZ] at h
  simp [iI,Array.getElem?_setIfInBounds,h']
def CS (d:Nat) (rs:Array ResultVar):Bool:=decide (rs.toList.length≤3) && rs.toList.all (uZ d)
theorem KI {fn:Func} {d:Nat} (h:CS d fn.results=true) (tmps:Array Value) (v:Value) (w:World):(results fn (tmps.setIfInBounds d v)).run P w=(results fn tmps).run P w:=by
 rw [mO,mO]
 unfold CS at h
 generalize fn.results=rs at h ⊢
 obtain ⟨l,rfl⟩:∃ l:List ResultVar,rs=l.toArray:=⟨rs.toList,by simp⟩
 simp only [Bool.and_eq_true,decide_eq_true_eq] at h
 obtain ⟨h1,h3⟩:=h
 have h2:∀ r∈l,uZ d r=true:=List.all_eq_true.1 h3
 clear h3
 match l,h1,h2 with
 | [],_,_=>simp
 | [a],_,h2=>simp [mQ (h2 a (by simp))]
 | [a,b],_,h2=>simp [mQ (h2 a (by simp)),mQ (h2 b (by simp))]
 | [a,b,c],_,h2=>simp [mQ (h2 a (by simp)),mQ (h2 b (by simp)),mQ (h2 c (by simp))]
 | _ :: _ :: _ :: _ :: _,h1,_=>simp at h1
theorem yx {fn:Func} {d:Nat} {R:Ending→World→Prop} (h:CS d fn.results=true) {tmps:Array Value} {v:Value}:∀ (ds:List Deferred) (u:FrameMode) (w:World),
  Leaves P fn (tmps.setIfInBounds d v) R ds u w→Leaves P fn tmps R ds u w
 | [],.returning,w,hl=>by
  obtain ⟨x,h1,h2⟩:=hl
  rw [KI (P:=P) h] at h1
  exact ⟨x,h1,h2⟩
 | [],.panicking _,_,hl=>hl
 | [],.run,_,hl=>hl
 | e :: ds,u,w,⟨h1,fv,cap,f,args,h2,h3,h4⟩=>by
  refine ⟨h1,fv,cap,f,args,h2,h3,h4.mono ?_⟩
  intro e u' w' hk
  cases e with
  | returned _=>exact yx h ds _ _ hk
  | panicked _=>exact yx h ds _ _ hk
  | outgrown=>exact hk
theorem zX {fn:Func} {d:Nat} {R:Ending→World→Prop} {c:List PanicEntry} {a:Act} {v:Value} {w:World} (h:CS d fn.results=true) (hl:bodyPostD P fn R (.panic c) (a.put (some d) v) w):bodyPostD P fn R (.panic c) a w :=
 yx h a.defers (.panicking c) w hl
section
variable {l:List Oper} {md:Region.Mode} {o:Oper} {a:Act} {Q:Exit→Act→World→Prop} {S:World→Prop} {fuel:Nat} {listed:Array Bool} {w:World}
theorem C9 (i:Nat) (hr:Region.ready md l.toArray listed=[i]) (hi₀:l[i]? = some o) (hw:Region.wanted o (yielded l.toArray a.tmps)=true) (hS:S w)
  (h:∃ v,(∀ w,(execOp a.eval o).run P w=.ok (.value v) w)∧∀ a' l',a.put o.dst v=a'→listed.setIfInBounds i true=l'→wpAnyH P md l.toArray Q S fuel l' a' w):wpAnyH P md l.toArray Q S (fuel+1) listed a w:=by
 obtain ⟨v,hv,h⟩:=h
 exact mG hr (oO (jV hi₀) hw (hv w) ⟨hS,h _ _ rfl rfl⟩)
end
end Go.Mm
namespace Go.Proofs.YtjjmefieegcddaaDoor
open Go.RowKit Go.Wg Go.Mm
variable {w0 w:World} {X:List Nat} {V:View} {L:List dF}
theorem pin {b:Nat} {t:TypeId} {cs:List Value} (h:St w0 X V (.blk b t cs :: L) w):∃ V',(∀ j o,V j=some o→V' j=some o)∧(∀ i v,cs[i]? = some v→V'.Cell b i v)∧St w0 X V' L w:=by
 refine ⟨_,fun j o hj=>?_,fun i v hi=>⟨cs.toArray,t,(0,0),by simp,by simpa using hi⟩,h.freeze⟩
 have hn:=h.off _ (List.mem_cons_self ..) b rfl
 have:j≠b:=by rintro rfl;rw [hn] at hj;cases hj
 simp [this,hj]
theorem pW.mono {V V':View} {v:Value} {n sz:Nat} {get:Nat→List Value} (h:pW V v n sz get) (hV:∀ i o,V i=some o→V' i=some o):pW V' v n sz get:=by
 obtain ⟨a,cap,h1,h2,h3,h4⟩:=h
 exact ⟨a,cap,h1,h2,h3,fun hn=>by obtain ⟨g,off,h5,h6⟩:=h4 hn;exact ⟨g,off,h5,fun i hi=>(h6 i hi).mono hV⟩⟩
theorem jf {V V':View} {vv rv:Value} {k:Wk} (h:iJ V vv rv k) (hV:∀ i o,V i=some o→V' i=some o):iJ V' vv rv k:=⟨pW.mono h.ves hV,pW.mono h.rdg hV,h.small,by obtain ⟨D0,h1,h2,h3⟩:=h.cl;exact ⟨D0,kM h1 hV,h2,h3⟩⟩
theorem GZ {V:View} {b:Nat} {v:Int} (h:∀ i u,[Value.int .i64 v][i]? = some u→V.Cell b i u):pW V (.slice (some ⟨b,0,none⟩) 1 1) [v].length 1 fun j=>[.int .i64 ([v].getD j 0)]:=by
 refine ⟨⟨some ⟨b,0,none⟩,1,rfl,by simp,by decide,fun _=>⟨b,0,rfl,fun i hi=>?_⟩⟩⟩
 obtain rfl:i=0:=by simpa using hi
 intro j u hj
 cases j with
 | zero=>simp at hj;subst hj;exact h 0 _ rfl
 | succ j=>simp at hj
theorem EZ {k:Wk} {v:Int} (h:aS k [v]=0):0≤v∧v < k.n:=by
 unfold aS at h
 split at h
 ·rename_i h1;exact absurd h h1
 ·split at h
  ·rename_i h2
   simp only [List.all_cons,List.all_nil,Bool.and_true] at h2
   have:=iV h2
   omega
  ·cases h
theorem iF {fn:Func} {tmps:Array Value} {R:Ending→World→Prop} {q:Addr} (hS:St w0 X V L w) (h:∀ w',St w0 X V L w'→∃ v,(results fn tmps).run Tryd.prog w'=.ok v w'∧R (.returned v) w') :
  bodyPostD Tryd.prog fn R .ret ⟨tmps,[{ target:=.fn (.func 82) #[],args:=#[.pointer (some q)] }]⟩ w:=by
 show Leaves Tryd.prog fn tmps R [{ target:=.fn (.func 82) #[],args:=#[.pointer (some q)] }] .returning w
 refine leaves_cons (f:=82) (args:=#[.pointer (some q)]) (by simp) (by simp [go_sem]) ?_
 refine (MC q w).mono ?_
 rintro e u' w' ⟨rfl,rfl,hk⟩
 exact h w' (hS.kp hk)
theorem vJ {fn:Func} {tmps:Array Value} {R:Ending→World→Prop} {b j:Nat} {x:Value} {i:Int} (hS:St w0 X V L w) [hj:Hs L b j 38 [x]]
  (h:∀ w',St w0 X V (L.set j (.blk b 38 [.int .i64 9])) w'→∃ v,(results fn tmps).run Tryd.prog w'=.ok v w'∧R (.returned v) w') :
  bodyPostD Tryd.prog fn R (.panic [{ v:=.iface 152 (.agg #[.int .i64 i]),recovered:=false }]) ⟨tmps,[{ target:=.fn (.func 82) #[],args:=#[.pointer (some ⟨b,0,none⟩)] }]⟩ w:=by
 show Leaves Tryd.prog fn tmps R [{ target:=.fn (.func 82) #[],args:=#[.pointer (some ⟨b,0,none⟩)] }] (.panicking [{ v:=.iface 152 (.agg #[.int .i64 i]),recovered:=false }]) w
 refine leaves_cons (f:=82) (args:=#[.pointer (some ⟨b,0,none⟩)]) (by simp) (by simp [go_sem]) ?_
 refine (Pv b x i [] w (hS.at hj.ok)).mono ?_
 rintro e u' w' ⟨rfl,rfl,hk,hb⟩
 exact h w' (hS.mut hj.ok hk hb rfl)
theorem nH {f:FuncId} {args:Array Value} {R:Ending→World→Prop} {c:List PanicEntry} (hS:St w0 X V L w) (hc:Calls Tryd.prog f args w fun r w'=>r=.panicked c∧Kp w w') (h:∀ w',St w0 X V L w'→R (.panicked c) w'):Calls Tryd.prog f args w R :=
 hc.mono fun e w' ⟨he,hk⟩=>by subst he;exact h w' (hS.kp hk)
def iw (k:Wk) (v:Int):(Int × Int) × Int :=
 if aS k [v]=0 then (if (Go.Wg.settle k (aN k aC)).isNone then (aO k (aN k aC) v.toNat,0) else ((0,0),9)) else ((0,0),aS k [v])
set_option maxRecDepth 20000 in
theorem RY (vv rv:Value) (k:Wk) (hk:iJ V vv rv k) (hG:GV V) (hV:V.In w) (v:Int) :
  Calls Tryd.prog 54 #[.agg #[vv,rv],.int .i64 v] w fun r w'=>r=.returned (.tuple #[aJ (iw k v).1,.int .i64 (iw k v).2])∧Kp w w':=by
 have hk0:=hk
 obtain ⟨va,vcap,rfl,hvc,hvm,hve⟩:=hk0.ves.is
 obtain ⟨ra,rcap,rfl,hrc,hrm,hre⟩:=hk0.rdg.is
 have hS:=St.start w V hV
 clear hk0 hve hre
 by_cases hb:aS k [v]=0
 ·have hok:=dP hb
  obtain ⟨hv0,hv1⟩:=EZ hb
  obtain ⟨vn,rfl⟩:∃ vn:Nat,v=(vn:Int):=⟨v.toNat,by omega⟩
  have hv6:vn < 6:=by have:=hok.le;omega
  cases hst:Go.Wg.settle k (aN k aC) with
  | none =>
   have hcan:can k (aN k aC)=true:=by unfold can;rw [hst];rfl
   have hC:iw k vn=(aO k (aN k aC) vn,0):=by unfold iw;rw [if_pos hb,hst];rfl
   rw [hC]
   simp only
   replace hC:=aj hC;replace hst:=aj hst;replace hcan:=aj hcan;replace hb:=aj hb
   go_enter_defers Tryd.func54,Tryd.ntmps54
   go_wp2_with (first | (first | ((first | ((with_reducible refine gL ?_);first | refine gY hS rfl rfl rfl ?_ | refine lW hS rfl rfl rfl ?_) | ((with_reducible refine gS ?_);first | refine pX hS rfl rfl rfl ?_ | refine bQ hS rfl rfl rfl ?_));refine ⟨_,zd,?_⟩;clear hS;(try clear w');intro a' hp;(try simp only [fr] at hp);subst hp;intro w' hS;(try simp only [sE] at hS)) | ((with_reducible refine gA ?_);refine aT 5 rfl hS rfl rfl ?_;clear hS;(try clear w');intro b5;intro a' hp;(try simp only [fr] at hp);subst hp;intro w' hS) | ((first | ((with_reducible refine gA ?_);refine dM hS rfl rfl ?_) | ((with_reducible refine gB ?_);refine jQ hS rfl rfl rfl ?_;refine ⟨_,za,?_⟩));clear hS;(try clear w');intro _;intro a' hp;(try simp only [fr] at hp);subst hp;intro w' hS)) | (((with_reducible refine uP ?_);refine rE hS rfl rfl ?_;refine ⟨_,zq,zd,?_⟩;clear hS;(try clear w');intro _;intro a' hp;(try simp only [fr] at hp);subst hp;intro w' hS);obtain ⟨V1,hV1,hcell,hS'⟩:=pin hS;clear hS;have hS:=hS';clear hS';have hsl:=GZ hcell;have hk1:=jf hk hV1;clear hcell) |
    (go_at_call 77;refine eG hS hk1 hsl (by simp) hb.out ?_;clear hS;(try clear w');intro p V' w' hVV hcel hS;have hG':GV V':=(hG.mono hV1).mono hVV) |
    (go_at_call 83;refine aH hS ⟨_,y8 V' p k hcel hok hcan.out _ (St.view hS),?_⟩;clear hS;(try clear w');intro w' hS) |
    (go_at_call 99;refine aH hS ⟨_,Af V' p k hcel hG' _ (gG _ _) vn hv6 _ (St.view hS),?_⟩;clear hS;(try clear w');intro w' hS))
   (refine iF hS ?_;clear hS;(try clear w');intro w' hS;(try simp only [sE] at hS);refine ⟨_,by exact dA (r1:=.cell 4 27) (r2:=.cell 5 38) (by kernel_rfl) (by exact rX hS rfl zd) (by exact zA hS rfl zd),?_⟩)
   exact ⟨rfl,hS.bM⟩
  | some i =>
   have hC:iw k vn=((0,0),9):=by unfold iw;rw [if_pos hb,hst];rfl
   rw [hC]
   simp only
   replace hC:=aj hC;replace hst:=aj hst;replace hb:=aj hb
   go_enter_defers Tryd.func54,Tryd.ntmps54
   go_wp2_with (first | (first | ((first | ((with_reducible refine gL ?_);first | refine gY hS rfl rfl rfl ?_ | refine lW hS rfl rfl rfl ?_) | ((with_reducible refine gS ?_);refine pX hS rfl rfl rfl ?_));refine ⟨_,zd,?_⟩;clear hS;(try clear w');intro a' hp;(try simp only [fr] at hp);subst hp;intro w' hS;(try simp only [sE] at hS)) | ((with_reducible refine gA ?_);refine aT 5 rfl hS rfl rfl ?_;clear hS;(try clear w');intro b5;intro a' hp;(try simp only [fr] at hp);subst hp;intro w' hS) | ((first | ((with_reducible refine gA ?_);refine dM hS rfl rfl ?_) | ((with_reducible refine gB ?_);refine jQ hS rfl rfl rfl ?_;refine ⟨_,za,?_⟩));clear hS;(try clear w');intro _;intro a' hp;(try simp only [fr] at hp);subst hp;intro w' hS)) | (((with_reducible refine uP ?_);refine rE hS rfl rfl ?_;refine ⟨_,zq,zd,?_⟩;clear hS;(try clear w');intro _;intro a' hp;(try simp only [fr] at hp);subst hp;intro w' hS);obtain ⟨V1,hV1,hcell,hS'⟩:=pin hS;clear hS;have hS:=hS';clear hS';have hsl:=GZ hcell;have hk1:=jf hk hV1;clear hcell) |
    (go_at_call 77;refine eG hS hk1 hsl (by simp) hb.out ?_;clear hS;(try clear w');intro p V' w' hVV hcel hS;have hG':GV V':=(hG.mono hV1).mono hVV) |
    (go_at_call 83;refine nH hS (zN V' p k hcel hok i hst.out _ (St.view hS)) ?_;clear hS;(try clear w');intro w' hS))
   (refine vJ hS ?_;clear hS;(try clear w');intro w' hS;(try simp only [sE] at hS);refine ⟨_,by exact dA (r1:=.cell 4 27) (r2:=.cell 5 38) (by kernel_rfl) (by exact rX hS rfl zd) (by exact zA hS rfl zd),?_⟩)
   exact ⟨rfl,hS.bM⟩
 ·have hC:iw k v=((0,0),aS k [v]):=by unfold iw;rw [if_neg hb]
  rw [hC]
  simp only
  have hb':(aS k [v] == 0)=false:=by rw [beq_eq_false_iff_ne];exact hb
  have hE:Go.RowKit.Hid (∃ e,aS k [v]=e):=aj ⟨_,rfl⟩
  obtain ⟨e,he⟩:=hE.out
  rw [he] at hb' ⊢
  replace hC:=aj hC;replace he:=aj he
  go_enter_defers Tryd.func54,Tryd.ntmps54
  go_wp2_with (first | (first | ((first | ((with_reducible refine gL ?_);first | refine gY hS rfl rfl rfl ?_ | refine lW hS rfl rfl rfl ?_) | ((with_reducible refine gS ?_);refine pX hS rfl rfl rfl ?_));refine ⟨_,zd,?_⟩;clear hS;(try clear w');intro a' hp;(try simp only [fr] at hp);subst hp;intro w' hS;(try simp only [sE] at hS)) | ((with_reducible refine gA ?_);refine aT 5 rfl hS rfl rfl ?_;clear hS;(try clear w');intro b5;intro a' hp;(try simp only [fr] at hp);subst hp;intro w' hS) | ((first | ((with_reducible refine gA ?_);refine dM hS rfl rfl ?_) | ((with_reducible refine gB ?_);refine jQ hS rfl rfl rfl ?_;refine ⟨_,za,?_⟩));clear hS;(try clear w');intro _;intro a' hp;(try simp only [fr] at hp);subst hp;intro w' hS)) | (((with_reducible refine uP ?_);refine rE hS rfl rfl ?_;refine ⟨_,zq,zd,?_⟩;clear hS;(try clear w');intro _;intro a' hp;(try simp only [fr] at hp);subst hp;intro w' hS);obtain ⟨V1,hV1,hcell,hS'⟩:=pin hS;clear hS;have hS:=hS';clear hS';have hsl:=GZ hcell;have hk1:=jf hk hV1;clear hcell) |
   (go_at_call 77;refine fF hS hk1 hsl (by simp) hb ?_;rw [he.out];clear hS;(try clear w');intro w' hS))
  (refine bF (S:=(St w [] V1 [.blk b5 38 [.int .i64 e]])) [false,false,false,false] rfl (by kernel_rfl) ?_;replace hS:=St.eY hS;(iterate 2 ((first | refine hxp 0 rfl ?_ | refine hxa 1 rfl ?_);intro a' l' hp hl;(try simp only [fr] at hp);(try simp only [sB] at hl);subst hp;subst hl));((refine wQ 2 (by kernel_rfl) rfl hS rfl  rfl rfl ?_;refine ⟨_,zd,?_⟩);clear hS;(try clear w');intro a' l' hp hl;(try simp only [fr] at hp);(try simp only [sB] at hl);subst hp;subst hl;intro w' hS;(try simp only [sE] at hS);refine ⟨(St.aG hS),?_⟩);((refine jl 3 (by kernel_rfl) rfl hS rfl  rfl rfl ?_;refine ⟨_,zd,?_⟩);clear hS;(try clear w');intro a' l' hp hl;(try simp only [fr] at hp);(try simp only [sB] at hl);subst hp;subst hl;intro w' hS;(try simp only [sE] at hS);refine ⟨(St.aG hS),?_⟩);refine wpAnyH_done (by kernel_rfl) ?_ _)
  go_wp2_with (fail)
  (refine iF hS ?_;clear hS;(try clear w');intro w' hS;(try simp only [sE] at hS);refine ⟨_,by exact dA (r1:=.cell 4 27) (r2:=.cell 5 38) (by kernel_rfl) (by exact rX hS rfl zd) (by exact zA hS rfl zd),?_⟩)
  exact ⟨by rfl,(hS.bM)⟩
end Go.Proofs.YtjjmefieegcddaaDoor
namespace Go.Proofs.YtjjmefieegcddaaDoor
open Go.RowKit Go.Wg Go.Mm
variable {w:World} {V:View}
def su (k:Wk) (s:SS) (i:Nat):Option Nat:=(List.range 41).find? fun n=>can k (s.weighed i n)
def dQ (k:Wk):Nat→SS × List Int
 | 0=>(aN k aC,[])
 | i+1=>match su k (dQ k i).1 i with
  | some n=>((dQ k i).1.weighed i n,(dQ k i).2 ++ [(n:Int)])
  | none=>dQ k i
def qN (k:Wk):List Int × Int :=
 if aS k []=0 then (if (Go.Wg.settle k (aN k aC)).isNone then ((dQ k k.n).2,0) else ([],9)) else ([],aS k [])
theorem IJ {k:Wk} {s:SS} {i m:Nat} (hm:m < 41) (h0:∀ j,j < m→can k (s.weighed i j)=false) (h1:can k (s.weighed i m)=true):su k s i=some m:=by
 unfold su
 rw [List.find?_range_eq_some]
 exact ⟨h1,List.mem_range.2 hm,fun j hj=>by simp [h0 j hj]⟩
theorem Gh {k:Wk} {s:SS} {i:Nat} (h0:∀ j:Nat,j < 41→can k (s.weighed i j)=false):su k s i=none:=by
 unfold su
 rw [List.find?_eq_none]
 intro j hj
 rw [h0 j (List.mem_range.1 hj)];decide
theorem Py (k:Wk) (i:Nat):(dQ k i).1.WF:=by
 induction i with
 | zero=>exact gG _ _
 | succ i ih =>
  rw [dQ]
  split
  ·exact ih.weighed _ _
  ·exact ih
theorem Lu (k:Wk) (i:Nat):(dQ k i).2.length≤i:=by
 induction i with
 | zero=>simp [dQ]
 | succ i ih =>
  rw [dQ]
  split
  ·simp;omega
  ·omega
def aV (l:List Int):List Value:=l.map fun n=>.int .i64 n
theorem iD (l:List Int):(aV l).length=l.length:=by simp [aV]
def tY (w w':World) (v:Value) (l:List Int):Prop:=w'.ownsRow 0 3 1 v l.length (aV l)∧∀ b,v.ownBlock=some b→w.heap.size≤b
theorem vK {v:Value} {l:List Int} {V':View} {L:List dF} {w':World} (hS:St w [] V' L w') {j:Nat} (hj:L[j]? = some (.row v 3 1 l.length (aV l))):tY w w' v l :=
 ⟨hS.wu hj,fun b hb=>by
  rcases hS.new _ (List.mem_of_getElem? hj) b hb with h | h
  ·exact h
  ·cases h⟩
set_option maxRecDepth 20000 in
theorem Vh (vv rv:Value) (k:Wk) (hk:iJ V vv rv k) (hG:GV V) (hV:V.In w) :
  Calls Tryd.prog 27 #[.agg #[vv,rv]] w fun r w'=>∃ v,r=.returned (.tuple #[v,.int .i64 (qN k).2])∧Kp w w'∧tY w w' v (qN k).1:=by
 have hk0:=hk
 obtain ⟨va,vcap,rfl,hvc,hvm,hve⟩:=hk0.ves.is
 obtain ⟨ra,rcap,rfl,hrc,hrm,hre⟩:=hk0.rdg.is
 have hS:=(St.start w V hV).nilRow 3 1
 clear hk0 hve hre
 by_cases hb:aS k []=0
 ·have hok:=dP hb
  have hpos:=hok.pos
  have hn6:=hok.le
  cases hst:Go.Wg.settle k (aN k aC) with
  | none =>
   have hcan:can k (aN k aC)=true:=by unfold can;rw [hst];rfl
   have hC:qN k=((dQ k k.n).2,0):=by unfold qN;rw [if_pos hb,hst];rfl
   rw [hC]
   simp only
   have HL0:(dJ (aN k aC)).length=18:=dG (gG _ _)
   have HT0:(dQ k 0).1=aN k aC:=rfl
   have HT1:(dQ k 0).2=[]:=rfl
   replace hC:=aj hC;replace hst:=aj hst;replace hcan:=aj hcan;replace hb:=aj hb;replace HT0:=aj HT0;replace HT1:=aj HT1
   go_enter_defers Tryd.func27,Tryd.ntmps27
   go_wp2_with (first | (first | ((first | ((with_reducible refine gL ?_);first | refine gY hS rfl rfl rfl ?_ | refine lW hS rfl rfl rfl ?_ | refine nC hS rfl rfl rfl ?_) | ((with_reducible refine gS ?_);first | refine pX hS rfl rfl rfl ?_ | refine bQ hS rfl rfl rfl ?_));refine ⟨_,zd,?_⟩;clear hS;(try clear w');intro a' hp;(try simp only [fr] at hp);subst hp;intro w' hS;(try simp only [sE] at hS)) | ((with_reducible refine gA ?_);refine aT 3 rfl hS rfl rfl ?_;clear hS;(try clear w');intro b3;intro a' hp;(try simp only [fr] at hp);subst hp;intro w' hS) | ((with_reducible refine gA ?_);refine aT 5 rfl hS rfl rfl ?_;clear hS;(try clear w');intro b5;intro a' hp;(try simp only [fr] at hp);subst hp;intro w' hS) | (((with_reducible refine gB ?_);refine jQ hS rfl rfl rfl ?_;refine ⟨_,za,?_⟩);clear hS;(try clear w');intro _;intro a' hp;(try simp only [fr] at hp);subst hp;intro w' hS)) |
    (go_at_call 77;refine eG hS hk pG (by simp) hb.out ?_;clear hS;(try clear w');intro p V' w' hVV hcel hS;have hG':GV V':=hG.mono hVV;obtain ⟨ts,vv',rv',hC'⟩:=id hcel;obtain ⟨g,cap,hc2,hts⟩:=hC'.c2;clear hC' hts) |
    (go_at_call 83;refine aH hS ⟨_,y8 V' p k hcel hok hcan.out _ (St.view hS),?_⟩;clear hS;(try clear w');intro w' hS))
   go_loopw [2,23] (fun sv iv wr=>∃ i:Nat,i≤k.n∧iv=.int .i64 (i:Int)∧sv.oneCell'=true∧St w [] V' [.blk b5 100 (dJ (dQ k i).1),.blk b3 38 [.int .i64 0],.row sv 3 1 (dQ k i).2.length (aV (dQ k i).2)] wr) (fun _ iv _=>k.n - (intOf iv).toNat)
   case atStart=>exact ⟨0,by omega,rfl,rfl,by
    have h2:St w [] V' [.blk b5 100 (dJ (aN k aC)),.blk b3 38 [.int .i64 0],.row (.slice none 0 0) 3 1 0 []] w':=hS.aG
    exact h2⟩
   case round =>
    clear hS
    obtain ⟨i,hi,rfl,hone,hS⟩:=hrel
    by_cases hlt:i < k.n
    ·have h0:(0:Int)≤i:=by omega
     have h1:(i:Int) < k.n:=by omega
     have hi6:i < 6:=by omega
     have hs:=Py k i
     have hll:=Lu k i
     have HT:dQ k (i+1)=match su k (dQ k i).1 i with | some n=>((dQ k i).1.weighed i n,(dQ k i).2 ++ [(n:Int)]) | none=>((dQ k i).1,(dQ k i).2):=by
      rw [dQ]
     replace HT:=aj HT
     generalize (dQ k i).1=s at hS hs HT
     generalize (dQ k i).2=l at hS hll HT
     have hls:(dJ s).length=18:=dG hs
     have hil:=iD l
     go_wp2_with (fail)
     refine wp_scope_straight ?_
     go_wp2_with (fail)
     refine wp_label ?_
     go_wp2_with (fail)
     go_loopw [2,26] (fun sv' nv wr=>∃ m:Nat,m≤41∧sv'=u2∧nv=.int .i64 (m:Int)∧(∀ j:Nat,j < m→can k (s.weighed i j)=false)∧St w [] V' [.blk b5 100 (dJ s),.blk b3 38 [.int .i64 0],.row u2 3 1 l.length (aV l)] wr) (fun _ nv _=>41 - (intOf nv).toNat)
     case atStart=>exact ⟨0,by omega,rfl,rfl,fun j hj=>absurd hj (by omega),hS⟩
     case round =>
      clear hS
      obtain ⟨m,hm,rfl,rfl,hno,hS⟩:=hrel
      by_cases hm4:m < 41
      ·have hm0:(0:Int)≤m:=by omega
       have hm1:(m:Int) < 41:=by omega
       have hsw:=hs.weighed i m
       have hlw:(dJ (s.weighed i m)).length=18:=dG hsw
       generalize hcn:can k (s.weighed i m)=cn
       have hcon:∀ w',V'.In w'→Calls Tryd.prog 78 #[.pointer (some ⟨p,0,none⟩),.agg (dJ (s.weighed i m)).toArray] w' fun r w''=>r=.returned (.bool cn)∧Kp w' w'':=fun w' hV'=>by rw [← hcn];exact Dx V' p k hcel hG' _ hsw w' hV'
       replace hno:=aj hno
       cases cn
       ·replace hcn:=aj hcn
        go_wp2_with (first | (((with_reducible refine gL ?_);refine lW hS rfl rfl rfl ?_);refine ⟨_,zd,?_⟩;clear hS;(try clear w');intro a' hp;(try simp only [fr] at hp);subst hp;intro w' hS;(try simp only [sE] at hS)) | (go_at_call 84;refine aH hS ⟨_,sV s hs i hi6 m _,?_⟩;clear hS;(try clear w');intro w' hS) | (go_at_call 78;refine aH hS ⟨_,hcon _ (St.view hS),?_⟩;clear hS;(try clear w');intro w' hS))
        go_roundw
        case rel=>exact ⟨m+1,by omega,rfl,by go_num,fun j hj=>by
         by_cases hjm:j=m
         ·subst hjm;exact hcn.out
         ·exact hno.out j (by omega),hS⟩
        case measure=>simp only [intOf];omega
       ·have hfc:=IJ hm4 hno.out hcn
        replace hcn:=aj hcn
        replace hfc:=aj hfc
        go_wp2_with (first | ((first | ((with_reducible refine gL ?_);refine lW hS rfl rfl rfl ?_) | ((with_reducible refine gS ?_);refine bQ hS rfl rfl rfl ?_));refine ⟨_,zd,?_⟩;clear hS;(try clear w');intro a' hp;(try simp only [fr] at hp);subst hp;intro w' hS;(try simp only [sE] at hS)) | ((with_reducible refine uP ?_);refine rE hS rfl rfl ?_;refine ⟨_,zq,zd,?_⟩;clear hS;(try clear w');intro _;intro a' hp;(try simp only [fr] at hp);subst hp;intro w' hS) | ((with_reducible refine Q5 ?_);refine Ui rfl rfl ?_;refine ⟨_,_,_,_,by exact rfl,by exact rfl,?_⟩;refine eH hS zd ?_;clear hS;(try clear w');intro va w' hS;intro a' hp;(try simp only [fr] at hp);subst hp;(try simp only [sE] at hS);have hva:=dY hS va) | (go_at_call 84;refine aH hS ⟨_,sV s hs i hi6 m _,?_⟩;clear hS;(try clear w');intro w' hS) | (go_at_call 78;refine aH hS ⟨_,hcon _ (St.view hS),?_⟩;clear hS;(try clear w');intro w' hS))
        simp only [Exit.noGoto]
        go_wp2_with (fail)
        go_roundw
        case rel =>
         refine ⟨i+1,by omega,by go_num,hva,?_⟩
         rw [HT.out,hfc.out]
         have ei:aV (l ++ [(m:Int)])=aV l ++ [.int .i64 (m:Int)]:=by simp [aV]
         simp only [ei,List.length_append,List.length_cons,List.length_nil,Nat.zero_add]
         exact hS.aG
        case measure=>simp only [intOf];omega
      ·obtain rfl:m=41:=by omega
       have hfc:=Gh hno
       replace hno:=aj hno
       replace hfc:=aj hfc
       go_wp2_with (fail)
       simp only [Exit.noGoto]
       go_wp2_with (fail)
       go_roundw
       case rel =>
        refine ⟨i+1,by omega,by go_num,hone,?_⟩
        rw [HT.out,hfc.out]
        exact hS
       case measure=>simp only [intOf];omega
    ·obtain rfl:i=k.n:=by omega
     go_wp2_with (((with_reducible refine gS ?_);refine pX hS rfl rfl rfl ?_);refine ⟨_,zd,?_⟩;clear hS;(try clear w');intro a' hp;(try simp only [fr] at hp);subst hp;intro w' hS;(try simp only [sE] at hS))
     (refine iF hS ?_;clear hS;(try clear w');intro w' hS;(try simp only [sE] at hS);refine ⟨_,by exact dA (r1:=.tmp 2) (r2:=.cell 3 38) (by kernel_rfl) (by exact bD rfl) (by exact zA hS rfl zd),?_⟩)
     exact ⟨_,rfl,hS.bM,vK hS (j:=2) rfl⟩
  | some i =>
   have hC:qN k=([],9):=by unfold qN;rw [if_pos hb,hst];rfl
   rw [hC]
   simp only
   replace hC:=aj hC;replace hst:=aj hst;replace hb:=aj hb
   go_enter_defers Tryd.func27,Tryd.ntmps27
   go_wp2_with (first | (first | ((first | ((with_reducible refine gL ?_);first | refine gY hS rfl rfl rfl ?_ | refine lW hS rfl rfl rfl ?_) | ((with_reducible refine gS ?_);refine pX hS rfl rfl rfl ?_));refine ⟨_,zd,?_⟩;clear hS;(try clear w');intro a' hp;(try simp only [fr] at hp);subst hp;intro w' hS;(try simp only [sE] at hS)) | ((with_reducible refine gA ?_);refine aT 3 rfl hS rfl rfl ?_;clear hS;(try clear w');intro b3;intro a' hp;(try simp only [fr] at hp);subst hp;intro w' hS) | (((with_reducible refine gB ?_);refine jQ hS rfl rfl rfl ?_;refine ⟨_,za,?_⟩);clear hS;(try clear w');intro _;intro a' hp;(try simp only [fr] at hp);subst hp;intro w' hS)) |
    (go_at_call 77;refine eG hS hk pG (by simp) hb.out ?_;clear hS;(try clear w');intro p V' w' hVV hcel hS;have hG':GV V':=hG.mono hVV) |
    (go_at_call 83;refine nH hS (zN V' p k hcel hok i hst.out _ (St.view hS)) ?_;clear hS;(try clear w');intro w' hS))
   (refine vJ hS ?_;clear hS;(try clear w');intro w' hS;(try simp only [sE] at hS);refine ⟨_,by exact dA (r1:=.tmp 2) (r2:=.cell 3 38) (by kernel_rfl) (by exact bD rfl) (by exact zA hS rfl zd),?_⟩)
   exact ⟨_,rfl,hS.bM,vK hS (l:=[]) (j:=2) rfl⟩
 ·have hC:qN k=([],aS k []):=by unfold qN;rw [if_neg hb]
  rw [hC]
  simp only
  have hb':(aS k [] == 0)=false:=by rw [beq_eq_false_iff_ne];exact hb
  have hE:Go.RowKit.Hid (∃ e,aS k []=e):=aj ⟨_,rfl⟩
  obtain ⟨e,he⟩:=hE.out
  rw [he] at hb' ⊢
  replace hC:=aj hC;replace he:=aj he
  go_enter_defers Tryd.func27,Tryd.ntmps27
  go_wp2_with (first | (first | ((first | ((with_reducible refine gL ?_);first | refine gY hS rfl rfl rfl ?_ | refine lW hS rfl rfl rfl ?_) | ((with_reducible refine gS ?_);refine pX hS rfl rfl rfl ?_));refine ⟨_,zd,?_⟩;clear hS;(try clear w');intro a' hp;(try simp only [fr] at hp);subst hp;intro w' hS;(try simp only [sE] at hS)) | ((with_reducible refine gA ?_);refine aT 3 rfl hS rfl rfl ?_;clear hS;(try clear w');intro b3;intro a' hp;(try simp only [fr] at hp);subst hp;intro w' hS) | (((with_reducible refine gB ?_);refine jQ hS rfl rfl rfl ?_;refine ⟨_,za,?_⟩);clear hS;(try clear w');intro _;intro a' hp;(try simp only [fr] at hp);subst hp;intro w' hS)) |
   (go_at_call 77;refine fF hS hk pG (by simp) hb ?_;rw [he.out];clear hS;(try clear w');intro w' hS))
  (refine bF (S:=(St w [] V [.blk b3 38 [.int .i64 e]])) [false,false,false] rfl (by kernel_rfl) ?_;replace hS:=St.eY hS;(refine hxa 0 rfl ?_;intro a' l' hp hl;(try simp only [fr] at hp);(try simp only [sB] at hl);subst hp;subst hl);(refine C9 1 (by kernel_rfl) rfl rfl (St.aG hS) ?_;refine ⟨_,zp,?_⟩;intro a' l' hp hl;(try simp only [fr] at hp);(try simp only [sB] at hl);subst hp;subst hl);((refine jl 2 (by kernel_rfl) rfl hS rfl  rfl rfl ?_;refine ⟨_,zd,?_⟩);clear hS;(try clear w');intro a' l' hp hl;(try simp only [fr] at hp);(try simp only [sB] at hl);subst hp;subst hl;intro w' hS;(try simp only [sE] at hS);refine ⟨(St.aG hS),?_⟩);refine wpAnyH_done (by kernel_rfl) ?_ _)
  go_wp2_with (fail)
  (refine iF hS ?_;clear hS;(try clear w');intro w' hS;(try simp only [sE] at hS);refine ⟨_,by exact dA (r1:=.tmp 2) (r2:=.cell 3 38) (by kernel_rfl) (by exact bD rfl) (by exact zA hS rfl zd),?_⟩)
  exact ⟨_,rfl,hS.bM,vK hS (l:=[]) (j:=2) rfl⟩
end Go.Proofs.YtjjmefieegcddaaDoor
namespace Go.Proofs.YtjjmefieegcddaaDoor
open Go.RowKit Go.Wg Go.Mm
variable {w0 w:World} {X:List Nat} {V:View} {L:List dF}
end Go.Proofs.YtjjmefieegcddaaDoor
namespace Go.Proofs.YtjjmefieegcddaaDoor
open Go.RowKit Go.Wg Go.Mm
variable {w:World} {V:View}
def qx (k:Wk) (v:Int):Int × Int :=
 if aS k [v]=0 then (match zn k v.toNat with | some n=>((n:Int),0) | none=>(0,11)) else (0,aS k [v])
set_option maxRecDepth 20000 in
theorem RS (vv rv:Value) (k:Wk) (hk:iJ V vv rv k) (hG:GV V) (hV:V.In w) (v:Int) :
  Calls Tryd.prog 51 #[.agg #[vv,rv],.int .i64 v] w fun r w'=>r=.returned (.tuple #[.int .i64 (qx k v).1,.int .i64 (qx k v).2])∧Kp w w':=by
 have hk0:=hk
 obtain ⟨va,vcap,rfl,hvc,hvm,hve⟩:=hk0.ves.is
 obtain ⟨ra,rcap,rfl,hrc,hrm,hre⟩:=hk0.rdg.is
 have hS:=St.start w V hV
 clear hk0 hve hre
 by_cases hb:aS k [v]=0
 ·have hok:=dP hb
  obtain ⟨hv0,hv1⟩:=EZ hb
  obtain ⟨vn,rfl⟩:∃ vn:Nat,v=(vn:Int):=⟨v.toNat,by omega⟩
  have hv6:vn < 6:=by have:=hok.le;omega
  have hhi:=Jy k hok aC vn
  have hlo0:0≤((aN k aC).aP vn).2:=by
   have h1:=rW k hok aC vn
   rw [if_pos (by omega:vn < k.n)] at h1
   rw [h1]
   exact (hok.ves vn (by omega)).2.2.2.2.2.2.1
  have hcon:=fun V' p hcel hG' w' hV'=>Ti V' p k hcel hok hG' vn hv6 hlo0 (Int.le_trans hhi (by decide)) w' hV'
  have hC:qx k vn=(match zn k vn with | some n=>((n:Int),0) | none=>(0,11)):=by unfold qx;rw [if_pos hb];rfl
  clear hhi hlo0
  cases hst:zn k vn with
  | none =>
   rw [hst] at hC hcon
   rw [hC]
   simp only
   unfold IQ at hcon
   replace hC:=aj hC;replace hst:=aj hst;replace hb:=aj hb
   go_enter Tryd.func51,Tryd.ntmps51
   go_wp2_with (first | (first | (((with_reducible refine gL ?_);refine lW hS rfl rfl rfl ?_);refine ⟨_,zd,?_⟩;clear hS;(try clear w');intro a' hp;(try simp only [fr] at hp);subst hp;intro w' hS;(try simp only [sE] at hS)) | (((with_reducible refine gB ?_);refine jQ hS rfl rfl rfl ?_;refine ⟨_,za,?_⟩);clear hS;(try clear w');intro _;intro a' hp;(try simp only [fr] at hp);subst hp;intro w' hS)) | (((with_reducible refine uP ?_);refine rE hS rfl rfl ?_;refine ⟨_,zq,zd,?_⟩;clear hS;(try clear w');intro _;intro a' hp;(try simp only [fr] at hp);subst hp;intro w' hS);obtain ⟨V1,hV1,hcell,hS'⟩:=pin hS;clear hS;have hS:=hS';clear hS';have hsl:=GZ hcell;have hk1:=jf hk hV1;clear hcell) |
    (go_at_call 77;refine eG hS hk1 hsl (by simp) hb.out ?_;clear hS;(try clear w');intro p V' w' hVV hcel hS;have hG':GV V':=(hG.mono hV1).mono hVV) |
    (go_at_call 101;refine aH hS ⟨_,hcon V' p hcel hG' _ (St.view hS),?_⟩;clear hS;(try clear w');intro w' hS))
   ((try simp only [Exit.inBlock,Exit.then]);(try refine aB ?_);refine bK ⟨_,by exact dA (r1:=.tmp 4) (r2:=.tmp 5) (by kernel_rfl) (by exact bD rfl) (by exact bD rfl),?_⟩ rfl)
   exact ⟨rfl,hS.bM⟩
  | some n =>
   rw [hst] at hC hcon
   rw [hC]
   simp only
   unfold IQ at hcon
   replace hC:=aj hC;replace hst:=aj hst;replace hb:=aj hb
   go_enter Tryd.func51,Tryd.ntmps51
   go_wp2_with (first | (first | (((with_reducible refine gL ?_);refine lW hS rfl rfl rfl ?_);refine ⟨_,zd,?_⟩;clear hS;(try clear w');intro a' hp;(try simp only [fr] at hp);subst hp;intro w' hS;(try simp only [sE] at hS)) | (((with_reducible refine gB ?_);refine jQ hS rfl rfl rfl ?_;refine ⟨_,za,?_⟩);clear hS;(try clear w');intro _;intro a' hp;(try simp only [fr] at hp);subst hp;intro w' hS)) | (((with_reducible refine uP ?_);refine rE hS rfl rfl ?_;refine ⟨_,zq,zd,?_⟩;clear hS;(try clear w');intro _;intro a' hp;(try simp only [fr] at hp);subst hp;intro w' hS);obtain ⟨V1,hV1,hcell,hS'⟩:=pin hS;clear hS;have hS:=hS';clear hS';have hsl:=GZ hcell;have hk1:=jf hk hV1;clear hcell) |
    (go_at_call 77;refine eG hS hk1 hsl (by simp) hb.out ?_;clear hS;(try clear w');intro p V' w' hVV hcel hS;have hG':GV V':=(hG.mono hV1).mono hVV) |
    (go_at_call 101;refine aH hS ⟨_,hcon V' p hcel hG' _ (St.view hS),?_⟩;clear hS;(try clear w');intro w' hS))
   ((try simp only [Exit.inBlock,Exit.then]);(try refine aB ?_);refine bK ⟨_,by exact dA (r1:=.tmp 4) (r2:=.tmp 5) (by kernel_rfl) (by exact bD rfl) (by exact bD rfl),?_⟩ rfl)
   exact ⟨rfl,hS.bM⟩
 ·have hC:qx k v=(0,aS k [v]):=by unfold qx;rw [if_neg hb]
  rw [hC]
  simp only
  have hb':(aS k [v] == 0)=false:=by rw [beq_eq_false_iff_ne];exact hb
  have hE:Go.RowKit.Hid (∃ e,aS k [v]=e):=aj ⟨_,rfl⟩
  obtain ⟨e,he⟩:=hE.out
  rw [he] at hb' ⊢
  replace hC:=aj hC;replace he:=aj he
  go_enter Tryd.func51,Tryd.ntmps51
  go_wp2_with (first | (first | (((with_reducible refine gL ?_);refine lW hS rfl rfl rfl ?_);refine ⟨_,zd,?_⟩;clear hS;(try clear w');intro a' hp;(try simp only [fr] at hp);subst hp;intro w' hS;(try simp only [sE] at hS)) | (((with_reducible refine gB ?_);refine jQ hS rfl rfl rfl ?_;refine ⟨_,za,?_⟩);clear hS;(try clear w');intro _;intro a' hp;(try simp only [fr] at hp);subst hp;intro w' hS)) | (((with_reducible refine uP ?_);refine rE hS rfl rfl ?_;refine ⟨_,zq,zd,?_⟩;clear hS;(try clear w');intro _;intro a' hp;(try simp only [fr] at hp);subst hp;intro w' hS);obtain ⟨V1,hV1,hcell,hS'⟩:=pin hS;clear hS;have hS:=hS';clear hS';have hsl:=GZ hcell;have hk1:=jf hk hV1;clear hcell) |
   (go_at_call 77;refine fF hS hk1 hsl (by simp) hb ?_;rw [he.out];clear hS;(try clear w');intro w' hS))
  ((try simp only [Exit.inBlock,Exit.then]);(try refine aB ?_);refine bK ⟨_,by exact dA (r1:=.tmp 4) (r2:=.tmp 5) (by kernel_rfl) (by exact bD rfl) (by exact bD rfl),?_⟩ rfl)
  exact ⟨rfl,hS.bM⟩
def fK (k:Wk):Nat→List Int
 | 0=>[]
 | i+1=>if (aO k (aN k aC) i).1=(aO k (aN k aC) i).2 then fK k i ++ [(i:Int)] else fK k i
def vk (k:Wk):List Int × Int :=
 if aS k []=0 then (if (Go.Wg.settle k (aN k aC)).isNone then (fK k k.n,0) else ([],9)) else ([],aS k [])
theorem EC (k:Wk) (i:Nat):(fK k i).length≤i:=by
 induction i with
 | zero=>simp [fK]
 | succ i ih =>
  rw [fK]
  split
  ·simp;omega
  ·omega
set_option maxRecDepth 20000 in
theorem X9 (vv rv:Value) (k:Wk) (hk:iJ V vv rv k) (hG:GV V) (hV:V.In w) :
  Calls Tryd.prog 53 #[.agg #[vv,rv]] w fun r w'=>∃ v,r=.returned (.tuple #[v,.int .i64 (vk k).2])∧Kp w w'∧tY w w' v (vk k).1:=by
 have hk0:=hk
 obtain ⟨va,vcap,rfl,hvc,hvm,hve⟩:=hk0.ves.is
 obtain ⟨ra,rcap,rfl,hrc,hrm,hre⟩:=hk0.rdg.is
 have hS:=(St.start w V hV).nilRow 3 1
 clear hk0 hve hre
 by_cases hb:aS k []=0
 ·have hok:=dP hb
  have hpos:=hok.pos
  have hn6:=hok.le
  cases hst:Go.Wg.settle k (aN k aC) with
  | none =>
   have hcan:can k (aN k aC)=true:=by unfold can;rw [hst];rfl
   have hC:vk k=(fK k k.n,0):=by unfold vk;rw [if_pos hb,hst];rfl
   rw [hC]
   simp only
   have hs:=gG k aC
   have hls:(dJ (aN k aC)).length=18:=dG hs
   have HT0:fK k 0=[]:=rfl
   replace hC:=aj hC;replace hst:=aj hst;replace hcan:=aj hcan;replace hb:=aj hb;replace HT0:=aj HT0
   go_enter_defers Tryd.func53,Tryd.ntmps53
   go_wp2_with (first | (first | ((first | ((with_reducible refine gL ?_);first | refine gY hS rfl rfl rfl ?_ | refine lW hS rfl rfl rfl ?_ | refine nC hS rfl rfl rfl ?_) | ((with_reducible refine gS ?_);first | refine pX hS rfl rfl rfl ?_ | refine bQ hS rfl rfl rfl ?_));refine ⟨_,zd,?_⟩;clear hS;(try clear w');intro a' hp;(try simp only [fr] at hp);subst hp;intro w' hS;(try simp only [sE] at hS)) | ((with_reducible refine gA ?_);refine aT 3 rfl hS rfl rfl ?_;clear hS;(try clear w');intro b3;intro a' hp;(try simp only [fr] at hp);subst hp;intro w' hS) | ((with_reducible refine gA ?_);refine aT 5 rfl hS rfl rfl ?_;clear hS;(try clear w');intro b5;intro a' hp;(try simp only [fr] at hp);subst hp;intro w' hS) | (((with_reducible refine gB ?_);refine jQ hS rfl rfl rfl ?_;refine ⟨_,za,?_⟩);clear hS;(try clear w');intro _;intro a' hp;(try simp only [fr] at hp);subst hp;intro w' hS)) |
    (go_at_call 77;refine eG hS hk pG (by simp) hb.out ?_;clear hS;(try clear w');intro p V' w' hVV hcel hS;have hG':GV V':=hG.mono hVV;obtain ⟨ts,vv',rv',hC'⟩:=id hcel;obtain ⟨g,cap,hc2,hts⟩:=hC'.c2;clear hC' hts) |
    (go_at_call 83;refine aH hS ⟨_,y8 V' p k hcel hok hcan.out _ (St.view hS),?_⟩;clear hS;(try clear w');intro w' hS))
   generalize hnow:aN k aC=s at hS hs hls
   replace hnow:=aj hnow
   go_loopw [2,23] (fun sv iv wr=>∃ i:Nat,i≤k.n∧iv=.int .i64 (i:Int)∧sv.oneCell'=true∧St w [] V' [.blk b5 100 (dJ s),.blk b3 38 [.int .i64 0],.row sv 3 1 (fK k i).length (aV (fK k i))] wr) (fun _ iv _=>k.n - (intOf iv).toNat)
   case atStart=>exact ⟨0,by omega,rfl,rfl,by
    have h2:St w [] V' [.blk b5 100 (dJ s),.blk b3 38 [.int .i64 0],.row (.slice none 0 0) 3 1 0 []] w':=hS.aG
    exact h2⟩
   case round =>
    clear hS
    obtain ⟨i,hi,rfl,hone,hS⟩:=hrel
    by_cases hlt:i < k.n
    ·have h0:(0:Int)≤i:=by omega
     have h1:(i:Int) < k.n:=by omega
     have hi6:i < 6:=by omega
     have hll:=EC k i
     have HT:fK k (i+1)=if (aO k s i).1=(aO k s i).2 then fK k i ++ [(i:Int)] else fK k i:=by rw [fK,hnow.out]
     have hwc:=fun w' hV'=>Af V' p k hcel hG' s hs i hi6 w' hV'
     unfold aJ at hwc
     generalize fK k i=l at hS hll HT
     generalize aO k s i=q at hwc HT
     obtain ⟨q1,q2⟩:=q
     simp only at HT hwc
     have hil:=iD l
     by_cases hq:q1=q2
     ·rw [if_pos hq] at HT
      have hq':(q1 == q2)=true:=by rw [beq_iff_eq];exact hq
      replace HT:=aj HT
      subst hq
      go_wp2_with (first | (first | ((first | ((with_reducible refine gL ?_);first | refine gY hS rfl rfl rfl ?_ | refine lW hS rfl rfl rfl ?_) | ((with_reducible refine gS ?_);refine bQ hS rfl rfl rfl ?_));refine ⟨_,zd,?_⟩;clear hS;(try clear w');intro a' hp;(try simp only [fr] at hp);subst hp;intro w' hS;(try simp only [sE] at hS)) | (((with_reducible refine gA ?_);refine dM hS rfl rfl ?_);clear hS;(try clear w');intro _;intro a' hp;(try simp only [fr] at hp);subst hp;intro w' hS)) | ((with_reducible refine uP ?_);refine rE hS rfl rfl ?_;refine ⟨_,zq,zd,?_⟩;clear hS;(try clear w');intro _;intro a' hp;(try simp only [fr] at hp);subst hp;intro w' hS) | ((with_reducible refine Q5 ?_);refine Ui rfl rfl ?_;refine ⟨_,_,_,_,by exact rfl,by exact rfl,?_⟩;refine eH hS zd ?_;clear hS;(try clear w');intro va w' hS;intro a' hp;(try simp only [fr] at hp);subst hp;(try simp only [sE] at hS);have hva:=dY hS va) | (go_at_call 99;refine aH hS ⟨_,hwc _ (St.view hS),?_⟩;clear hS;(try clear w');intro w' hS))
      go_roundw
      case rel =>
       refine ⟨i+1,by omega,by go_num,hva,?_⟩
       rw [HT.out]
       have ei:aV (l ++ [(i:Int)])=aV l ++ [.int .i64 (i:Int)]:=by simp [aV]
       simp only [ei,List.length_append,List.length_cons,List.length_nil,Nat.zero_add]
       exact hS.aG
      case measure=>simp only [intOf];omega
     ·rw [if_neg hq] at HT
      have hq':(q1 == q2)=false:=by rw [beq_eq_false_iff_ne];exact hq
      replace HT:=aj HT
      go_wp2_with (first | (first | ((first | ((with_reducible refine gL ?_);first | refine gY hS rfl rfl rfl ?_ | refine lW hS rfl rfl rfl ?_) | ((with_reducible refine gS ?_);refine bQ hS rfl rfl rfl ?_));refine ⟨_,zd,?_⟩;clear hS;(try clear w');intro a' hp;(try simp only [fr] at hp);subst hp;intro w' hS;(try simp only [sE] at hS)) | (((with_reducible refine gA ?_);refine dM hS rfl rfl ?_);clear hS;(try clear w');intro _;intro a' hp;(try simp only [fr] at hp);subst hp;intro w' hS)) | (go_at_call 99;refine aH hS ⟨_,hwc _ (St.view hS),?_⟩;clear hS;(try clear w');intro w' hS))
      go_roundw
      case rel =>
       refine ⟨i+1,by omega,by go_num,hone,?_⟩
       rw [HT.out]
       exact hS.aG
      case measure=>simp only [intOf];omega
    ·obtain rfl:i=k.n:=by omega
     go_wp2_with (((with_reducible refine gS ?_);refine pX hS rfl rfl rfl ?_);refine ⟨_,zd,?_⟩;clear hS;(try clear w');intro a' hp;(try simp only [fr] at hp);subst hp;intro w' hS;(try simp only [sE] at hS))
     (refine iF hS ?_;clear hS;(try clear w');intro w' hS;(try simp only [sE] at hS);refine ⟨_,by exact dA (r1:=.tmp 2) (r2:=.cell 3 38) (by kernel_rfl) (by exact bD rfl) (by exact zA hS rfl zd),?_⟩)
     exact ⟨_,rfl,hS.bM,vK hS (j:=2) rfl⟩
  | some i =>
   have hC:vk k=([],9):=by unfold vk;rw [if_pos hb,hst];rfl
   rw [hC]
   simp only
   replace hC:=aj hC;replace hst:=aj hst;replace hb:=aj hb
   go_enter_defers Tryd.func53,Tryd.ntmps53
   go_wp2_with (first | (first | ((first | ((with_reducible refine gL ?_);first | refine gY hS rfl rfl rfl ?_ | refine lW hS rfl rfl rfl ?_) | ((with_reducible refine gS ?_);refine pX hS rfl rfl rfl ?_));refine ⟨_,zd,?_⟩;clear hS;(try clear w');intro a' hp;(try simp only [fr] at hp);subst hp;intro w' hS;(try simp only [sE] at hS)) | ((with_reducible refine gA ?_);refine aT 3 rfl hS rfl rfl ?_;clear hS;(try clear w');intro b3;intro a' hp;(try simp only [fr] at hp);subst hp;intro w' hS) | (((with_reducible refine gB ?_);refine jQ hS rfl rfl rfl ?_;refine ⟨_,za,?_⟩);clear hS;(try clear w');intro _;intro a' hp;(try simp only [fr] at hp);subst hp;intro w' hS)) |
    (go_at_call 77;refine eG hS hk pG (by simp) hb.out ?_;clear hS;(try clear w');intro p V' w' hVV hcel hS;have hG':GV V':=hG.mono hVV) |
    (go_at_call 83;refine nH hS (zN V' p k hcel hok i hst.out _ (St.view hS)) ?_;clear hS;(try clear w');intro w' hS))
   (refine vJ hS ?_;clear hS;(try clear w');intro w' hS;(try simp only [sE] at hS);refine ⟨_,by exact dA (r1:=.tmp 2) (r2:=.cell 3 38) (by kernel_rfl) (by exact bD rfl) (by exact zA hS rfl zd),?_⟩)
   exact ⟨_,rfl,hS.bM,vK hS (l:=[]) (j:=2) rfl⟩
 ·have hC:vk k=([],aS k []):=by unfold vk;rw [if_neg hb]
  rw [hC]
  simp only
  have hb':(aS k [] == 0)=false:=by rw [beq_eq_false_iff_ne];exact hb
  have hE:Go.RowKit.Hid (∃ e,aS k []=e):=aj ⟨_,rfl⟩
  obtain ⟨e,he⟩:=hE.out
  rw [he] at hb' ⊢
  replace hC:=aj hC;replace he:=aj he
  go_enter_defers Tryd.func53,Tryd.ntmps53
  go_wp2_with (first | (first | ((first | ((with_reducible refine gL ?_);first | refine gY hS rfl rfl rfl ?_ | refine lW hS rfl rfl rfl ?_) | ((with_reducible refine gS ?_);refine pX hS rfl rfl rfl ?_));refine ⟨_,zd,?_⟩;clear hS;(try clear w');intro a' hp;(try simp only [fr] at hp);subst hp;intro w' hS;(try simp only [sE] at hS)) | ((with_reducible refine gA ?_);refine aT 3 rfl hS rfl rfl ?_;clear hS;(try clear w');intro b3;intro a' hp;(try simp only [fr] at hp);subst hp;intro w' hS) | (((with_reducible refine gB ?_);refine jQ hS rfl rfl rfl ?_;refine ⟨_,za,?_⟩);clear hS;(try clear w');intro _;intro a' hp;(try simp only [fr] at hp);subst hp;intro w' hS)) |
   (go_at_call 77;refine fF hS hk pG (by simp) hb ?_;rw [he.out];clear hS;(try clear w');intro w' hS))
  (refine bF (S:=(St w [] V [.blk b3 38 [.int .i64 e]])) [false,false,false] rfl (by kernel_rfl) ?_;replace hS:=St.eY hS;(refine hxa 0 rfl ?_;intro a' l' hp hl;(try simp only [fr] at hp);(try simp only [sB] at hl);subst hp;subst hl);(refine C9 1 (by kernel_rfl) rfl rfl (St.aG hS) ?_;refine ⟨_,zp,?_⟩;intro a' l' hp hl;(try simp only [fr] at hp);(try simp only [sB] at hl);subst hp;subst hl);((refine jl 2 (by kernel_rfl) rfl hS rfl  rfl rfl ?_;refine ⟨_,zd,?_⟩);clear hS;(try clear w');intro a' l' hp hl;(try simp only [fr] at hp);(try simp only [sB] at hl);subst hp;subst hl;intro w' hS;(try simp only [sE] at hS);refine ⟨(St.aG hS),?_⟩);refine wpAnyH_done (by kernel_rfl) ?_ _)
  go_wp2_with (fail)
  (refine iF hS ?_;clear hS;(try clear w');intro w' hS;(try simp only [sE] at hS);refine ⟨_,by exact dA (r1:=.tmp 2) (r2:=.cell 3 38) (by kernel_rfl) (by exact bD rfl) (by exact zA hS rfl zd),?_⟩)
  exact ⟨_,rfl,hS.bM,vK hS (l:=[]) (j:=2) rfl⟩
theorem EI (r:je) (w:World):Calls Tryd.prog 42 #[.int .i64 r.vessel,.int .i64 r.scale,.int .i64 r.shown,.int .i64 r.err] w fun e w'=>e=.returned (.agg r.cells.toArray)∧Kp w w':=by
 have hS:=St.start w (fun _=>none) (fun k o h=>by cases h)
 unfold je.cells
 go_enter Tryd.func42,Tryd.ntmps42
 go_wp2_with (first | (((with_reducible refine gS ?_);refine bQ hS rfl rfl rfl ?_);refine ⟨_,zd,?_⟩;clear hS;(try clear w');intro a' hp;(try simp only [fr] at hp);subst hp;intro w' hS;(try simp only [sE] at hS)) | (((with_reducible refine gA ?_);refine dM hS rfl rfl ?_);clear hS;(try clear w');intro _;intro a' hp;(try simp only [fr] at hp);subst hp;intro w' hS))
 ((try simp only [Exit.inBlock,Exit.then]);(try refine aB ?_);refine bK ⟨_,by exact bH (r1:=.cell 8 59) (by kernel_rfl) (by exact rX hS rfl zd),?_⟩ rfl)
 exact ⟨rfl,hS.bM⟩
theorem TM (v:nN) (w:World):Calls Tryd.prog 76 #[.int .i64 v.from_,.int .i64 v.room,.int .i64 v.lo,.int .i64 v.hi] w fun e w'=>e=.returned (.agg v.cells.toArray)∧Kp w w':=by
 have hS:=St.start w (fun _=>none) (fun k o h=>by cases h)
 unfold nN.cells
 go_enter Tryd.func76,Tryd.ntmps76
 go_wp2_with (first | (((with_reducible refine gS ?_);refine bQ hS rfl rfl rfl ?_);refine ⟨_,zd,?_⟩;clear hS;(try clear w');intro a' hp;(try simp only [fr] at hp);subst hp;intro w' hS;(try simp only [sE] at hS)) | (((with_reducible refine gA ?_);refine dM hS rfl rfl ?_);clear hS;(try clear w');intro _;intro a' hp;(try simp only [fr] at hp);subst hp;intro w' hS))
 ((try simp only [Exit.inBlock,Exit.then]);(try refine aB ?_);refine bK ⟨_,by exact bH (r1:=.cell 8 29) (by kernel_rfl) (by exact rX hS rfl zd),?_⟩ rfl)
 exact ⟨rfl,hS.bM⟩
theorem Df {o:Oper} {ρ:Operand→Value} {x y z:Operand} {a b c:je} (ho:o.op=.buildSlice 23 3 #[(0,x),(1,y),(2,z)]) (hx:ρ x=.agg a.cells.toArray) (hy:ρ y=.agg b.cells.toArray) (hz:ρ z=.agg c.cells.toArray) (w:World) :
  (execOp ρ o).run Tryd.prog w=.ok (.value (.slice (some ⟨w.heap.size,0,none⟩) 3 3)) (w.alloc (.cells (fH [a,b,c]).toArray 59)):=by
 unfold execOp
 simp only [ho,List.map_toArray,List.map_cons,List.map_nil,hx,hy,hz]
 kernel_rfl
theorem oP {o:Oper} {ρ:Operand→Value} {x:Operand} {a:je} (ho:o.op=.buildSlice 23 1 #[(0,x)]) (hx:ρ x=.agg a.cells.toArray) (w:World) :
  (execOp ρ o).run Tryd.prog w=.ok (.value (.slice (some ⟨w.heap.size,0,none⟩) 1 1)) (w.alloc (.cells (fH [a]).toArray 59)):=by
 unfold execOp
 simp only [ho,List.map_toArray,List.map_cons,List.map_nil,hx]
 kernel_rfl
theorem E5 {o:Oper} {ρ:Operand→Value} {x y z u:Operand} {a b c d:nN} (ho:o.op=.buildSlice 22 4 #[(0,x),(1,y),(2,z),(3,u)]) (hx:ρ x=.agg a.cells.toArray) (hy:ρ y=.agg b.cells.toArray) (hz:ρ z=.agg c.cells.toArray) (hu:ρ u=.agg d.cells.toArray) (w:World) :
  (execOp ρ o).run Tryd.prog w=.ok (.value (.slice (some ⟨w.heap.size,0,none⟩) 4 4)) (w.alloc (.cells (fD [a,b,c,d]).toArray 29)):=by
 unfold execOp
 simp only [ho,List.map_toArray,List.map_cons,List.map_nil,hx,hy,hz,hu]
 kernel_rfl
theorem pK {o:Oper} {ρ:Operand→Value} {x:Operand} {a:nN} (ho:o.op=.buildSlice 22 1 #[(0,x)]) (hx:ρ x=.agg a.cells.toArray) (w:World) :
  (execOp ρ o).run Tryd.prog w=.ok (.value (.slice (some ⟨w.heap.size,0,none⟩) 1 1)) (w.alloc (.cells (fD [a]).toArray 29)):=by
 unfold execOp
 simp only [ho,List.map_toArray,List.map_cons,List.map_nil,hx]
 kernel_rfl
theorem Rj {o:Oper} {ρ:Operand→Value} {x y:Operand} {g:Nat} (ho:o.op=.call { callee:=.builtin .append,args:=#[x,y],argTypes:=#[23,23] }) (hx:ρ x=.slice (some ⟨g,0,none⟩) 3 3) (hy:ρ y=.slice none 0 0) (w:World) :
  (execOp ρ o).run Tryd.prog w=.ok (.value (.slice (some ⟨g,0,none⟩) 3 3)) w:=by
 unfold execOp
 simp only [ho,List.map_toArray,List.map_cons,List.map_nil,hx,hy,resolve]
 kernel_rfl
end Go.Proofs.YtjjmefieegcddaaDoor
