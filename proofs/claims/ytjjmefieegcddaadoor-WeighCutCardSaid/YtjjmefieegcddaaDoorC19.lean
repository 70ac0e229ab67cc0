/- A part of the proof: W32, W33, W34, T23, W35, W36, W37. -/
import Derived.Test.YtjjmefieegcddaaDoorC18
import Derived.Test.YtjjmefieegcddaaDoorC11
set_option linter.unusedVariables false
set_option linter.unusedSimpArgs false
set_option maxHeartbeats 8000000
namespace Go.Proofs.YtjjmefieegcddaaDoor
open Go.RowKit Go.Wg Go.Mm Go.Wk
open Go Go.Sr Go.Ph Go.Tm Go.Conc
variable {w:World} {V:View}
noncomputable def B97:Code:=match Tryd.f97.body with | some c=>c | none=>.skip
noncomputable def L1:Code:=match Tryd.f97.body with | some (.seq _ (.seq _ (.seq _ (.seq (.seq _ (.block _ (.loop l))) _))))=>l | _=>.skip
noncomputable def K8:Code:=match Tryd.f97.body with | some (.seq _ (.seq _ (.seq _ (.seq _ r))))=>r | _=>.skip
def iU (p:Nat) (s:SS) (st:Bool) (b4 b5 b6 b7 c:Nat) (sl:Value) (n i:Nat) (x10 x18 x19 x20 x21 x22:Value):Array Value :=
 #[ptr p,.agg (dJ s).toArray,.bool st,undef,ptr b4,ptr b5,ptr b6,ptr b7,sl,undef,x10,undef,.chan (some c),ptr p,sl,sl,.int .i64 n,.int .i64 i,x18,x19,x20,x21,x22,undef,undef,undef,undef,undef,undef,undef,undef,undef,undef]
structure ZA (V:View) (w0:World) (p:Nat) (k:Wk) (ts:List Nat) (s:SS) (st:Bool) (b4 b5 b6 b7 c:Nat) (sl:Value) (w:World):Prop where
 kp:Kp w0 w
 h4:w.heap[b4]? = some (.cells (dJ s).toArray 100 (0,0))
 h5:w.heap[b5]? = some (.cells #[.bool st] 4 (0,0))
 h6:w.heap[b6]? = some (.cells #[.int .i64 0,.int .i64 0] 27 (0,0))
 h7:w.heap[b7]? = some (.cells #[.chan (some c)] 165 (0,0))
 hc:w.heap[c]? = some (.chan 0 #[] false 0 0 false)
 row:(dF.row sl 124 1 k.sources.length (k.sources.map fun x=>ptr (ts.getD x 0))).Holds w
 new:∀ b,sl.ownBlock=some b→w0.heap.size≤b
 n4:w0.heap.size≤b4
 n5:w0.heap.size≤b5
 n6:w0.heap.size≤b6
 n7:w0.heap.size≤b7
 nc:w0.heap.size≤c
 n64:b6≠b4∧b6≠b5∧b6≠b7∧sl.ownBlock≠some b6
theorem vY {k:Wk} (hok:k.Ok):0 < k.sources.length:=by
 have h0:=(hok.ves 0 hok.pos).2.1
 exact List.length_pos_of_mem (a:=0) (List.mem_filter.2 ⟨List.mem_range.2 hok.pos,by simp;omega⟩)
theorem VW (w:World):(Instr.makeChan 165 (.int .i64 0)).run Tryd.prog w=.ok (.chan (some w.heap.size)) (w.alloc (.chan 0 #[] false 0 0 false)):=by
 have hi:(Tryd.prog.info? 27).map (·.bytes)=some 16:=by kernel_rfl
 cases hq:Tryd.prog.info? 27 with
 | none=>rw [hq] at hi;cases hi
 | some i =>
  rw [hq] at hi
  have hb:i.bytes=16:=by simpa using hi
  exact run_makeChan (P:=Tryd.prog) (t:=165) Tryd.underlying165 hq .i64 0 (by omega) (by rw [hb];decide)
theorem PG {o:Oper} {ρ:Operand→Value} {x:Operand} (ho:o.op=.makeChan 165 x) (hx:ρ x=.int .i64 0) (w:World):(execOp ρ o).run Tryd.prog w=.ok (.value (.chan (some w.heap.size))) (w.alloc (.chan 0 #[] false 0 0 false)):=by
 unfold execOp
 simp [ho,hx,VW]
theorem D6 {tgt k:List Item} {S:Act→World→Prop} {a:Act} {w0 w:World} {X:List Nat} {L:List dF} (hS:St w0 X V L w) {ops:Array Oper} {i:Nat} {rest:List Nat} {o:Oper} (ho:ops[i]? = some o) (hw:Region.wanted o (yielded ops a.tmps)=true)
  {ty:TypeId} {x y:Operand} (hop:o.op=.store ty x y) {j b:Nat} {i':Nat} {t:TypeId} {cs:List Value} (hj:L[j]? = some (.blk b t cs)) (hx:a.eval x=.pointer (some ⟨b,i',none⟩)) {v:Value} (hy:a.eval y=v) (hv:v.oneCell'=true) (hty:uK Tryd.prog ty=true) (hl:i' < cs.length)
  (h:∀ w',St w0 X V (L.set j (.blk b t (cs.set i' v))) w'→fA Tryd.prog tgt S (.inRegion ops rest :: k) (a.put o.dst undef) w'):fA Tryd.prog tgt S (.inRegion ops (i :: rest) :: k) a w:=by
 obtain ⟨w',hr,hS'⟩:=yg (P:=Tryd.prog) hS hop hj hx hy hv hty hl rfl
 exact Q8 ho hw hr (h w' hS')
set_option maxRecDepth 20000 in
theorem LX (p:Nat) (k:Wk) (ts:List Nat) (vv rv:Value) (hC:zO V p k ts vv rv) (hok:k.Ok) (s:SS) (hs:s.WF) (st:Bool) (w:World) (hV:V.In w) :
  fA Tryd.prog [.code (.block 0 (.loop L1)),.code K8] (fun a w'=>∃ b4 b5 b6 b7 c sl,a=⟨iU p s st b4 b5 b6 b7 c sl k.sources.length 0 undef undef undef undef undef undef,[]⟩∧ZA V w p k ts s st b4 b5 b6 b7 c sl w')
   [.code B97] { tmps:=#[ptr p,.agg (dJ s).toArray,.bool st] ++ Array.replicate 30 undef,defers:=[] } w:=by
 have HL:(dJ s).length=18:=dG hs
 have hS:=St.start w V hV
 have hmk:=VW
 simp only [Array.replicate_succ,Array.replicate_zero,List.push_toArray,List.append_toArray,List.nil_append,List.cons_append]
 unfold ptr
 refine au (aA ?_)
 go_wp2_with (first | ((with_reducible refine gB ?_);refine iK 4 rfl hS rfl rfl rfl ?_;refine ⟨_,za,?_⟩;clear hS;(try clear w');intro b4;intro a' hp;(try simp only [fr] at hp);subst hp;intro w' hS) | ((with_reducible refine gB ?_);refine iK 5 rfl hS rfl rfl rfl ?_;refine ⟨_,za,?_⟩;clear hS;(try clear w');intro b5;intro a' hp;(try simp only [fr] at hp);subst hp;intro w' hS) | ((with_reducible refine gA ?_);refine aT 6 rfl hS rfl rfl ?_;clear hS;(try clear w');intro b6;intro a' hp;(try simp only [fr] at hp);subst hp;intro w' hS))
 refine au (ig ?_)
 have g4:w'.heap[b4]? = some (.cells (dJ s).toArray 100 (0,0)):=hS.dR
 have g5:w'.heap[b5]? = some (.cells #[.bool st] 4 (0,0)):=hS.dR
 have g6:w'.heap[b6]? = some (.cells #[.int .i64 0,.int .i64 0] 27 (0,0)):=hS.dR
 have l4:w.heap.size≤b4:=(hS.new (.blk b4 100 (dJ s)) (by simp) b4 rfl).elim id (fun h=>nomatch h)
 have l5:w.heap.size≤b5:=(hS.new (.blk b5 4 [.bool st]) (by simp) b5 rfl).elim id (fun h=>nomatch h)
 have l6:w.heap.size≤b6:=(hS.new (.blk b6 27 [.int .i64 0,.int .i64 0]) (by simp) b6 rfl).elim id (fun h=>nomatch h)
 have n64:b6≠b4:=by
  rintro rfl
  rw [g4] at g6
  simp only [Option.some.injEq,Obj.cells.injEq] at g6
  exact absurd g6.2.1 (by decide)
 have n65:b6≠b5:=by
  rintro rfl
  rw [g5] at g6
  simp only [Option.some.injEq,Obj.cells.injEq] at g6
  exact absurd g6.2.1 (by decide)
 refine cO (i:=0) rfl rfl (PG rfl rfl w') ?_
 simp only [fr]
 have hk1:Kp w' (w'.alloc (.chan 0 #[] false 0 0 false)):=⟨rfl,rfl,by show _≤(w'.heap.push _).size;simp,fun k hk=>heap_alloc_old w' _ hk⟩
 have hc1:(w'.alloc (.chan 0 #[] false 0 0 false)).heap[w'.heap.size]? = some (.chan 0 #[] false 0 0 false):=heap_alloc_new w' _
 have lt:∀ {b:Nat} {o:Obj},w'.heap[b]? = some o→b < w'.heap.size:=fun h=>lt_of_heap h
 have g41:=(hk1.old _ (lt g4)).trans g4
 have g51:=(hk1.old _ (lt g5)).trans g5
 have g61:=(hk1.old _ (lt g6)).trans g6
 have lc:w.heap.size≤w'.heap.size:=hS.size
 have hkp0:=(hS.bM).trans hk1
 have hin:=(hS.kp hk1).view
 clear hS lt hk1
 generalize w'.alloc (.chan 0 #[] false 0 0 false)=w1 at *
 generalize w'.heap.size=c at *
 clear g4 g5 g6
 have hS:=St.start w1 V hin
 refine cO (i:=1) rfl rfl (Aq (P:=Tryd.prog) hS (cs:=[.chan none]) rfl (by kernel_rfl) (by kernel_rfl)).1 ?_
 replace hS:=hS.alloc 165 [.chan none]
 generalize w1.alloc (.cells [Value.chan none].toArray 165)=w2 at *
 generalize w1.heap.size=b7 at *
 refine D6 hS (i:=2) (v:=.chan (some c)) rfl rfl rfl (j:=0) rfl rfl rfl rfl (by kernel_rfl) (by decide) ?_
 clear hS
 intro w3 hS
 simp only [List.set_cons_zero] at hS
 refine dH (au (aA ?_))
 go_wp2_with (go_at_call 93;refine (Fq _ p k ts vv rv hC _ (St.view hS)).mono ?_;rintro _ w4 ⟨sl,rfl,hkp,hrow,hnew⟩)
 have hpos:=vY hok
 have hle:k.sources.length≤6:=Nat.le_trans (sD k k.n) hC.le
 have hsz3:=hS.size
 replace hS:=hS.kp hkp
 obtain ⟨g,cap,cur,rfl,hc2,hc3,hcur,hget⟩:=oz hrow.1 hpos
 generalize hn:k.sources.length=n at *
 refine au (au (aA ?_))
 go_wp2_with (fail)
 refine bG ⟨b4,b5,b6,b7,c,_,rfl,?_⟩
 have hK:=hS.bM
 have hsz0:=hkp0.size
 have l6':=lt_of_heap g61
 have n7:w1.heap.size≤b7:=(hS.new (.blk b7 165 [.chan (some c)]) (by simp) b7 rfl).elim id (fun h=>nomatch h)
 have hg3:=hnew g rfl
 exact ⟨hkp0.trans hK,(hK.old _ (lt_of_heap g41)).trans g41,(hK.old _ (lt_of_heap g51)).trans g51,(hK.old _ l6').trans g61,hS.dR,(hK.old _ (lt_of_heap hc1)).trans hc1,hn ▸ hrow,fun b hb=>by have:=hnew b hb;omega,l4,l5,l6,by omega,lc,
  n64,n65,by omega,fun h=>by have:g=b6:=by simpa [Value.ownBlock] using h
                             omega⟩
noncomputable def ops6:Array Oper:=match L1 with | .seq _ (.seq _ (.seq (.block _ (.seq _ (.region _ o _))) _))=>o | _=>#[]
noncomputable def R7:Code:=match L1 with | .seq _ (.seq _ (.seq _ r))=>r | _=>.skip
noncomputable def L2:Code:=match K8 with | .seq _ (.seq (.seq _ (.block _ (.loop l))) _)=>l | _=>.skip
noncomputable def K13:Code:=match K8 with | .seq _ (.seq _ r)=>r | _=>.skip
noncomputable def R11:Code:=match L2 with | .seq _ (.seq _ (.seq (.block _ r) _))=>r | _=>.skip
noncomputable def KC:Array Oper:=match R11 with | .region _ o _=>o | _=>#[]
noncomputable def R12:Code:=match L2 with | .seq _ (.seq _ (.seq _ r))=>r | _=>.skip
noncomputable def yP:List Item:=[.code L1,.inLoop L1,.inBlock 0,.code K8]
noncomputable def TA (l:List Nat):List Item:=[.inRegion ops6 l,.inBlock 1,.code R7,.inLoop L1,.inBlock 0,.code K8]
noncomputable def head2:List Item:=[.code L2,.inLoop L2,.inBlock 2,.code K13]
noncomputable def ZY:List Item:=[.code R11,.inBlock 3,.code R12,.inLoop L2,.inBlock 2,.code K13]
noncomputable def Au (l:List Nat):List Item:=[.inRegion KC l,.inBlock 3,.code R12,.inLoop L2,.inBlock 2,.code K13]
theorem Vj:orders KC=[[0,1,2,3,4],[1,0,2,3,4],[1,2,0,3,4]]:=by kernel_rfl
set_option maxRecDepth 20000 in
theorem abo (p:Nat) (s:SS) (st:Bool) (b4 b5 b6 b7 c g cap n i t:Nat) (x10 x18 x19 x20 x21 x22:Value) (hi:i < n) (hn:n≤6) (hg:V.Cell g i (ptr t)) (w:World) (hV:V.In w) :
  fA Tryd.prog (TA [1]) (fun a w'=>∃ b10,a=⟨iU p s st b4 b5 b6 b7 c (.slice (some ⟨g,0,none⟩) n cap) n i (ptr b10) (.bool true) (.pointer (some ⟨g,i,none⟩)) (ptr t) (.func (.func 123) #[] #[ptr b10,ptr b4,ptr b5,ptr b7]) x22,[]⟩∧St w [] V [.blk b10 124 [ptr t]] w')
   yP ⟨iU p s st b4 b5 b6 b7 c (.slice (some ⟨g,0,none⟩) n cap) n i x10 x18 x19 x20 x21 x22,[]⟩ w:=by
 have hS:=St.start w V hV
 have h0:(0:Int)≤i:=by omega
 have h1:(i:Int) < n:=by omega
 unfold iU ptr at *
 generalize (dJ s).toArray=stv
 refine au (aA ?_)
 go_wp2_with (fail)
 refine au (aA ?_)
 go_wp2_with (fail)
 refine au (jg (au (aA ?_)))
 go_wp2_with (first | ((first | ((with_reducible refine gL ?_);refine nC hS rfl rfl rfl ?_) | ((with_reducible refine gS ?_);refine pX hS rfl rfl rfl ?_));refine ⟨_,zd,?_⟩;clear hS;(try clear w');intro a' hp;(try simp only [fr] at hp);subst hp;intro w' hS;(try simp only [sE] at hS)) | ((with_reducible refine gA ?_);refine aT 10 rfl hS rfl rfl ?_;clear hS;(try clear w');intro b10;intro a' hp;(try simp only [fr] at hp);subst hp;intro w' hS))
 refine ig (cO (i:=0) rfl rfl (v:=.func (.func 123) #[] #[.pointer (some ⟨b10,0,none⟩),.pointer (some ⟨b4,0,none⟩),.pointer (some ⟨b5,0,none⟩),.pointer (some ⟨b7,0,none⟩)]) (w':=w') (by unfold execOp;simp [Act.eval,Instr.makeFunc,go_sem]) ?_)
 exact bG ⟨b10,rfl,hS⟩
set_option maxRecDepth 20000 in
theorem abm (p:Nat) (s:SS) (st:Bool) (b4 b5 b6 b7 c n i:Nat) (sl x10 x18 x19 x20 x21 x22:Value) (hi:i < n) (hn:n≤6) (w:World) (hV:V.In w) :
  fA Tryd.prog yP (fun a w'=>a=⟨iU p s st b4 b5 b6 b7 c sl n (i+1) x10 x18 x19 x20 x21 (.int .i64 ((i+1:Nat):Int)),[]⟩∧St w [] V [] w')
   (TA []) ⟨iU p s st b4 b5 b6 b7 c sl n i x10 x18 x19 x20 x21 x22,[]⟩ w:=by
 have hS:=St.start w V hV
 have e1:((i+1:Nat):Int)=(i:Int)+1:=by omega
 rw [show iU p s st b4 b5 b6 b7 c sl n (i+1) x10 x18 x19 x20 x21 (.int .i64 ((i+1:Nat):Int))=#[ptr p,.agg (dJ s).toArray,.bool st,undef,ptr b4,ptr b5,ptr b6,ptr b7,sl,undef,x10,undef,.chan (some c),ptr p,sl,sl,.int .i64 n,.int .i64 ((i:Int)+1),x18,x19,x20,x21,.int .i64 ((i:Int)+1),undef,undef,undef,undef,undef,undef,undef,undef,undef,undef] from by unfold iU;rw [e1]]
 unfold iU ptr at *
 generalize (dJ s).toArray=stv
 refine dH (jE (aA ?_))
 conv=>enter [2];whnf
 go_wp2_with (fail)
 refine jr ?_
 exact bG (tgt:=yP) ⟨rfl,hS⟩
def wE (p:Nat) (s:SS) (st:Bool) (b4 b5 b6 b7 c bo:Nat) (sl:Value) (n i j:Nat) (x10 x18 x19 x20 x21 x22 x26 x27 x28 x29 x30 x31:Value):Array Value :=
 #[ptr p,.agg (dJ s).toArray,.bool st,undef,ptr b4,ptr b5,ptr b6,ptr b7,sl,undef,x10,ptr bo,.chan (some c),ptr p,sl,sl,.int .i64 n,.int .i64 i,x18,x19,x20,x21,x22,sl,.int .i64 n,.int .i64 j,x26,x27,x28,x29,x30,x31,undef]
set_option maxRecDepth 20000 in
theorem abw (p:Nat) (s:SS) (st:Bool) (b4 b5 b6 b7 c g cap n:Nat) (x10 x18 x19 x20 x21 x22:Value) (hn:n≤6) (w:World) (hV:V.In w) :
  fA Tryd.prog head2 (fun a w'=>∃ bo,a=⟨wE p s st b4 b5 b6 b7 c bo (.slice (some ⟨g,0,none⟩) n cap) n n 0 x10 (.bool false) x19 x20 x21 x22 undef undef undef undef undef undef,[]⟩∧St w [] V [.blk bo 27 [.int .i64 0,.int .i64 0]] w')
   yP ⟨iU p s st b4 b5 b6 b7 c (.slice (some ⟨g,0,none⟩) n cap) n n x10 x18 x19 x20 x21 x22,[]⟩ w:=by
 have hS:=St.start w V hV
 unfold iU wE ptr at *
 generalize (dJ s).toArray=stv
 refine au (aA ?_)
 go_wp2_with (fail)
 refine au (dZ (t:=false) rfl (lG rfl ?_))
 refine au (aA ?_)
 go_wp2_with ((with_reducible refine gA ?_);refine aT 11 rfl hS rfl rfl ?_;clear hS;(try clear w');intro b11;intro a' hp;(try simp only [fr] at hp);subst hp;intro w' hS)
 refine au (au (aA ?_))
 go_wp2_with (fail)
 refine jg (zh ?_)
 exact bG (tgt:=head2) ⟨b11,rfl,hS⟩
set_option maxRecDepth 20000 in
theorem abx (p:Nat) (s:SS) (st:Bool) (b4 b5 b6 b7 c bo n i j:Nat) (sl x10 x18 x19 x20 x21 x22 x26 x27 x28 x29 x30 x31:Value) (hj:j < n) (hn:n≤6) (w:World) (hV:V.In w) :
  fA Tryd.prog ZY (fun a w'=>a=⟨wE p s st b4 b5 b6 b7 c bo sl n i j x10 x18 x19 x20 x21 x22 (.bool true) x27 x28 x29 x30 x31,[]⟩∧St w [] V [] w')
   head2 ⟨wE p s st b4 b5 b6 b7 c bo sl n i j x10 x18 x19 x20 x21 x22 x26 x27 x28 x29 x30 x31,[]⟩ w:=by
 have hS:=St.start w V hV
 have h0:(0:Int)≤j:=by omega
 have h1:(j:Int) < n:=by omega
 unfold wE ptr at *
 generalize (dJ s).toArray=stv
 refine au (aA ?_)
 go_wp2_with (fail)
 refine au (aA ?_)
 go_wp2_with (fail)
 refine au (jg ?_)
 exact bG (tgt:=ZY) ⟨rfl,hS⟩
theorem xK {tgt k:List Item} {S:Act→World→Prop} {a:Act} {w0 w:World} {X:List Nat} {L:List dF} (hS:St w0 X V L w) {ops:Array Oper} {i:Nat} {rest:List Nat} {o:Oper} (ho:ops[i]? = some o) (hw:Region.wanted o (yielded ops a.tmps)=true)
  {ty:TypeId} {x y:Operand} (hop:o.op=.store ty x y) {j b:Nat} {i' n:Nat} {t:TypeId} {cs vs:List Value} (hj:L[j]? = some (.blk b t cs)) (hx:a.eval x=.pointer (some ⟨b,i',none⟩)) (hy:a.eval y=.agg vs.toArray) (hv:∀ v∈vs,v.oneCell'=true) (hty:rowB Tryd.prog ty n=true) (hn:vs.length=n) (hl:i'+n≤cs.length)
  (h:∀ w',St w0 X V (L.set j (.blk b t (splice cs i' vs))) w'→fA Tryd.prog tgt S (.inRegion ops rest :: k) (a.put o.dst undef) w'):fA Tryd.prog tgt S (.inRegion ops (i :: rest) :: k) a w:=by
 obtain ⟨w',hr,hS'⟩:=xJ (P:=Tryd.prog) hS hop hj hx hy hv hty hn hl rfl
 exact Q8 ho hw hr (h w' hS')
theorem St.Zj {w:World} {V:View} (hV:V.In w) {b:Nat} {t:TypeId} {cs:List Value} (hb:w.heap[b]? = some (.cells cs.toArray t (0,0))) (hn:V b=none):St w [b] V [.blk b t cs] w :=
 ⟨rfl,rfl,Nat.le_refl _,fun _ _ _=>rfl,hV,fun e he=>by
  simp only [List.mem_singleton] at he
  subst he
  exact hb,fun e he b' hb'=>by
  simp only [List.mem_singleton] at he
  subst he
  cases hb'
  exact .inr (by simp),fun e he b' hb'=>by
  simp only [List.mem_singleton] at he
  subst he
  cases hb'
  exact hn,by simp [dF.foot]⟩
def l5 (l:List Nat):List Nat:=if l=[1,2,0,3,4] then [0,3,4] else [3,4]
def x5 (l:List Nat) (acc:Int × Int) (x:Value):Value:=if l=[1,2,0,3,4] then x else aJ acc
theorem abu (p:Nat) (s:SS) (st:Bool) (b4 b5 b6 b7 c bo n i j:Nat) (acc:Int × Int) (sl x10 x18 x19 x20 x21 x22 x26 x27 x28 x29 x30 x31:Value) (l:List Nat) (hl:l=[0,1,2,3,4]∨l=[1,0,2,3,4]∨l=[1,2,0,3,4])
  (h7:V.Cell b7 0 (.chan (some c))) (ho:w.rangeAt bo 0 [.int .i64 acc.1,.int .i64 acc.2]) (hV:V.In w) :
  fA Tryd.prog (Au (2 :: l5 l)) (fun a w'=>a=⟨wE p s st b4 b5 b6 b7 c bo sl n i j x10 x18 x19 x20 x21 x22 x26 (x5 l acc x27) (.chan (some c)) x29 x30 x31,[]⟩∧w'=w)
   (Au l) ⟨wE p s st b4 b5 b6 b7 c bo sl n i j x10 x18 x19 x20 x21 x22 x26 x27 x28 x29 x30 x31,[]⟩ w:=by
 have hc7:=h7.cell hV
 rcases hl with rfl | rfl | rfl
 ·rw [show l5 [0,1,2,3,4]=[3,4] from rfl,show x5 [0,1,2,3,4] acc x27=aJ acc from rfl]
  unfold wE ptr
  refine cO (i:=0) rfl rfl (iy (n:=2) rfl rfl jS.ok rfl ho) ?_
  refine cO (i:=1) rfl rfl (fP rfl rfl iR.ok hc7) ?_
  exact bG (tgt:=Au [2,3,4]) ⟨rfl,rfl⟩
 ·rw [show l5 [1,0,2,3,4]=[3,4] from rfl,show x5 [1,0,2,3,4] acc x27=aJ acc from rfl]
  unfold wE ptr
  refine cO (i:=1) rfl rfl (fP rfl rfl iR.ok hc7) ?_
  refine cO (i:=0) rfl rfl (iy (n:=2) rfl rfl jS.ok rfl ho) ?_
  exact bG (tgt:=Au [2,3,4]) ⟨rfl,rfl⟩
 ·rw [show l5 [1,2,0,3,4]=[0,3,4] from rfl,show x5 [1,2,0,3,4] acc x27=x27 from rfl]
  unfold wE ptr
  refine cO (i:=1) rfl rfl (fP rfl rfl iR.ok hc7) ?_
  exact bG (tgt:=Au [2,0,3,4]) ⟨rfl,rfl⟩
set_option maxRecDepth 20000 in
theorem abp (p:Nat) (s:SS) (st:Bool) (b4 b5 b6 b7 c bo n i j:Nat) (acc r:Int × Int) (sl x10 x18 x19 x20 x21 x22 x26 x28 x30 x31:Value) (hj:j < n) (hn:n≤6) (hb:Pb 100000000000 acc) (hr:Pb 100000000000 r)
  (hob:w.heap[bo]? = some (.cells #[.int .i64 acc.1,.int .i64 acc.2] 27 (0,0))) (hVo:V bo=none) (hV:V.In w) :
  fA Tryd.prog head2 (fun a w'=>a=⟨wE p s st b4 b5 b6 b7 c bo sl n i (j+1) x10 x18 x19 x20 x21 x22 x26 (aJ acc) x28 (aJ r) (aJ (dX acc r)) (.int .i64 ((j+1:Nat):Int)),[]⟩∧St w [bo] V [.blk bo 27 [.int .i64 (dX acc r).1,.int .i64 (dX acc r).2]] w')
   (Au [3,4]) ⟨wE p s st b4 b5 b6 b7 c bo sl n i j x10 x18 x19 x20 x21 x22 x26 (aJ acc) x28 (aJ r) x30 x31,[]⟩ w:=by
 have hS:St w [bo] V [.blk bo 27 [.int .i64 acc.1,.int .i64 acc.2]] w:=St.Zj hV hob hVo
 have h0:(0:Int)≤j:=by omega
 have e1:((j+1:Nat):Int)=(j:Int)+1:=by omega
 unfold wE
 rw [e1]
 refine rZ (i:=3) rfl rfl (run_call_body rfl Tryd.func127 (by kernel_rfl) rfl) ?_
 simp only [List.map_toArray,List.map_cons,List.map_nil]
 show Calls Tryd.prog 127 #[aJ acc,aJ r] w _
 refine (both_ok acc r (by unfold Pb at *;omega) (by unfold Pb at *;omega) (by unfold Pb at *;omega) (by unfold Pb at *;omega) w).mono ?_
 rintro e w' ⟨rfl,hk⟩
 refine ⟨_,rfl,?_⟩
 replace hS:=hS.kp hk
 refine xK hS (i:=4) (vs:=[.int .i64 (dX acc r).1,.int .i64 (dX acc r).2]) rfl rfl rfl (j:=0) (i':=0) (n:=2) rfl rfl rfl (by simp [Value.oneCell']) (by kernel_rfl) rfl (by simp) ?_
 clear hS hk hob hVo hV
 intro w'' hS
 simp only [List.set_cons_zero,splice] at hS
 show fA Tryd.prog head2 _ _ ⟨wE p s st b4 b5 b6 b7 c bo sl n i j x10 x18 x19 x20 x21 x22 x26 (aJ acc) x28 (aJ r) (aJ (dX acc r)) x31,[]⟩ _
 simp only [wE,aJ,ptr,List.take,List.drop,List.nil_append,List.cons_append,List.length_cons,List.length_nil,List.append_nil,Nat.reduceAdd,Nat.zero_add] at hS ⊢
 generalize (dJ s).toArray=stv
 generalize (dX acc r)=br at *
 refine dH (jE (aA ?_))
 conv=>enter [2];whnf
 go_wp2_with (fail)
 refine jr ?_
 exact bG (tgt:=head2) ⟨rfl,hS⟩
theorem aaQ (p:Nat) (s:SS) (st:Bool) (b4 b5 b6 b7 c bo n i j:Nat) (acc r:Int × Int) (sl x10 x18 x19 x20 x21 x22 x26 x27 x28 x30 x31:Value) (hj:j < n) (hn:n≤6) (hb:Pb 100000000000 acc) (hr:Pb 100000000000 r)
  (hob:w.heap[bo]? = some (.cells #[.int .i64 acc.1,.int .i64 acc.2] 27 (0,0))) (hVo:V bo=none) (hV:V.In w) (l:List Nat) (hl:(l=[3,4]∧x27=aJ acc)∨l=[0,3,4]) :
  fA Tryd.prog head2 (fun a w'=>a=⟨wE p s st b4 b5 b6 b7 c bo sl n i (j+1) x10 x18 x19 x20 x21 x22 x26 (aJ acc) x28 (aJ r) (aJ (dX acc r)) (.int .i64 ((j+1:Nat):Int)),[]⟩∧St w [bo] V [.blk bo 27 [.int .i64 (dX acc r).1,.int .i64 (dX acc r).2]] w')
   (Au l) ⟨wE p s st b4 b5 b6 b7 c bo sl n i j x10 x18 x19 x20 x21 x22 x26 x27 x28 (aJ r) x30 x31,[]⟩ w:=by
 have h6:=abp p s st b4 b5 b6 b7 c bo n i j acc r sl x10 x18 x19 x20 x21 x22 x26 x28 x30 x31 hj hn hb hr hob hVo hV
 rcases hl with ⟨rfl,rfl⟩ | rfl
 ·exact h6
 ·have hr5:w.rangeAt bo 0 [.int .i64 acc.1,.int .i64 acc.2]:=lK (cs:=[.int .i64 acc.1,.int .i64 acc.2]) (n:=2) hob rfl
  have e:wE p s st b4 b5 b6 b7 c bo sl n i j x10 x18 x19 x20 x21 x22 x26 (aJ acc) x28 (aJ r) x30 x31=(Act.put ⟨wE p s st b4 b5 b6 b7 c bo sl n i j x10 x18 x19 x20 x21 x22 x26 x27 x28 (aJ r) x30 x31,[]⟩ (some 27) (aJ acc)).tmps:=rfl
  rw [e] at h6
  exact cO (i:=0) rfl rfl (iy (n:=2) rfl rfl jS.ok rfl hr5) h6
set_option maxRecDepth 20000 in
theorem abk (p:Nat) (s:SS) (st:Bool) (b4 b5 b6 b7 c bo n i:Nat) (acc:Int × Int) (sl x10 x18 x19 x20 x21 x22 x26 x27 x28 x29 x30 x31:Value) (hn:n≤6)
  (h6:w.heap[b6]? = some (.cells #[.int .i64 0,.int .i64 0] 27 (0,0))) (hV6:V b6=none) (ho:V.Range bo 0 [.int .i64 acc.1,.int .i64 acc.2]) (hV:V.In w) :
  fA Tryd.prog [.code .ret] (fun a w'=>(∃ x26 x32,a=⟨#[ptr p,.agg (dJ s).toArray,.bool st,undef,ptr b4,ptr b5,ptr b6,ptr b7,sl,undef,x10,ptr bo,.chan (some c),ptr p,sl,sl,.int .i64 n,.int .i64 i,x18,x19,x20,x21,x22,sl,.int .i64 n,.int .i64 n,x26,x27,x28,x29,x30,x31,x32],[]⟩)∧St w [b6] V [.blk b6 27 [.int .i64 acc.1,.int .i64 acc.2]] w')
   head2 ⟨wE p s st b4 b5 b6 b7 c bo sl n i n x10 x18 x19 x20 x21 x22 x26 x27 x28 x29 x30 x31,[]⟩ w:=by
 have hS:St w [b6] V [.blk b6 27 [.int .i64 0,.int .i64 0]] w:=St.Zj hV h6 hV6
 unfold wE ptr at *
 generalize (dJ s).toArray=stv
 refine au (aA ?_)
 go_wp2_with (fail)
 refine au (dZ (t:=false) rfl (lG rfl ?_))
 refine au (aA ?_)
 go_wp2_with ((first | ((with_reducible refine gL ?_);refine zQ hS rfl rfl rfl ?_) | ((with_reducible refine gS ?_);refine bQ hS rfl rfl rfl ?_));refine ⟨_,zd,?_⟩;clear hS;(try clear w');intro a' hp;(try simp only [fr] at hp);subst hp;intro w' hS;(try simp only [sE] at hS))
 exact bG (tgt:=[.code .ret]) ⟨⟨_,_,rfl⟩,hS⟩
end Go.Proofs.YtjjmefieegcddaaDoor
namespace Go.Ph
open Go
open Go.Tm
open Go.Sr
open Go.Conc
section
variable {DD DD':List Nat} {R:BR}
theorem VT (hR:∀ b∈DD,∀ b',R b b'→b'=b) {v u v':Value} (h:Xe (iq DD) v u) (h':Xe R v v'):v'=v:=by
 cases h with
 | flat hf =>
  cases h' with
  | flat _=>rfl
  | ptr _=>cases hf
  | slice _=>cases hf
  | chan _=>cases hf
 | ptr h =>
  cases h' with
  | flat hf=>cases hf
  | ptr h' =>
   obtain ⟨e1,e2,e3⟩:=h'
   have:=hR _ h.1.2 _ e1
   rename_i a _ a'
   cases a
   cases a'
   simp_all
 | slice h =>
  cases h' with
  | flat hf=>cases hf
  | slice h' =>
   obtain ⟨e1,e2,e3⟩:=h'
   have:=hR _ h.1.2 _ e1
   rename_i a _ _ _ a'
   cases a
   cases a'
   simp_all
 | chan h =>
  cases h' with
  | flat hf=>cases hf
  | chan h'=>rw [hR _ h.2 _ h']
mutual
theorem LU [bT] (hR:∀ b∈DD,∀ b',R b b'→b'=b) {v u v':Value}:qV (iq DD) v u→qV R v v'→v'=v
 | .base h,h'=>by
  cases h' with
  | base h'=>exact VT hR h h'
  | func _ _ _ _ _ =>
   cases h with
   | flat hf=>cases hf
 | .func (a:=a) (c:=c) h0 h1 h2 h3 h4,h'=>by
  cases h' with
  | base h' =>
   cases h' with
   | flat hf=>cases hf
  | func k0 k1 k2 k3 k4 =>
   rename_i a1 c1 a' c'
   congr 1
   ·apply Array.ext k1
    intro i i1 i2
    have i3:i < a1.size:=by rw [h1];exact i2
    exact aI hR (h2 i _ _ (Array.getElem?_eq_getElem i2) (Array.getElem?_eq_getElem i3)) (k2 i _ _ (Array.getElem?_eq_getElem i2) (Array.getElem?_eq_getElem i1))
   ·apply Array.ext k3
    intro i i1 i2
    have i3:i < c1.size:=by rw [h3];exact i2
    exact aI hR (h4 i _ _ (Array.getElem?_eq_getElem i2) (Array.getElem?_eq_getElem i3)) (k4 i _ _ (Array.getElem?_eq_getElem i2) (Array.getElem?_eq_getElem i1))
theorem aI [bT] (hR:∀ b∈DD,∀ b',R b b'→b'=b) {v u v':Value}:VR (iq DD) v u→VR R v v'→v'=v
 | .base h,h'=>by
  cases h' with
  | base h'=>exact LU hR h h'
  | agg _ _ =>
   cases h with
   | base h =>
    cases h with
    | flat hf=>cases hf
 | .agg (c:=c) (c':=c1) h1 h2,h'=>by
  cases h' with
  | base h' =>
   cases h' with
   | base h' =>
    cases h' with
    | flat hf=>cases hf
  | agg k1 k2 =>
   congr 1
   apply Array.ext k1
   intro i i1 i2
   have i3:i < c1.size:=by rw [h1];exact i2
   exact LU hR (h2 i _ _ (Array.getElem?_eq_getElem i2) (Array.getElem?_eq_getElem i3)) (k2 i _ _ (Array.getElem?_eq_getElem i2) (Array.getElem?_eq_getElem i1))
end
def GR [bT] (R:BR):List Value→List Value→Prop
 | [],[]=>True
 | v :: l,u :: m=>(∀ v',VR R v v'→v'=u)∧GR R l m
 | _,_=>False
theorem Gy [bT]:∀ {l m:List Value},GR R l m→m.length=l.length∧∀ (i:Nat) (v u:Value),l[i]? = some v→m[i]? = some u→∀ v',VR R v v'→v'=u
 | [],[],_=>⟨rfl,fun i v u h=>by simp at h⟩
 | v :: l,u :: m,h=>by
  obtain ⟨h1,h2⟩:=Gy h.2
  refine ⟨by simp [h1],fun i x y hx hy=>?_⟩
  cases i with
  | zero=>simp at hx hy;subst hx;subst hy;exact h.1
  | succ i=>simp at hx hy;exact h2 i x y hx hy
theorem CW [bT] {t t':Array Value} {m:List Value} (h:AF (VR R) t t') (ha:GR R t.toList m):t'=m.toArray:=by
 obtain ⟨h1,h2⟩:=Gy ha
 have hsz:t'.size=m.toArray.size:=by rw [h.1];simp [h1]
 apply Array.ext hsz
 intro i i1 i2
 have i3:i < t.size:=by rw [← h.1];exact i1
 have i4:i < m.length:=by simpa using i2
 have:=h2 i t[i] m[i] (by simp [i3]) (by simp [i4]) t'[i] (h.raw i _ _ (Array.getElem?_eq_getElem i3) (Array.getElem?_eq_getElem i1))
 simpa using this
theorem LG [bT] {l:List Value} (h:∀ v∈l,VR (iq DD) v v) (hR:∀ b∈DD,∀ b',R b b'→b'=b):GR R l l:=by
 induction l with
 | nil=>trivial
 | cons v l ih=>exact ⟨fun v' h'=>aI hR (h v (by simp)) h',ih fun u hu=>h u (by simp [hu])⟩
end
end Go.Ph
namespace Go.Proofs.YtjjmefieegcddaaDoor
open Go.RowKit Go.Wg Go.Mm Go.Wk
open Go Go.Sr Go.Ph Go.Tm Go.Conc
noncomputable def zH (x:Item):Bool :=
 match x with
 | .code c | .inLoop c=>Ce Tryd.prog c && bY true c
 | .inRegion ops _=>(ops.all fun o=>NM Tryd.prog o.op) && ops.all fun o=>qj true o.op
 | .inBlock _=>true
 | _=>false
theorem UH {todo:List Item} (h:todo.all zH=true):∀ x∈todo,jB Tryd.prog x∧iC true x:=fun x hx=>by
 have:=List.all_eq_true.1 h x hx
 match x,this with
 | .code c,h=>exact ⟨(Bool.and_eq_true_iff.1 h).1,(Bool.and_eq_true_iff.1 h).2⟩
 | .inLoop c,h=>exact ⟨(Bool.and_eq_true_iff.1 h).1,(Bool.and_eq_true_iff.1 h).2⟩
 | .inRegion ops l,h=>exact ⟨(Bool.and_eq_true_iff.1 h).1,(Bool.and_eq_true_iff.1 h).2⟩
 | .inBlock id,h=>exact ⟨trivial,trivial⟩
theorem Mc:yP.all zH=true:=by kernel_rfl
theorem Lr:head2.all zH=true:=by kernel_rfl
theorem Xw (l:List Nat):(TA l).all zH=true:=(show (TA []).all zH=true by kernel_rfl)
theorem QW (l:List Nat):(Au l).all zH=true:=(show (Au []).all zH=true by kernel_rfl)
structure yD (V:View) (wA:World) (p:Nat) (k:Wk) (ts:List Nat) (vv rv:Value) (s:SS) (st:Bool) (b4 b5 b6 b7 c g cap:Nat) (D:List Nat) (cur:Array Value):Prop where
 inA:V.In wA
 cel:zO V p k ts vv rv
 ok:k.Ok
 wf:s.WF
 lo:∀ i,0≤(s.aP i).1
 hi:∀ i,(s.aP i).2≤1000
 cl:Closed V D
 pD:p∈D
 v4:V b4=some (.cells (dJ s).toArray 100 (0,0))
 v5:V b5=some (.cells #[.bool st] 4 (0,0))
 v7:V b7=some (.cells #[.chan (some c)] 165 (0,0))
 vg:V g=some (.cells cur 124 (0,0))
 curD:∀ v∈cur,IZ D v
 src:∀ (i x:Nat),k.sources[i]? = some x→cur[i]? = some (ptr (ts.getD x 0))
 vc:V c=none
 v6:V b6=none
 h6:wA.heap[b6]? = some (.cells #[.int .i64 0,.int .i64 0] 27 (0,0))
 hc:wA.heap[c]? = some (.chan 0 #[] false 0 0 false)
 ge:Wg.gN≤b4∧Wg.gN≤b5∧Wg.gN≤b6∧Wg.gN≤b7∧Wg.gN≤c∧Wg.gN≤g
 n6:k.sources.length≤6
 npos:0 < k.sources.length
structure FT (wA:World) (b6 c:Nat) (D1 wr1:Nat→Prop) (w:World):Prop where
 kept:∀ b,b < wA.heap.size→b≠b6→b≠c→w.heap[b]? = wA.heap[b]?
 size:wA.heap.size≤w.heap.size
 os:w.os=wA.os
 out:w.output=wA.output
 rd:∀ b,b < wA.heap.size→b≠b6→D1 b
 w6:wr1 b6
 low:∀ b,wr1 b→b=b6∨wA.heap.size≤b
 h6:w.heap[b6]? = some (.cells #[.int .i64 0,.int .i64 0] 27 (0,0))
 hc:∃ o,w.heap[c]? = some o∧DY o=true
section
variable {V:View} {wA w w1 w2:World} {p:Nat} {k:Wk} {ts:List Nat} {vv rv:Value} {s:SS} {st:Bool} {b4 b5 b6 b7 c g cap:Nat} {D:List Nat} {cur:Array Value} {D1 wr1 x:Nat→Prop}
theorem yD.WE (X:yD V wA p k ts vv rv s st b4 b5 b6 b7 c g cap D cur):b6≠c:=by
 rintro rfl
 have h1:=X.h6
 rw [X.hc] at h1
 cases h1
theorem yD.RU (X:yD V wA p k ts vv rv s st b4 b5 b6 b7 c g cap D cur):c < wA.heap.size:=lt_of_heap X.hc
theorem yD.XG (X:yD V wA p k ts vv rv s st b4 b5 b6 b7 c g cap D cur):b6 < wA.heap.size:=lt_of_heap X.h6
theorem yD.QE (X:yD V wA p k ts vv rv s st b4 b5 b6 b7 c g cap D cur) {b:Nat} {o:Obj} (h:V b=some o):b≠b6∧b≠c∧b < wA.heap.size :=
 ⟨(by rintro rfl;rw [X.v6] at h;cases h),(by rintro rfl;rw [X.vc] at h;cases h),lt_of_heap (X.inA _ _ h)⟩
theorem Vt {a b:World} (h:vU c a b c) (ho:∃ o,a.heap[c]? = some o∧DY o=true):∃ o,b.heap[c]? = some o∧DY o=true:=by
 obtain ⟨o,h1,h2⟩:=ho
 rcases h with h | ⟨_,o1,o2,_,h4,_,h6⟩
 ·exact ⟨o,h.trans h1,h2⟩
 ·exact ⟨o2,h4,h6⟩
theorem kY {a b:World} {i:Nat} (h:vU c a b i) (hi:i≠c):b.heap[i]? = a.heap[i]?:=by
 rcases h with h | ⟨h,_⟩
 ·exact h
 ·exact (hi h).elim
theorem FT.rely (X:yD V wA p k ts vv rv s st b4 b5 b6 b7 c g cap D cur) (I:FT wA b6 c D1 wr1 w) (hr:dn c (sK D1 wr1) w w1):FT wA b6 c D1 wr1 w1 :=
 ⟨fun b h1 h2 h3=>(kY (hr.keep b (.inl (I.rd b h1 h2))) h3).trans (I.kept b h1 h2 h3),Nat.le_trans I.size hr.size,hr.os.trans I.os,hr.output.trans I.out,I.rd,I.w6,I.low,
  (kY (hr.keep b6 (.inr I.w6)) X.WE).trans I.h6,Vt (hr.keep c (.inl (I.rd c X.RU (Ne.symm X.WE)))) I.hc⟩
theorem FT.after (X:yD V wA p k ts vv rv s st b4 b5 b6 b7 c g cap D cur) (I:FT wA b6 c D1 wr1 w) (hk:yY c D1 wr1 w w2) (hx:∀ b,x b→wr1 b∨w.heap.size≤b) (h6:w2.heap[b6]? = some (.cells #[.int .i64 0,.int .i64 0] 27 (0,0))) :
  FT wA b6 c D1 (fun b=>wr1 b∨x b) w2:=by
 have hn:∀ b,b < wA.heap.size→b≠b6→¬ wr1 b:=fun b h1 h2 h=>by
  rcases I.low b h with h | h
  ·exact h2 h
  ·omega
 refine ⟨fun b h1 h2 h3=>(kY (hk.keep b (Nat.lt_of_lt_of_le h1 I.size) (I.rd b h1 h2) (hn b h1 h2)) h3).trans (I.kept b h1 h2 h3),Nat.le_trans I.size hk.size,hk.os.trans I.os,hk.output.trans I.out,I.rd,.inl I.w6,fun b hb=>?_,h6,
  Vt (hk.keep c (Nat.lt_of_lt_of_le X.RU I.size) (I.rd c X.RU (Ne.symm X.WE)) (hn c X.RU (Ne.symm X.WE))) I.hc⟩
 rcases hb with hb | hb
 ·exact I.low b hb
 ·rcases hx b hb with h | h
  ·exact I.low b h
  ·exact .inr (Nat.le_trans I.size h)
theorem FT.view (X:yD V wA p k ts vv rv s st b4 b5 b6 b7 c g cap D cur) (I:FT wA b6 c D1 wr1 w):V.In w:=fun b o h=>by
 obtain ⟨h1,h2,h3⟩:=X.QE h
 rw [I.kept b h3 h1 h2]
 exact X.inA b o h
def dK (b4 b5 b7 c g:Nat) (D E:List Nat):List Nat:=b4 :: b5 :: b7 :: c :: g :: (D ++ E)
structure KG (wA:World) (D E:List Nat) (D1 wr1:Nat→Prop) (w:World):Prop where
 obj:∀ b∈E,D1 b∧¬ wr1 b∧wA.heap.size≤b∧∃ t∈D,w.heap[b]? = some (.cells #[ptr t] 124 (0,0))
theorem KG.rely (X:yD V wA p k ts vv rv s st b4 b5 b6 b7 c g cap D cur) {E:List Nat} (h:KG wA D E D1 wr1 w) (hr:dn c (sK D1 wr1) w w1):KG wA D E D1 wr1 w1 :=
 ⟨fun b hb=>by
  obtain ⟨h1,h2,h3,t,h4,h5⟩:=h.obj b hb
  exact ⟨h1,h2,h3,t,h4,(kY (hr.keep b (.inl h1)) (by rintro rfl;have:=X.RU;omega)).trans h5⟩⟩
structure PhW (wA:World) (WW:List Nat) (wr1:Nat→Prop) (w:World):Prop where
 obj:∀ b∈WW,wr1 b∧Wg.gN≤b∧∃ c t,w.heap[b]? = some (.cells c t (0,0))∧∀ v∈c,iL v=true
theorem LM (X:yD V wA p k ts vv rv s st b4 b5 b6 b7 c g cap D cur) (I:FT wA b6 c D1 wr1 w) {E WW:List Nat} (hE:KG wA D E D1 wr1 w) (hW:PhW wA WW wr1 w) (hG:Wg.gN≤wA.heap.size):Seg Tryd.prog D1 wr1 (dK b4 b5 b7 c g D E) WW w:=by
 have hin:=I.view X
 have m4:b4∈dK b4 b5 b7 c g D E:=by simp [dK]
 have mc:c∈dK b4 b5 b7 c g D E:=by simp [dK]
 have mD:∀ b∈D,b∈dK b4 b5 b7 c g D E ++ WW:=fun b hb=>by simp [dK,hb]
 have hvr:∀ {v:Value},iL v=true→qV (iq (dK b4 b5 b7 c g D E ++ WW)) v v:=fun h=>.base (.flat (uU h))
 have hd1:∀ {b:Nat} {o:Obj},V b=some o→D1 b:=fun h=>I.rd _ (X.QE h).2.2 (X.QE h).1
 have hold:∀ b∈dK b4 b5 b7 c g D E,D1 b∧¬ wr1 b:=fun b hb=>by
  have hlow:∀ {b:Nat},b < wA.heap.size→b≠b6→¬ wr1 b:=fun h1 h2 h=>by
   rcases I.low _ h with h | h
   ·exact h2 h
   ·omega
  have hv:∀ {b:Nat} {o:Obj},V b=some o→D1 b∧¬ wr1 b:=fun h=>⟨hd1 h,hlow (X.QE h).2.2 (X.QE h).1⟩
  simp only [dK,List.mem_cons,List.mem_append] at hb
  rcases hb with rfl | rfl | rfl | rfl | rfl | hb | hb
  ·exact hv X.v4
  ·exact hv X.v5
  ·exact hv X.v7
  ·exact ⟨I.rd _ X.RU (Ne.symm X.WE),hlow X.RU (Ne.symm X.WE)⟩
  ·exact hv X.vg
  ·obtain ⟨cs,t,h1,_⟩:=X.cl.cells b hb
   exact hv h1
  ·obtain ⟨h1,h2,_⟩:=hE.obj b hb
   exact ⟨h1,h2⟩
 refine ⟨fun b hb=>.inl (hold b hb).1,fun b hb=>(hW.obj b hb).1,fun b hb hd=>(hold b hd).2 (hW.obj b hb).1,fun b hb=>?_,?_,fun b hb=>?_,fun b hb=>?_⟩
 ·rcases List.mem_append.1 hb with hb | hb
  ·simp only [dK,List.mem_cons,List.mem_append] at hb
   obtain ⟨g1,g2,g3,g4,g5,g6⟩:=X.ge
   rcases hb with rfl | rfl | rfl | rfl | rfl | hb | hb
   ·exact g1
   ·exact g2
   ·exact g4
   ·exact g5
   ·exact g6
   ·exact X.cl.ge b hb
   ·exact Nat.le_trans hG (hE.obj b hb).2.2.1
  ·exact (hW.obj b hb).2.1
 ·exact Nat.le_trans hG I.size
 ·simp only [dK,List.mem_cons,List.mem_append] at hb
  rcases hb with rfl | rfl | rfl | rfl | rfl | hb | hb
  ·exact .inl ⟨_,_,hin _ _ X.v4,fun v hv=>hvr (yL s v (by simpa using hv))⟩
  ·exact .inl ⟨_,_,hin _ _ X.v5,fun v hv=>by
    have:v=.bool st:=by simpa using hv
    subst this
    exact .base (.flat rfl)⟩
  ·exact .inl ⟨_,_,hin _ _ X.v7,fun v hv=>by
    have:v=.chan (some c):=by simpa using hv
    subst this
    exact .base (.chan ⟨rfl,List.mem_append_left _ mc⟩)⟩
  ·exact .inr I.hc
  ·exact .inl ⟨_,_,hin _ _ X.vg,fun v hv=>sF mD (X.curD v hv)⟩
  ·obtain ⟨cs,t,h1,h2⟩:=X.cl.cells b hb
   exact .inl ⟨_,_,hin _ _ h1,fun v hv=>sF mD (h2 v hv)⟩
  ·obtain ⟨_,_,_,t,ht,h5⟩:=hE.obj b hb
   exact .inl ⟨_,_,h5,fun v hv=>by
    have:v=ptr t:=by simpa using hv
    subst this
    exact sF mD (.inr (.inl ⟨_,_,rfl,ht⟩))⟩
 ·obtain ⟨_,_,cs,t,h1,h2⟩:=hW.obj b hb
  exact ⟨cs,t,h1,fun v hv=>hvr (h2 v hv)⟩
noncomputable def lv (DD WW:List Nat) (w:World):View:=fun b=>if b∈DD ++ WW then (oU DD w).heap[b]? else none
theorem Ny (DD WW:List Nat) (w:World) (τ:Nat→Question→Nat) (d:Nat):(lv DD WW w).In ((oU DD w).re τ d):=fun b o h=>by
 unfold lv at h
 split at h
 ·exact h
 ·cases h
theorem Jb {DD WW:List Nat} {w:World} {b i:Nat} {v:Value} {cs:Array Value} {t:TypeId} {fr:Nat × Nat} (hb:b∈DD ++ WW) (h:w.heap[b]? = some (.cells cs t fr)) (hi:cs[i]? = some v):(lv DD WW w).Cell b i v:=by
 by_cases hd:b∈DD
 ·exact ⟨cs,t,(0,cs.size),by simp only [lv,hb,if_true];rw [jT,h];simp [hd,JZ],hi⟩
 ·exact ⟨cs,t,fr,by simp only [lv,hb,if_true];rw [jT,h];simp [hd],hi⟩
theorem Ap {DD WW:List Nat} {w:World} {b:Nat} (hd:b ∉ DD):(oU DD w).heap[b]? = w.heap[b]?:=by
 rw [jT]
 cases w.heap[b]? with
 | none=>rfl
 | some o=>simp [hd]
end
section
variable {V:View} {wA w w1 w2:World} {p:Nat} {k:Wk} {ts:List Nat} {vv rv:Value} {s:SS} {st:Bool} {b4 b5 b6 b7 c g cap:Nat} {D:List Nat} {cur:Array Value} {D1 wr1 x:Nat→Prop} {E WW:List Nat}
theorem DL (X:yD V wA p k ts vv rv s st b4 b5 b6 b7 c g cap D cur) (I:FT wA b6 c D1 wr1 w) (hE:KG wA D E D1 wr1 w) (hW:PhW wA WW wr1 w) (hG:Wg.gN≤wA.heap.size) (hh:ay OC w)
  {tm:Array Value} {todo tgt:List Item} (hit:todo.all zH=true) (hself:∀ v∈tm,VR (iq (dK b4 b5 b7 c g D E ++ WW)) v v) {b:Frame} (hbf:b.fn=97) (hbk:b.kind=.normal) {cs:List Frame} {vs:List Value} {Q:wY}
  {S:Act→World→Prop} (hre:∀ a w τ d,S a w→S a (w.re τ d)) (hrun:∀ τ d,fA Tryd.prog tgt S todo ⟨tm,[]⟩ ((oU (dK b4 b5 b7 c g D E) w).re τ d))
  (hk:∀ R' a' a2 wl w2,S a' wl→le (iq (dK b4 b5 b7 c g D E ++ WW)) R'→AF (VR R') a'.tmps a2.tmps→a2.defers=[]→WR Tryd.prog.globals.size R' (wX (dK b4 b5 b7 c g D E)) wl w2→yY c D1 wr1 w w2 →
   (∀ b,own (wX (dK b4 b5 b7 c g D E)) R' b→wr1 b∨w.heap.size≤b)→oK Tryd.prog c D1 (fun b=>wr1 b∨own (wX (dK b4 b5 b7 c g D E)) R' b) vs (G (b.at a2 tgt) cs) w2 Q) :
  oK Tryd.prog c D1 wr1 vs (G (b.at ⟨tm,[]⟩ todo) cs) w Q:=by
 have hi:=UH hit
 have hst:uw 97 (b.at ⟨tm,[]⟩ todo) []:=⟨⟨fun x hx=>(hi x hx).2,(fun d hd=>nomatch hd),.inl hbk⟩,rfl,hbk,hbf⟩
 have hsr:FQ Tryd.prog (iq (dK b4 b5 b7 c g D E ++ WW)) (b.at ⟨tm,[]⟩ todo) (b.at ⟨tm,[]⟩ todo):=WM rfl hself (fun x hx=>(hi x hx).1) hbk fun fn hfn=>by
  rw [hbf,Tryd.func97] at hfn
  cases hfn
  exact (show Tryd.f97.results.size≤1 by decide)
 refine WB XJ lT (LM X I hE hW hG) hh hst hsr (S:=fun a t w=>t=tgt∧S a w) (fun a t w τ d h=>⟨h.1,hre _ _ _ _ h.2⟩) (fun τ d=>?_) fun R' a' a2 todo' wl w2 hs hle hAF hdf hWR hkept hfr _=>?_
 ·obtain ⟨a',w',h1,h2⟩:=hrun τ d b [floor Tryd.prog] hbk
  exact ⟨a',tgt,w',⟨rfl,h1⟩,h2⟩
 ·obtain ⟨rfl,hs⟩:=hs
  exact hk R' a' a2 wl w2 hs hle hAF hdf hWR hkept hfr
theorem Iq {R:BR} {b:Nat} {v:Value} (h:VR R (ptr b) v):∃ b',v=ptr b'∧R b b':=by
 unfold ptr at h
 cases h with
 | base h =>
  cases h with
  | base h =>
   cases h with
   | flat h=>cases h
   | ptr h =>
    rename_i a'
    obtain ⟨h1,h2,h3⟩:=h
    obtain ⟨b',o',sp'⟩:=a'
    simp only at h1 h2 h3
    subst h2
    subst h3
    exact ⟨b',rfl,h1⟩
theorem yG (X:yD V wA p k ts vv rv s st b4 b5 b6 b7 c g cap D cur) {n i:Nat} {x10 x18 x19 x20 x21 x22:Value} (h6:b6∈WW) (hx:∀ v∈[x10,x18,x19,x20,x21,x22],VR (iq (dK b4 b5 b7 c g D E ++ WW)) v v) :
  ∀ v∈iU p s st b4 b5 b6 b7 c (.slice (some ⟨g,0,none⟩) n cap) n i x10 x18 x19 x20 x21 x22,VR (iq (dK b4 b5 b7 c g D E ++ WW)) v v:=by
 have hu:VR (iq (dK b4 b5 b7 c g D E ++ WW)) undef undef:=.of_flat rfl
 have hp:VR (iq (dK b4 b5 b7 c g D E ++ WW)) (ptr p) (ptr p):=bJ (.ptr (by simp [dK,X.pD]))
 have hst:VR (iq (dK b4 b5 b7 c g D E ++ WW)) (.agg (dJ s).toArray) (.agg (dJ s).toArray):=bJ (.agg fun v hv=>uU (yL s v (by simpa using hv)))
 have hb:VR (iq (dK b4 b5 b7 c g D E ++ WW)) (.bool st) (.bool st):=.of_flat rfl
 have h4:VR (iq (dK b4 b5 b7 c g D E ++ WW)) (ptr b4) (ptr b4):=bJ (.ptr (by simp [dK]))
 have h5:VR (iq (dK b4 b5 b7 c g D E ++ WW)) (ptr b5) (ptr b5):=bJ (.ptr (by simp [dK]))
 have h6':VR (iq (dK b4 b5 b7 c g D E ++ WW)) (ptr b6) (ptr b6):=bJ (.ptr (by simp [h6]))
 have h7:VR (iq (dK b4 b5 b7 c g D E ++ WW)) (ptr b7) (ptr b7):=bJ (.ptr (by simp [dK]))
 have hsl:VR (iq (dK b4 b5 b7 c g D E ++ WW)) (.slice (some ⟨g,0,none⟩) n cap) (.slice (some ⟨g,0,none⟩) n cap):=bJ (.slice (by simp [dK]))
 have hc:VR (iq (dK b4 b5 b7 c g D E ++ WW)) (.chan (some c)) (.chan (some c)):=bJ (.chan (by simp [dK]))
 have hn:VR (iq (dK b4 b5 b7 c g D E ++ WW)) (.int .i64 n) (.int .i64 n):=.of_flat rfl
 have hi:VR (iq (dK b4 b5 b7 c g D E ++ WW)) (.int .i64 i) (.int .i64 i):=.of_flat rfl
 simp only [List.mem_cons,List.not_mem_nil,or_false,forall_eq_or_imp,forall_eq] at hx
 obtain ⟨y10,y18,y19,y20,y21,y22⟩:=hx
 intro v hv
 simp only [iU,List.mem_toArray,List.mem_cons,List.not_mem_nil,or_false] at hv
 rcases hv with rfl | rfl | rfl | rfl | rfl | rfl | rfl | rfl | rfl | rfl | rfl | rfl | rfl | rfl | rfl | rfl | rfl | rfl | rfl | rfl | rfl | rfl | rfl | rfl | rfl | rfl | rfl | rfl | rfl | rfl | rfl | rfl | rfl
 all_goals assumption
end
def wC (k:Wk) (s:SS) (st:Bool) (i:Nat):List Value:=((k.sources.take i).map fun x=>aJ (kX k s st x)).reverse
theorem MQ (k:Wk) (s:SS) (st:Bool) {i x:Nat} (h:k.sources[i]? = some x):wC k s st (i+1)=aJ (kX k s st x) :: wC k s st i:=by
 unfold wC
 rw [List.take_add_one,h]
 simp
section
variable {V:View} {wA w w1 w2:World} {p:Nat} {k:Wk} {ts:List Nat} {vv rv:Value} {s:SS} {st:Bool} {b4 b5 b6 b7 c g cap:Nat} {D:List Nat} {cur:Array Value} {D1 wr1 x:Nat→Prop} {E WW:List Nat}
theorem Yh {R:BR} {x0 x1 x2 x3 y0:Value} {f:FuncId} {v:Value} (h:VR R (.func (.func f) #[] #[x0,x1,x2,x3]) v) (h0:∀ v,VR R x0 v→v=y0) (h1:∀ v,VR R x1 v→v=x1) (h2:∀ v,VR R x2 v→v=x2) (h3:∀ v,VR R x3 v→v=x3) :
  v=.func (.func f) #[] #[y0,x1,x2,x3]:=by
 cases h with
 | base h =>
  cases h with
  | base h =>
   cases h with
   | flat h=>cases h
  | func k0 k1 k2 k3 k4 =>
   rename_i a' c'
   have e1:a'=#[]:=Array.eq_empty_of_size_eq_zero (by simpa using k1)
   have k3':c'.size=4:=by simpa using k3
   subst e1
   congr 1
   apply Array.ext
   ·simpa using k3'
   ·intro j i1 i2
    have hj:j=0∨j=1∨j=2∨j=3:=by omega
    rcases hj with rfl | rfl | rfl | rfl
    ·exact h0 _ (k4 0 _ _ rfl (Array.getElem?_eq_getElem i1))
    ·exact h1 _ (k4 1 _ _ rfl (Array.getElem?_eq_getElem i1))
    ·exact h2 _ (k4 2 _ _ rfl (Array.getElem?_eq_getElem i1))
    ·exact h3 _ (k4 3 _ _ rfl (Array.getElem?_eq_getElem i1))
theorem LK (X:yD V wA p k ts vv rv s st b4 b5 b6 b7 c g cap D cur) (I:FT wA b6 c D1 wr1 w) (hE:KG wA D E D1 wr1 w) (hW:PhW wA WW wr1 w) (hG:Wg.gN≤wA.heap.size):∀ b∈dK b4 b5 b7 c g D E,b < w.heap.size:=fun b hb=>by
 rcases (LM X I hE hW hG).obj b hb with ⟨_,_,h,_⟩ | ⟨_,h,_⟩ <;> exact lt_of_heap h
theorem ph6 (X:yD V wA p k ts vv rv s st b4 b5 b6 b7 c g cap D cur) (I:FT wA b6 c D1 wr1 w):PhW wA [b6] wr1 w:=⟨fun b hb=>by
 simp only [List.mem_singleton] at hb
 subst hb
 exact ⟨I.w6,X.ge.2.2.1,_,_,I.h6,by simp [iL]⟩⟩
theorem Jg (X:yD V wA p k ts vv rv s st b4 b5 b6 b7 c g cap D cur) (I:FT wA b6 c D1 wr1 w) (hE:KG wA D E D1 wr1 w) (hG:Wg.gN≤wA.heap.size):b6 ∉ dK b4 b5 b7 c g D E:=(LM X I hE (ph6 X I) hG).dis b6 (by simp)
theorem zZ {R':BR} {wl:World} {DD WW:List Nat} (hWR:WR Tryd.prog.globals.size R' (wX DD) wl w2) (hle:le (iq (DD ++ WW)) R') (hm:b6∈WW) (hn:b6 ∉ DD) (h6l:wl.heap[b6]? = some (.cells #[.int .i64 0,.int .i64 0] 27 (0,0))) :
  w2.heap[b6]? = some (.cells #[.int .i64 0,.int .i64 0] 27 (0,0)):=by
 obtain ⟨c6,hc6,hAF6⟩:=wP hWR (hle b6 b6 ⟨rfl,List.mem_append_right _ hm⟩) hn h6l
 rw [CX (sQ hWR hle) hAF6 (fun v hv=>by
  have:v=.int .i64 0:=by simpa using hv
  subst this
  exact .flat rfl)] at hc6
 exact hc6
theorem Dt {i x:Nat} (h:k.sources[i]? = some x):x < k.n:=List.mem_range.1 (List.mem_filter.1 (List.mem_of_getElem? h)).1
theorem Xz {o:Oper} {a:Act} {x:Operand} {t:Fn} {f c:Array Value} (ho:o.op=.go { callee:=.value x,args:=#[],argTypes:=#[] }) (hx:a.eval x=.func t f c) (w:World) :
  (execOp a.eval o).run Tryd.prog w=.ok (.spawn { target:=.fn t c,args:=f }) w:=by
 unfold execOp
 simp [ho,resolve,hx,Deferred.ofValue]
set_option maxRecDepth 20000 in
theorem aaz (X:yD V wA p k ts vv rv s st b4 b5 b6 b7 c g cap D cur) (hG:Wg.gN≤wA.heap.size) {b:Frame} (hbf:b.fn=97) (hbk:b.kind=.normal) {cs:List Frame} {Q:wY}
  (hend:∀ D1 wr1 w x10 x18 x19 x20 x21 x22 E,FT wA b6 c D1 wr1 w→KG wA D E D1 wr1 w→Sr.flat x22=true→(∀ v∈[x10,x18,x19,x20,x21,x22],VR (iq (dK b4 b5 b7 c g D E ++ [b6])) v v) →
   oK Tryd.prog c D1 wr1 (wC k s st k.sources.length) (G (b.at ⟨iU p s st b4 b5 b6 b7 c (.slice (some ⟨g,0,none⟩) k.sources.length cap) k.sources.length k.sources.length x10 x18 x19 x20 x21 x22,[]⟩ yP) cs) w Q) :
  ∀ (m i:Nat),i+m=k.sources.length→∀ D1 wr1 w x10 x18 x19 x20 x21 x22 E,FT wA b6 c D1 wr1 w→KG wA D E D1 wr1 w→Sr.flat x22=true→(∀ v∈[x10,x18,x19,x20,x21,x22],VR (iq (dK b4 b5 b7 c g D E ++ [b6])) v v) →
   oK Tryd.prog c D1 wr1 (wC k s st i) (G (b.at ⟨iU p s st b4 b5 b6 b7 c (.slice (some ⟨g,0,none⟩) k.sources.length cap) k.sources.length i x10 x18 x19 x20 x21 x22,[]⟩ yP) cs) w Q:=by
 intro m
 induction m with
 | zero =>
  intro i hi D1 wr1 w x10 x18 x19 x20 x21 x22 E I hE h22 hx
  obtain rfl:i=k.sources.length:=by omega
  exact hend D1 wr1 w x10 x18 x19 x20 x21 x22 E I hE h22 hx
 | succ m ih =>
  intro i hi D1 wr1 w x10 x18 x19 x20 x21 x22 E I hE h22 hx
  have hlt:i < k.sources.length:=by omega
  refine tV fun w1 hr1 hh1 hc1=>?_
  replace I:=I.rely X hr1
  replace hE:=hE.rely X hr1
  clear hr1 hc1 w
  obtain ⟨sx,hsx⟩:∃ sx,k.sources[i]? = some sx:=⟨_,List.getElem?_eq_getElem hlt⟩
  have hcur:=X.src i sx hsx
  obtain ⟨t,ht⟩:∃ t,ts.getD sx 0=t:=⟨_,rfl⟩
  rw [ht] at hcur
  have htD:t∈D:=by
   have:=X.curD _ (Array.mem_of_getElem? hcur)
   exact QJ this
  have hW:=ph6 X I
  have hn6:=Jg X I hE hG
  have hlts:=LK X I hE hW hG
  have sf:=yG (E:=E) (WW:=[b6]) (n:=k.sources.length) (i:=i) X (by simp) hx
  refine DL (tgt:=TA [1]) X I hE hW hG hh1 Mc sf hbf hbk
   (S:=fun a w'=>∃ b10,a=⟨iU p s st b4 b5 b6 b7 c (.slice (some ⟨g,0,none⟩) k.sources.length cap) k.sources.length i (ptr b10) (.bool true) (.pointer (some ⟨g,i,none⟩)) (ptr t) (.func (.func 123) #[] #[ptr b10,ptr b4,ptr b5,ptr b7]) x22,[]⟩ ∧
    w'.heap[b10]? = some (.cells #[ptr t] 124 (0,0))∧w1.heap.size≤b10∧w'.heap[b6]? = some (.cells #[.int .i64 0,.int .i64 0] 27 (0,0)))
   (fun _ _ _ _ h=>h) (fun τ d=>?_) ?_
  ·have hg:(lv (dK b4 b5 b7 c g D E) [b6] w1).Cell g i (ptr t):=Jb (by simp [dK]) (I.view X g _ X.vg) hcur
   refine (abo p s st b4 b5 b6 b7 c g cap k.sources.length i t x10 x18 x19 x20 x21 x22 hlt X.n6 hg _ (Ny _ [b6] w1 τ d)).mono ?_
   rintro a w' ⟨b10,rfl,hS⟩
   have hl6:(lv (dK b4 b5 b7 c g D E) [b6] w1) b6=some (.cells #[.int .i64 0,.int .i64 0] 27 (0,0)):=by
    simp only [lv,List.mem_append,List.mem_singleton,or_true,if_true]
    rw [Ap (WW:=[]) hn6]
    exact I.h6
   have hb:=(hS.new (.blk b10 124 [ptr t]) (by simp) b10 rfl).elim id (fun h=>nomatch h)
   refine ⟨b10,rfl,hS.dR,?_,hS.view _ _ hl6⟩
   have e:((oU (dK b4 b5 b7 c g D E) w1).re τ d).heap.size=w1.heap.size:=oJ _ _
   omega
  ·rintro R' a' a2 wl w2 ⟨b10,rfl,h10,l10,h6l⟩ hle hAF hdf hWR hkept hfr
   have hfx:=sQ hWR hle
   obtain ⟨v10,hv10,r10⟩:=hAF.2 10 (ptr b10) rfl
   obtain ⟨bt,rfl,rbt⟩:=Iq r10
   have nD:¬ wX (dK b4 b5 b7 c g D E) b10:=fun h=>by
    have:=hlts b10 h
    omega
   obtain ⟨c',hc',hAF1⟩:=wP hWR rbt nD h10
   have ec:c'=#[ptr t]:=CX hfx hAF1 fun v hv=>by
    have:v=ptr t:=by simpa using hv
    subst this
    exact .ptr (by simp [dK,htD])
   subst ec
   have h62:=zZ hWR hle (by simp) hn6 h6l
   have obt:own (wX (dK b4 b5 b7 c g D E)) R' bt:=⟨b10,rbt,nD⟩
   have lbt:wA.heap.size≤bt:=by
    rcases hfr bt obt with h | h
    ·rcases I.low bt h with h | h
     ·subst h
      have e:=hWR.inj b10 bt bt rbt (hle bt bt ⟨rfl,by simp⟩)
      have h1:=lt_of_heap I.h6
      omega
     ·exact h
    ·exact Nat.le_trans I.size h
   have hb:∀ v',VR R' (ptr b10) v'→v'=ptr bt:=fun v' h=>by
    obtain ⟨b',rfl,hb'⟩:=Iq h
    rw [hWR.fn _ _ _ hb' rbt]
   have hsame:∀ {b:Nat},b∈dK b4 b5 b7 c g D E→∀ v',VR R' (ptr b) v'→v'=ptr b:=fun hb v' h=>aI hfx (bJ (.ptr (List.mem_append_left _ hb))) h
   have hf:∀ v',VR R' (.func (.func 123) #[] #[ptr b10,ptr b4,ptr b5,ptr b7]) v'→v'=.func (.func 123) #[] #[ptr bt,ptr b4,ptr b5,ptr b7]:=fun v' h=>Yh h hb (hsame (by simp [dK])) (hsame (by simp [dK])) (hsame (by simp [dK]))
   have hall:GR R' (iU p s st b4 b5 b6 b7 c (.slice (some ⟨g,0,none⟩) k.sources.length cap) k.sources.length i (ptr b10) (.bool true) (.pointer (some ⟨g,i,none⟩)) (ptr t) (.func (.func 123) #[] #[ptr b10,ptr b4,ptr b5,ptr b7]) x22).toList
     (iU p s st b4 b5 b6 b7 c (.slice (some ⟨g,0,none⟩) k.sources.length cap) k.sources.length i (ptr bt) (.bool true) (.pointer (some ⟨g,i,none⟩)) (ptr t) (.func (.func 123) #[] #[ptr bt,ptr b4,ptr b5,ptr b7]) x22).toList :=
    ⟨fun v' h=>aI hfx (sf _ (by simp [iU])) h,fun v' h=>aI hfx (sf _ (by simp [iU])) h,fun v' h=>aI hfx (sf _ (by simp [iU])) h,fun v' h=>aI hfx (sf _ (by simp [iU])) h,fun v' h=>aI hfx (sf _ (by simp [iU])) h,fun v' h=>aI hfx (sf _ (by simp [iU])) h,fun v' h=>aI hfx (sf _ (by simp [iU])) h,fun v' h=>aI hfx (sf _ (by simp [iU])) h,fun v' h=>aI hfx (sf _ (by simp [iU])) h,fun v' h=>aI hfx (sf _ (by simp [iU])) h,hb,fun v' h=>aI hfx (sf _ (by simp [iU])) h,fun v' h=>aI hfx (sf _ (by simp [iU])) h,fun v' h=>aI hfx (sf _ (by simp [iU])) h,fun v' h=>aI hfx (sf _ (by simp [iU])) h,fun v' h=>aI hfx (sf _ (by simp [iU])) h,fun v' h=>aI hfx (sf _ (by simp [iU])) h,fun v' h=>aI hfx (sf _ (by simp [iU])) h,fun v' h=>aI hfx (.of_flat rfl) h,fun v' h=>aI hfx (bJ (.ptr (by simp [dK]))) h,fun v' h=>aI hfx (bJ (.ptr (by simp [dK,htD]))) h,hf,fun v' h=>aI hfx (sf _ (by simp [iU])) h,fun v' h=>aI hfx (sf _ (by simp [iU])) h,fun v' h=>aI hfx (sf _ (by simp [iU])) h,fun v' h=>aI hfx (sf _ (by simp [iU])) h,fun v' h=>aI hfx (sf _ (by simp [iU])) h,fun v' h=>aI hfx (sf _ (by simp [iU])) h,fun v' h=>aI hfx (sf _ (by simp [iU])) h,fun v' h=>aI hfx (sf _ (by simp [iU])) h,fun v' h=>aI hfx (sf _ (by simp [iU])) h,fun v' h=>aI hfx (sf _ (by simp [iU])) h,fun v' h=>aI hfx (sf _ (by simp [iU])) h,trivial⟩
   have htm:=CW hAF hall
   obtain ⟨tmps2,defers2⟩:=a2
   simp only at hdf htm
   subst hdf
   subst htm
   have I2:=I.after X hkept hfr h62
   obtain ⟨wr2,hwr2⟩:∃ wr2,(fun b=>wr1 b∨own (wX (dK b4 b5 b7 c g D E)) R' b)=wr2:=⟨_,rfl⟩
   have wbt:wr2 bt:=by rw [← hwr2];exact .inr obt
   rw [hwr2] at I2 ⊢
   clear hwr2 hkept hfr hWR hAF hle hall hf hb hsame hv10 r10 h10 h6l l10 hfx rbt nD hAF1 obt hlts hn6 hW hh1 sf hx hE
   refine tV fun w3 hr3 hh3 hc3=>?_
   have I3:=I2.rely X hr3
   have hbt:w3.heap[bt]? = some (.cells #[ptr t] 124 (0,0)):=(kY (hr3.keep bt (.inr wbt)) (by rintro rfl;have:=X.RU;omega)).trans hc'
   clear hr3 hc3
   obtain ⟨V',hV'⟩:∃ V':View,V'=fun b=>if b=bt then some (.cells #[ptr t] 124 (0,0)) else V b:=⟨_,rfl⟩
   have hVbt:V bt=none:=by
    cases hv:V bt with
    | none=>rfl
    | some o =>
     have:=(X.QE hv).2.2
     omega
   have hsub:∀ j o,V j=some o→V' j=some o:=fun j o h=>by
    subst hV'
    have:j≠bt:=by rintro rfl;rw [hVbt] at h;cases h
    simp only [this,if_false]
    exact h
   have hin:V'.In w3:=fun j o h=>by
    subst hV'
    simp only at h
    split at h
    ·rename_i e
     subst e
     cases h
     exact hbt
    ·exact I3.view X j o h
   have hwk:=SN (w:=w3) (V:=V') p k ts vv rv (X.cel.mono hsub) X.ok s X.wf X.lo X.hi st sx (Dt hsx) D (kM X.cl hsub) X.pD bt b4 b5 b7 c (by rw [ht,hV'];exact if_pos rfl) (hsub _ _ X.v4) (hsub _ _ X.v5) (hsub _ _ X.v7) I3.hc
    ⟨by omega,X.ge.1,X.ge.2.1,X.ge.2.2.2.1,X.ge.2.2.2.2.1⟩ hin hh3
   have hDc:∀ b,wX (bt :: b4 :: b5 :: b7 :: c :: D) b→b=bt∨(b < wA.heap.size∧b≠b6):=fun b hb=>by
    simp only [wX,List.mem_cons] at hb
    rcases hb with rfl | rfl | rfl | rfl | rfl | hb
    ·exact .inl rfl
    ·exact .inr ⟨(X.QE X.v4).2.2,(X.QE X.v4).1⟩
    ·exact .inr ⟨(X.QE X.v5).2.2,(X.QE X.v5).1⟩
    ·exact .inr ⟨(X.QE X.v7).2.2,(X.QE X.v7).1⟩
    ·exact .inr ⟨X.RU,Ne.symm X.WE⟩
    ·obtain ⟨cs,t',h1,_⟩:=X.cl.cells b hb
     exact .inr ⟨(X.QE h1).2.2,(X.QE h1).1⟩
   have h6bt:b6≠bt:=by have:=X.XG;omega
   refine SA rfl fun w4 hr4=>⟨_,kG Tryd.prog [{ target:=.fn (.func 123) #[ptr bt,ptr b4,ptr b5,ptr b7],args:=#[] }],_,wX (bt :: b4 :: b5 :: b7 :: c :: D),fun b=>D1 b∨b=bt,fun b=>wr2 b∧b≠bt,aJ (kX k s st sx),
    stepG_spawn (i:=1) rfl rfl (by simp [hbk]) (Xz (x:=.tmp 21) (t:=.func 123) (f:=#[]) (c:=#[ptr bt,ptr b4,ptr b5,ptr b7]) rfl rfl w4) rfl,?_,?_,?_,?_,hwk.rely (hr4.sub fun b hb=>?_),?_⟩
   ·intro e he
    unfold listed at he
    rw [show (execOp _ _).events Tryd.prog w4 #[]=#[] from rfl,seen_none] at he
    simp at he
   ·intro b hb
    rcases hDc b hb with rfl | ⟨h1,h2⟩
    ·exact .inr wbt
    ·exact .inl (I3.rd b h1 h2)
   ·rintro b ((h | rfl) | ⟨h,_⟩)
    ·exact .inl h
    ·exact .inr wbt
    ·exact .inr h
   ·rintro b ⟨h1,h2⟩
    refine ⟨h1,fun hb=>?_⟩
    rcases hDc b hb with h | ⟨h3,h4⟩
    ·exact h2 h
    ·rcases I3.low b h1 with h | h
     ·exact h4 h
     ·omega
   ·rcases hb with hb | hb
    ·rcases hDc b hb with rfl | ⟨h1,h2⟩
     ·exact .inr wbt
     ·exact .inl (I3.rd b h1 h2)
    ·exact hb.elim
   · -- behind it
    have I4:FT wA b6 c (fun b=>D1 b∨b=bt) (fun b=>wr2 b∧b≠bt) w4:=by
     have h:=I3.rely X hr4
     exact ⟨h.kept,h.size,h.os,h.out,fun b h1 h2=>.inl (h.rd b h1 h2),⟨h.w6,h6bt⟩,fun b hb=>h.low b hb.1,h.h6,h.hc⟩
    have hbt4:w4.heap[bt]? = some (.cells #[ptr t] 124 (0,0)):=(kY (hr4.keep bt (.inr wbt)) (by rintro rfl;have:=X.RU;omega)).trans hbt
    have hE4:KG wA D [bt] (fun b=>D1 b∨b=bt) (fun b=>wr2 b∧b≠bt) w4:=⟨fun b hb=>by
     simp only [List.mem_singleton] at hb
     subst hb
     exact ⟨.inr rfl,fun h=>h.2 rfl,lbt,t,htD,hbt4⟩⟩
    rw [← MQ k s st hsx]
    clear hwk hDc hin hsub hV' hVbt hbt hh3 I2 hbt4
    show oK Tryd.prog c _ _ _ (G (b.at ⟨iU p s st b4 b5 b6 b7 c (.slice (some ⟨g,0,none⟩) k.sources.length cap) k.sources.length i (ptr bt) (.bool true) (.pointer (some ⟨g,i,none⟩)) (ptr t) (.func (.func 123) #[] #[ptr bt,ptr b4,ptr b5,ptr b7]) x22,[]⟩ (TA [])) cs) w4 Q
    refine tV fun w5 hr5 hh5 hc5=>?_
    replace I4:=I4.rely X hr5
    replace hE4:=hE4.rely X hr5
    clear hr5 hc5 hr4
    have m4:b4∈dK b4 b5 b7 c g D [bt] ++ [b6]:=by simp [dK]
    have m5:b5∈dK b4 b5 b7 c g D [bt] ++ [b6]:=by simp [dK]
    have m7:b7∈dK b4 b5 b7 c g D [bt] ++ [b6]:=by simp [dK]
    have mt:bt∈dK b4 b5 b7 c g D [bt] ++ [b6]:=by simp [dK]
    have hfn:VR (iq (dK b4 b5 b7 c g D [bt] ++ [b6])) (.func (.func 123) #[] #[ptr bt,ptr b4,ptr b5,ptr b7]) (.func (.func 123) #[] #[ptr bt,ptr b4,ptr b5,ptr b7]) :=
     .base (.Ol rfl ⟨rfl,fun i v h=>⟨v,h,by simp at h⟩⟩ ⟨rfl,fun i v h=>⟨v,h,by
      have:=Array.mem_of_getElem? h
      simp only [List.mem_toArray,List.mem_cons,List.not_mem_nil,or_false] at this
      rcases this with rfl | rfl | rfl | rfl
      ·exact bJ (.ptr mt)
      ·exact bJ (.ptr m4)
      ·exact bJ (.ptr m5)
      ·exact bJ (.ptr m7)⟩⟩)
    have hx5:∀ y:Value,Sr.flat y=true→∀ v∈[ptr bt,.bool true,.pointer (some ⟨g,i,none⟩),ptr t,.func (.func 123) #[] #[ptr bt,ptr b4,ptr b5,ptr b7],y],VR (iq (dK b4 b5 b7 c g D [bt] ++ [b6])) v v:=fun y hy v hv=>by
     simp only [List.mem_cons,List.not_mem_nil,or_false] at hv
     rcases hv with rfl | rfl | rfl | rfl | rfl | rfl
     ·exact bJ (.ptr mt)
     ·exact .of_flat rfl
     ·exact bJ (.ptr (by simp [dK]))
     ·exact bJ (.ptr (by simp [dK,htD]))
     ·exact hfn
     ·exact .of_flat hy
    have hn6':=Jg X I4 hE4 hG
    refine DL (tgt:=yP) X I4 hE4 (ph6 X I4) hG hh5 (Xw []) (yG X (by simp) (hx5 x22 h22)) hbf hbk
     (S:=fun a w'=>a=⟨iU p s st b4 b5 b6 b7 c (.slice (some ⟨g,0,none⟩) k.sources.length cap) k.sources.length (i+1) (ptr bt) (.bool true) (.pointer (some ⟨g,i,none⟩)) (ptr t) (.func (.func 123) #[] #[ptr bt,ptr b4,ptr b5,ptr b7]) (.int .i64 ((i+1:Nat):Int)),[]⟩ ∧
      w'.heap[b6]? = some (.cells #[.int .i64 0,.int .i64 0] 27 (0,0))) (fun _ _ _ _ h=>h) (fun τ d=>?_) ?_
    ·refine (abm p s st b4 b5 b6 b7 c k.sources.length i _ _ _ _ _ _ x22 hlt X.n6 _ (Ny (dK b4 b5 b7 c g D [bt]) [b6] w5 τ d)).mono ?_
     rintro a w' ⟨rfl,hS⟩
     have hl6:(lv (dK b4 b5 b7 c g D [bt]) [b6] w5) b6=some (.cells #[.int .i64 0,.int .i64 0] 27 (0,0)):=by
      simp only [lv,List.mem_append,List.mem_singleton,or_true,if_true]
      rw [Ap (WW:=[]) hn6']
      exact I4.h6
     exact ⟨rfl,hS.view _ _ hl6⟩
    ·rintro R'' a' a2 wl w6 ⟨rfl,h6l⟩ hle hAF hdf hWR hkept hfr
     have hfx:=sQ hWR hle
     have htm:=CW hAF (LG (fun v hv=>yG X (by simp) (hx5 _ rfl) v (by simpa using hv)) hfx)
     obtain ⟨tmps2,defers2⟩:=a2
     simp only [Array.toArray_toList] at hdf htm
     subst hdf
     subst htm
     have h62':=zZ hWR hle (by simp) hn6' h6l
     have I5:=I4.after X hkept hfr h62'
     refine ih (i+1) (by omega) _ _ _ _ _ _ _ _ _ [bt] I5 ⟨fun e he=>?_⟩ rfl (hx5 _ rfl)
     obtain ⟨q1,q2,q3,t',q4,q5⟩:=hE4.obj e he
     refine ⟨q1,fun h=>?_,q3,t',q4,(kY (hkept.keep e (lt_of_heap q5) q1 q2) (by rintro rfl;have:=X.RU;omega)).trans q5⟩
     rcases h with h | ⟨y,hy,hny⟩
     ·exact q2 h
     ·have hm:e∈dK b4 b5 b7 c g D [bt] ++ [b6]:=by simp only [List.mem_singleton] at he;subst he;exact mt
      have:=hWR.inj y e e hy (hle e e ⟨rfl,hm⟩)
      subst this
      simp only [List.mem_singleton] at he
      subst he
      exact hny (by simp [wX,dK])
end
end Go.Proofs.YtjjmefieegcddaaDoor
