/- A part of the proof: W50, W51, W52, W53, W54, W55, W67, W68, W69, W70, W82. -/
import Derived.Test.YtjjmefieegcddaaDoorB18
import Derived.Test.YtjjmefieegcddaaDoorB16
set_option linter.unusedVariables false
set_option linter.unusedSimpArgs false
namespace Go.Proofs.YtjjmefieegcddaaDoor
open Go.RowKit Go.Wg Go.Mm Go.Wk
open Go Go.Sr Go.Ph Go.Tm Go.Conc
variable {w:World} {V:View} {DS:List Deferred}
noncomputable def N28:Code:=match NK with | .seq _ r=>r | _=>.skip
set_option maxRecDepth 20000 in
set_option maxHeartbeats 4000000 in
theorem next5a (err best least most sh:Int) (i n b14:Nat) (r:Int × Int) (hr:V.Range b14 0 [.int .i64 r.1,.int .i64 r.2]) (hr0:0≤r.2) (hr4:r.2≤40) (he0:0≤err) (he9:err≤9) (hsh:r.2+err < sh) (hi:i < n) (hn:n≤6) (hlt:most < least)
  (v6 v7 v8 v13:Value) (f:Nat→Value) (hV:V.In w) :
  Rch Tryd.prog nhead1 (fun a w'=>(∃ f,a=⟨tmN (.int .i64 err) v6 v7 v8 (.int .i64 i) (.int .i64 most) (.int .i64 i) (.int .i64 most) v13 (ptr b14) (.int .i64 sh) (.int .i64 n) (.int .i64 ((i:Int)+1)) f,DS⟩)∧Kp w w')
   nhead2 ⟨tmN (.int .i64 err) v6 v7 v8 (.int .i64 best) (.int .i64 least) (.int .i64 i) (.int .i64 most) v13 (ptr b14) (.int .i64 sh) (.int .i64 n) (.int .i64 i) f,DS⟩ w:=by
 have h0:(0:Int)≤i:=by omega
 have hsh':¬ sh≤r.2+err:=by omega
 have hd:decide (sh≤r.2+err)=false:=decide_eq_false hsh'
 have hc14:V.Cell b14 1 (.int .i64 r.2):=hr 1 _ rfl
 have hS:=St.start w V hV
 rw [show tmN (.int .i64 err) v6 v7 v8 (.int .i64 best) (.int .i64 least) (.int .i64 i) (.int .i64 most) v13 (ptr b14) (.int .i64 sh) (.int .i64 n) (.int .i64 i) f=#[f 0,.int .i64 err,f 2,f 3,f 4,f 5,v6,v7,v8,.int .i64 best,.int .i64 least,.int .i64 i,.int .i64 most,v13,.pointer (some ⟨b14,0,none⟩),.int .i64 sh,f 16,f 17,f 18,f 19,f 20,f 21,f 22,f 23,f 24,f 25,f 26,f 27,f 28,f 29,f 30,f 31,f 32,f 33,f 34,f 35,f 36,.int .i64 n,.int .i64 i,f 39,f 40,f 41,f 42,f 43,f 44,f 45,f 46,f 47,f 48,f 49,f 50,f 51,f 52,f 53,f 54,f 55,f 56,f 57,f 58,f 59,f 60,f 61,f 62,f 63,f 64,f 65,f 66,f 67,f 68,f 69,f 70,f 71,f 72,f 73,f 74,f 75,f 76,f 77,f 78,f 79,f 80,f 81,f 82,f 83,f 84,f 85,f 86,f 87,f 88,f 89,f 90,f 91,f 92,f 93,f 94,f 95,f 96,f 97,f 98,f 99,f 100,f 101,f 102,f 103,f 104,f 105] from by unfold tmN ptr;rfl]
 refine rch_seq (rch_seq (rch_code ?_))
 go_wp2_with (((with_reducible refine gL ?_);refine qv1 hS rfl rfl rfl ?_);refine ⟨_,zd,?_⟩;clear hS;(try clear w');intro a' hp;(try simp only [fr] at hp);subst hp;intro w' hS;(try simp only [sE] at hS))
 refine rch_cond (t:=false) rfl (rch_exit rfl ?_)
 refine rch_code ?_
 conv=>enter [2];whnf
 go_wp2_with (fail)
 refine rch_inBlock (rch_code ?_)
 conv=>enter [2];whnf
 go_wp2_with (fail)
 refine rch_inLoop ?_
 exact rch_here (tgt:=nhead1) ⟨tmN_of rfl,hS.toKp⟩
set_option maxRecDepth 20000 in
set_option maxHeartbeats 4000000 in
theorem next5b (err best least most sh:Int) (i n b14:Nat) (r:Int × Int) (hr:V.Range b14 0 [.int .i64 r.1,.int .i64 r.2]) (hr0:0≤r.2) (hr4:r.2≤40) (he0:0≤err) (he9:err≤9) (hsh:r.2+err < sh) (hi:i < n) (hn:n≤6) (hlt:¬ most < least)
  (v6 v7 v8 v13:Value) (f:Nat→Value) (hV:V.In w) :
  Rch Tryd.prog nhead1 (fun a w'=>(∃ f,a=⟨tmN (.int .i64 err) v6 v7 v8 (.int .i64 best) (.int .i64 least) (.int .i64 i) (.int .i64 most) v13 (ptr b14) (.int .i64 sh) (.int .i64 n) (.int .i64 ((i:Int)+1)) f,DS⟩)∧Kp w w')
   nhead2 ⟨tmN (.int .i64 err) v6 v7 v8 (.int .i64 best) (.int .i64 least) (.int .i64 i) (.int .i64 most) v13 (ptr b14) (.int .i64 sh) (.int .i64 n) (.int .i64 i) f,DS⟩ w:=by
 have h0:(0:Int)≤i:=by omega
 have hsh':¬ sh≤r.2+err:=by omega
 have hd:decide (sh≤r.2+err)=false:=decide_eq_false hsh'
 have hc14:V.Cell b14 1 (.int .i64 r.2):=hr 1 _ rfl
 have hS:=St.start w V hV
 rw [show tmN (.int .i64 err) v6 v7 v8 (.int .i64 best) (.int .i64 least) (.int .i64 i) (.int .i64 most) v13 (ptr b14) (.int .i64 sh) (.int .i64 n) (.int .i64 i) f=#[f 0,.int .i64 err,f 2,f 3,f 4,f 5,v6,v7,v8,.int .i64 best,.int .i64 least,.int .i64 i,.int .i64 most,v13,.pointer (some ⟨b14,0,none⟩),.int .i64 sh,f 16,f 17,f 18,f 19,f 20,f 21,f 22,f 23,f 24,f 25,f 26,f 27,f 28,f 29,f 30,f 31,f 32,f 33,f 34,f 35,f 36,.int .i64 n,.int .i64 i,f 39,f 40,f 41,f 42,f 43,f 44,f 45,f 46,f 47,f 48,f 49,f 50,f 51,f 52,f 53,f 54,f 55,f 56,f 57,f 58,f 59,f 60,f 61,f 62,f 63,f 64,f 65,f 66,f 67,f 68,f 69,f 70,f 71,f 72,f 73,f 74,f 75,f 76,f 77,f 78,f 79,f 80,f 81,f 82,f 83,f 84,f 85,f 86,f 87,f 88,f 89,f 90,f 91,f 92,f 93,f 94,f 95,f 96,f 97,f 98,f 99,f 100,f 101,f 102,f 103,f 104,f 105] from by unfold tmN ptr;rfl]
 refine rch_seq (rch_seq (rch_code ?_))
 go_wp2_with (((with_reducible refine gL ?_);refine qv1 hS rfl rfl rfl ?_);refine ⟨_,zd,?_⟩;clear hS;(try clear w');intro a' hp;(try simp only [fr] at hp);subst hp;intro w' hS;(try simp only [sE] at hS))
 refine rch_cond (t:=false) rfl (rch_exit rfl ?_)
 refine rch_code ?_
 conv=>enter [2];whnf
 go_wp2_with (fail)
 refine rch_inBlock (rch_code ?_)
 conv=>enter [2];whnf
 go_wp2_with (fail)
 refine rch_inLoop ?_
 exact rch_here (tgt:=nhead1) ⟨tmN_of rfl,hS.toKp⟩
set_option maxRecDepth 20000 in
set_option maxHeartbeats 4000000 in
theorem next6a {w0:World} (best least:Int) (n b6:Nat) (hn:n≤6) (hb:best < 0)
  (v1 v7 v8 v11 v12 v13 v14 v15:Value) (f:Nat→Value) (hS:St w0 [] V [.blk b6 38 [.int .i64 0]] w) :
  Rch Tryd.prog [.code .ret,.code N28] (fun a w'=>(a.tmps[4]? = some (.int .i64 0)∧a.tmps[5]? = some (.int .i64 0)∧a.tmps[6]? = some (ptr b6)∧a.defers=DS)∧St w0 [] V [.blk b6 38 [.int .i64 11]] w')
   nhead1 ⟨tmN v1 (ptr b6) v7 v8 (.int .i64 best) (.int .i64 least) v11 v12 v13 v14 v15 (.int .i64 n) (.int .i64 n) f,DS⟩ w:=by
 rw [show tmN v1 (ptr b6) v7 v8 (.int .i64 best) (.int .i64 least) v11 v12 v13 v14 v15 (.int .i64 n) (.int .i64 n) f=#[f 0,v1,f 2,f 3,f 4,f 5,.pointer (some ⟨b6,0,none⟩),v7,v8,.int .i64 best,.int .i64 least,v11,v12,v13,v14,v15,f 16,f 17,f 18,f 19,f 20,f 21,f 22,f 23,f 24,f 25,f 26,f 27,f 28,f 29,f 30,f 31,f 32,f 33,f 34,f 35,f 36,.int .i64 n,.int .i64 n,f 39,f 40,f 41,f 42,f 43,f 44,f 45,f 46,f 47,f 48,f 49,f 50,f 51,f 52,f 53,f 54,f 55,f 56,f 57,f 58,f 59,f 60,f 61,f 62,f 63,f 64,f 65,f 66,f 67,f 68,f 69,f 70,f 71,f 72,f 73,f 74,f 75,f 76,f 77,f 78,f 79,f 80,f 81,f 82,f 83,f 84,f 85,f 86,f 87,f 88,f 89,f 90,f 91,f 92,f 93,f 94,f 95,f 96,f 97,f 98,f 99,f 100,f 101,f 102,f 103,f 104,f 105] from by unfold tmN ptr;rfl]
 refine rch_seq (rch_code ?_)
 go_wp2_with (fail)
 refine rch_seq (rch_cond (t:=false) rfl (rch_exit rfl ?_))
 refine rch_seq (rch_seq (rch_code ?_))
 go_wp2_with (fail)
 refine rch_cond (t:=true) rfl (rch_seq (rch_code ?_))
 go_wp2_with (((with_reducible refine gS ?_);refine qs1 hS rfl rfl rfl ?_);refine ⟨_,zd,?_⟩;clear hS;(try clear w');intro a' hp;(try simp only [fr] at hp);subst hp;intro w' hS;(try simp only [sE] at hS))
 exact rch_here (tgt:=[.code .ret,.code N28]) ⟨⟨rfl,rfl,rfl,rfl⟩,hS⟩
set_option maxRecDepth 20000 in
set_option maxHeartbeats 4000000 in
theorem next6b {w0:World} (best least:Int) (n b6:Nat) (hn:n≤6) (hb:¬ best < 0)
  (v1 v7 v8 v11 v12 v13 v14 v15:Value) (f:Nat→Value) (hS:St w0 [] V [.blk b6 38 [.int .i64 0]] w) :
  Rch Tryd.prog [.code .ret] (fun a w'=>(a.tmps[4]? = some (.int .i64 best)∧a.tmps[5]? = some (.int .i64 least)∧a.tmps[6]? = some (ptr b6)∧a.defers=DS)∧St w0 [] V [.blk b6 38 [.int .i64 0]] w')
   nhead1 ⟨tmN v1 (ptr b6) v7 v8 (.int .i64 best) (.int .i64 least) v11 v12 v13 v14 v15 (.int .i64 n) (.int .i64 n) f,DS⟩ w:=by
 rw [show tmN v1 (ptr b6) v7 v8 (.int .i64 best) (.int .i64 least) v11 v12 v13 v14 v15 (.int .i64 n) (.int .i64 n) f=#[f 0,v1,f 2,f 3,f 4,f 5,.pointer (some ⟨b6,0,none⟩),v7,v8,.int .i64 best,.int .i64 least,v11,v12,v13,v14,v15,f 16,f 17,f 18,f 19,f 20,f 21,f 22,f 23,f 24,f 25,f 26,f 27,f 28,f 29,f 30,f 31,f 32,f 33,f 34,f 35,f 36,.int .i64 n,.int .i64 n,f 39,f 40,f 41,f 42,f 43,f 44,f 45,f 46,f 47,f 48,f 49,f 50,f 51,f 52,f 53,f 54,f 55,f 56,f 57,f 58,f 59,f 60,f 61,f 62,f 63,f 64,f 65,f 66,f 67,f 68,f 69,f 70,f 71,f 72,f 73,f 74,f 75,f 76,f 77,f 78,f 79,f 80,f 81,f 82,f 83,f 84,f 85,f 86,f 87,f 88,f 89,f 90,f 91,f 92,f 93,f 94,f 95,f 96,f 97,f 98,f 99,f 100,f 101,f 102,f 103,f 104,f 105] from by unfold tmN ptr;rfl]
 have hd:decide (best < 0)=false:=decide_eq_false hb
 refine rch_seq (rch_code ?_)
 go_wp2_with (fail)
 refine rch_seq (rch_cond (t:=false) rfl (rch_exit rfl ?_))
 refine rch_seq (rch_seq (rch_code ?_))
 go_wp2_with (fail)
 refine rch_cond (t:=false) rfl (rch_skip (rch_seq (rch_code ?_)))
 go_wp2_with (((with_reducible refine gS ?_);refine qs1 hS rfl rfl rfl ?_);refine ⟨_,zd,?_⟩;clear hS;(try clear w');intro a' hp;(try simp only [fr] at hp);subst hp;intro w' hS;(try simp only [sE] at hS))
 exact rch_here (tgt:=[.code .ret]) ⟨⟨rfl,rfl,rfl,rfl⟩,hS⟩
end Go.Proofs.YtjjmefieegcddaaDoor
namespace Go.Proofs.YtjjmefieegcddaaDoor
open Go.RowKit Go.Wg Go.Mm Go.Wk
open Go Go.Sr Go.Ph Go.Tm Go.Conc
theorem kp_re0 {w w':World} {τ:Nat→Question→Nat} {d:Nat} (h:Kp (w.re τ d) w'):Kp w w':=⟨h.os,h.output,h.size,h.old⟩
theorem kp_re1 {w w':World} (h:Kp w w') (τ:Nat→Question→Nat) (d:Nat):Kp w (w'.re τ d):=⟨h.os,h.output,h.size,h.old⟩
noncomputable def itemO (x:Item):Bool :=
 match x with
 | .code c | .inLoop c=>okCode true c
 | .inRegion ops _=>ops.all fun o=>okOp true o.op
 | .inBlock _=>true
 | _=>false
theorem itemsO_of {todo:List Item} (h:todo.all itemO=true):∀ x∈todo,ItemOk true x:=fun x hx=>by
 have:=List.all_eq_true.1 h x hx
 match x,this with
 | .code c,h=>exact h
 | .inLoop c,h=>exact h
 | .inRegion ops l,h=>exact h
 | .inBlock id,h=>trivial
section
variable {V:View} {w0 w:World} {p:Nat} {k:Wk} {D:List Nat} {b6 b8:Nat} {s:SS} {b:Frame} {cs:List Frame} {Q:Goroutine→World→Prop}
theorem okDC (b6:Nat) {a:Act} (h:a.defers=[dC b6]):∀ d∈a.defers,OkDef d:=fun d hd=>by
 rw [h] at hd
 simp only [List.mem_singleton] at hd
 subst hd
 simp [OkDef,dC]
theorem toBN {f0:FuncId} {a:Act} {todo tgt:List Item} (hbf:b.fn=f0) (hbk:b.kind=.normal) (hit:todo.all itemO=true) (hd:∀ d∈a.defers,OkDef d) (hh:HeapOk OC w)
  {S:Act→World→Prop} (hre:∀ a w τ d,S a w→S a (w.re τ d)) (hrun:∀ τ d,Rch Tryd.prog tgt S todo a (w.re τ d)) (hk:∀ a' w',S a' w'→HeapOk OC w'→ToB Tryd.prog (G (b.at a' tgt) cs) w' Q):ToB Tryd.prog (G (b.at a todo) cs) w Q :=
 toB_lone sokAll (f0:=f0) ⟨⟨itemsO_of hit,hd,.inl hbk⟩,rfl,hbk,hbf⟩ hh hre hrun fun a' w' h1 h2 _=>hk a' w' h1 h2
theorem toB_tot (hX:NX V p k D b8 s) {x:SS} (hok:k.Ok) (hx:x.WF) (hlo:∀ i,0≤(x.losAt i).1) (hhi:∀ i,(x.losAt i).2≤1000) (hV:V.In w) (hh:HeapOk OC w) (hbk:b.kind=.normal)
  {ops:Array Oper} {l:List Nat} {k0:List Item} {i d:Nat} {o:Oper} {y z:Operand} {ats:Array TypeId} {a:Act} (ho:ops[i]? = some o) (hop:o.op=.call { callee:=.value (.func 97),args:=#[y,z,.const (.bool false)],argTypes:=ats }) (hdst:o.dst=some d)
  (hw:Region.wanted o (yielded ops a.tmps)=true) (hok':okOp true o.op=true) (hy:a.eval y=ptr p) (hz:a.eval z=.agg (stC x).toArray)
  (hk:∀ w',Kp w w'→HeapOk OC w'→ToB Tryd.prog (G (b.at (a.put (some d) (spanV (totalS k x false))) (.inRegion ops l :: k0)) cs) w' Q):ToB Tryd.prog (G (b.at a (.inRegion ops (i :: l) :: k0)) cs) w Q:=by
 obtain ⟨ts,vv,rv,hC⟩:=hX.cel
 have htot:=total_B hC hok x hx hlo hhi false hX.cl hX.pD hV hh
 refine toB_op sokAll ho hw (by rw [hbk];decide) hok' hh (fun _ _ _=>trivial) fun d=>?_
 rw [run_call_body hop Tryd.func97 (by kernel_rfl) rfl]
 intro hhd
 have e:Array.map a.eval #[y,z,.const (.bool false)]=#[ptr p,.agg (stC x).toArray,.bool false]:=by
  simp only [List.map_toArray,List.map_cons,List.map_nil,hy,hz]
  rfl
 rw [e]
 have hat:∀ {Q:Goroutine→World→Prop} {g:Goroutine},ToB Tryd.prog g w Q→ToB Tryd.prog g (w.at d) Q:=fun h=>h.at
 refine hat (toB_called ho htot (fun v w1 ⟨hv,hk1⟩ hh1=>?_) fun ch w1 ⟨hv,_⟩ _=>nomatch hv)
 cases hv
 rw [hdst]
 exact hk w1 hk1 hh1
structure N1 (w0:World) (V:View) (b6:Nat) (w:World):Prop where
 kp:Kp w0 w
 vin:V.In w
 e6:w.heap[b6]? = some (.cells #[.int .i64 0] 38 (0,0))
 n6:w0.heap.size≤b6
 off:V b6=none
theorem N1.st (h:N1 w0 V b6 w):St w0 [] V [.blk b6 38 [.int .i64 0]] w :=
 ⟨h.kp.os,h.kp.output,h.kp.size,fun i hi _=>h.kp.old i hi,h.vin,fun e he=>by
  simp only [List.mem_singleton] at he
  subst he
  exact h.e6,fun e he b hb=>by
  simp only [List.mem_singleton] at he
  subst he
  cases hb
  exact .inl h.n6,fun e he b hb=>by
  simp only [List.mem_singleton] at he
  subst he
  cases hb
  exact h.off,by simp [Ent.foot]⟩
theorem N1.of_st (h:St w0 [] V [.blk b6 38 [.int .i64 0]] w):N1 w0 V b6 w :=
 ⟨h.toKp,h.view,h.has1,(h.new (.blk b6 38 [.int .i64 0]) (by simp) b6 rfl).elim id (fun h=>nomatch h),h.off _ (List.mem_cons_self ..) b6 rfl⟩
theorem N1.step {w':World} (h:N1 w0 V b6 w) (hk:Kp w w'):N1 w0 V b6 w':=⟨h.kp.trans hk,h.vin.kp hk,(hk.old b6 (lt_of_heap h.e6)).trans h.e6,h.n6,h.off⟩
theorem N1.but {w':World} {mb:Nat} (h:N1 w0 V b6 w) (hk:KpBut mb w w') (hm:w0.heap.size≤mb) (hn:mb≠b6) (hV:V mb=none):N1 w0 V b6 w' :=
 ⟨⟨hk.os.trans h.kp.os,hk.output.trans h.kp.output,Nat.le_trans h.kp.size hk.size,fun i hi=>(hk.old i (Nat.lt_of_lt_of_le hi h.kp.size) (by omega)).trans (h.kp.old i hi)⟩,
  fun j o hj=>by
   have:=h.vin j o hj
   rw [hk.old j (lt_of_heap this) (by rintro rfl;rw [hV] at hj;cases hj)]
   exact this,(hk.old b6 (lt_of_heap h.e6) (Ne.symm hn)).trans h.e6,h.n6,h.off⟩
theorem N1.more {b14:Nat} {o:Obj} (h:N1 w0 V b6 w) (hb:w.heap[b14]? = some o) (hn:b14≠b6) (hV:V b14=none) :
  ∃ V',(∀ j u,V j=some u→V' j=some u)∧V' b14=some o∧(∀ j,j≠b14→V' j=V j)∧N1 w0 V' b6 w:=by
 refine ⟨fun j=>if j=b14 then some o else V j,fun j u hj=>?_,by simp,fun j hj=>by simp [hj],⟨h.kp,fun j u hj=>?_,h.e6,h.n6,by simp [Ne.symm hn,h.off]⟩⟩
 ·have:j≠b14:=by rintro rfl;rw [hV] at hj;cases hj
  simp [this,hj]
 ·split at hj
  ·rename_i e
   subst e
   cases hj
   exact hb
  ·exact h.vin j u hj
theorem NX.mono {V':View} (h:NX V p k D b8 s) (hV:∀ j u,V j=some u→V' j=some u):NX V' p k D b8 s :=
 ⟨by obtain ⟨ts,x,y,hc⟩:=h.cel;exact ⟨ts,x,y,hc.mono hV⟩,h.gv.mono hV,closed_mono h.cl hV,h.pD,h.s8.mono hV⟩
theorem it_nhead2:nhead2.all itemO=true:=by kernel_rfl
theorem it_nmid:nmid.all itemO=true:=by kernel_rfl
theorem it_nat22 (l:List Nat):(nat22 l).all itemO=true:=(show (nat22 []).all itemO=true by kernel_rfl)
theorem it_nhead1:nhead1.all itemO=true:=by kernel_rfl
theorem it_nat8 (l:List Nat):(nat8 l).all itemO=true:=(show (nat8 []).all itemO=true by kernel_rfl)
end
end Go.Proofs.YtjjmefieegcddaaDoor
namespace Go.Proofs.YtjjmefieegcddaaDoor
open Go.RowKit Go.Wg Go.Mm Go.Wk
open Go Go.Sr Go.Ph Go.Tm Go.Conc
theorem mapS_re {w:World} {b n:Nat} {l:List Nat} (h:MapS w b n l) (τ:Nat→Question→Nat) (d:Nat):MapS (w.re τ d) b n l:=h.of_heap rfl
theorem kpb_re0 {w w':World} {b:Nat} {τ:Nat→Question→Nat} {d:Nat} (h:KpBut b (w.re τ d) w'):KpBut b w w':=⟨h.os,h.output,h.size,h.old⟩
theorem kpb_re1 {w w':World} {b:Nat} (h:KpBut b w w') (τ:Nat→Question→Nat) (d:Nat):KpBut b w (w'.re τ d):=⟨h.os,h.output,h.size,h.old⟩
section
variable {V:View} {w0 w:World} {p:Nat} {k:Wk} {D:List Nat} {b6 b8:Nat} {s:SS} {b:Frame} {cs:List Frame} {Q:Goroutine→World→Prop}
structure N2 (w0:World) (V:View) (b6 b14 mb c:Nat) (r:Int × Int) (l:List Nat) (w:World):Prop where
 n:N1 w0 V b6 w
 r:V.Range b14 0 [.int .i64 r.1,.int .i64 r.2]
 m:∃ cnt,cnt≤c∧MapS w mb cnt l
 lm:w0.heap.size≤mb
 vm:V mb=none
 m6:mb≠b6
set_option maxHeartbeats 2000000 in
theorem inner (hX:NX V p k D b8 s) (hok:k.Ok) (hs:s.WF) (hlo:∀ i,0≤(s.losAt i).1) (hhi:∀ i,(s.losAt i).2≤1000) (err:Int) (he0:0≤err) (he9:err≤9) (i:Nat) (hi:i < k.n) (b14 mb:Nat) (hbf:b.fn=43) (hbk:b.kind=.normal) (v9 v10:Value)
  (hend:∀ w f sh,N1 w0 V b6 w→V.Range b14 0 [.int .i64 (weightS k s i).1,.int .i64 (weightS k s i).2]→(weightS k s i).2+err < sh→HeapOk OC w →
   ToB Tryd.prog (G (b.at ⟨tmN (.int .i64 err) (ptr b6) (ptr p) (ptr b8) v9 v10 (.int .i64 i) (.int .i64 (nxMost k s i err)) (.map (some mb)) (ptr b14) (.int .i64 sh) (.int .i64 k.n) (.int .i64 i) f,[dC b6]⟩ nhead2) cs) w Q) :
  ∀ (m c:Nat),c+m=nxCnt (weightS k s i) err→∀ w f,N2 w0 V b6 b14 mb c (weightS k s i) (nxTo k s i err ((weightS k s i).1 - err) c).1 w→HeapOk OC w →
   ToB Tryd.prog (G (b.at ⟨tmN (.int .i64 err) (ptr b6) (ptr p) (ptr b8) v9 v10 (.int .i64 i) (.int .i64 (nxTo k s i err ((weightS k s i).1 - err) c).2) (.map (some mb)) (ptr b14) (.int .i64 ((weightS k s i).1 - err+c)) (.int .i64 k.n) (.int .i64 i) f,[dC b6]⟩ nhead2) cs) w Q:=by
 have hn6:k.n≤6:=hok.le
 obtain ⟨q1,q2,q3,q4⟩:=weightTo_bd k s i 41 (Nat.le_refl _)
 rw [show weightTo k s i 41=weightS k s i from rfl] at q1 q2 q3 q4
 have hM:nxMost k s i err=(nxTo k s i err ((weightS k s i).1 - err) (nxCnt (weightS k s i) err)).2:=rfl
 have hNx:∀ c:Nat,nxTo k s i err ((weightS k s i).1 - err) (c+1)=nxStep k s i err (nxTo k s i err ((weightS k s i).1 - err) c) ((weightS k s i).1 - err+c):=fun c=>rfl
 rw [hM] at hend
 clear hM
 have hCnt:nxCnt (weightS k s i) err=((weightS k s i).2+err - ((weightS k s i).1 - err)+1).toNat:=rfl
 generalize weightS k s i=r at *
 intro m
 induction m with
 | zero =>
  intro c hc w f hN hh
  obtain rfl:c=nxCnt r err:=by omega
  refine hend w f _ hN.n hN.r ?_ hh
  rw [hCnt]
  omega
 | succ m ih =>
  intro c hc w f hN hh
  have hsh0:-9≤r.1 - err+(c:Int):=by omega
  have hsh:r.1 - err+(c:Int)≤r.2+err:=by omega
  have hnx:=hNx c
  obtain ⟨st,hst⟩:∃ st,nxTo k s i err (r.1 - err) c=st:=⟨_,rfl⟩
  rw [hst] at hN hnx ⊢
  generalize he1:r.1 - err+(c:Int)=sh at *
  have he2:r.1 - err+((c+1:Nat):Int)=sh+1:=by omega
  have hx:(s.setLim i (nxLim s i err sh)).WF:=hs.setLim (Nat.lt_of_le_of_lt Nat.and_le_right (spanB_lt _ _))
  have hxl:(s.setLim i (nxLim s i err sh)).limAt i=nxLim s i err sh:=by
   unfold SS.setLim SS.limAt
   have:i < s.lim.length:=by rw [hs.lim];omega
   simp [List.getD_eq_getElem?_getD,this]
  refine toBN (tgt:=nmid) hbf hbk it_nhead2 (okDC b6 rfl) hh (S:=fun a w'=>∃ b16,((∃ f,a=⟨tmN (.int .i64 err) (ptr b6) (ptr p) (ptr b8) v9 v10 (.int .i64 i) (.int .i64 st.2) (.map (some mb)) (ptr b14) (.int .i64 sh) (.int .i64 k.n) (.int .i64 i) f,[dC b6]⟩)∧a.tmps[16]? = some (ptr b16))∧St w [] V [.blk b16 100 (stC (s.setLim i (nxLim s i err sh)))] w')
   (fun a w' τ d ⟨b16,h1,h2⟩=>⟨b16,h1,h2.re1 τ d⟩) (fun τ d=>?_) ?_
  ·refine (next3a (w:=w.re τ d) hX hs err he0 he9 i hi mb b14 r hN.r q3 q4 sh hsh0 hsh (ptr b6) v9 v10 (.int .i64 st.2) (.int .i64 k.n) (.int .i64 i) f hN.n.vin).mono ?_
   rintro a w' ⟨b16,h1,h2⟩
   exact ⟨b16,h1,h2.re0⟩
  ·rintro a w1 ⟨b16,⟨⟨f1,rfl⟩,h16⟩,hS1⟩ hh1
   have hf16:f1 16=ptr b16:=Option.some.inj h16
   have hkp1:=hS1.toKp
   have hN1:=hN.n.step hkp1
   have hb16:=hS1.has1 (b:=b16)
   have hl16:w.heap.size≤b16:=(hS1.new (.blk b16 100 (stC (s.setLim i (nxLim s i err sh)))) (by simp) b16 rfl).elim id (fun h=>nomatch h)
   have h16b6:b16≠b6:=by
    have:=lt_of_heap hN.n.e6
    omega
   obtain ⟨cnt,hcnt,hmap⟩:=hN.m
   have hmap1:MapS w1 mb cnt st.1:=hmap.of_heap (hkp1.old mb hmap.lt)
   have h16m:b16≠mb:=by
    have:=hmap.lt
    omega
   obtain ⟨V',hVV,hV16,hVo,hN2⟩:=hN1.more hb16 h16b6 (hS1.off _ (List.mem_cons_self ..) b16 rfl)
   have hX':=hX.mono hVV
   have hr16:V'.Range b16 0 (stC (s.setLim i (nxLim s i err sh))):=fun j v hj=>⟨_,_,_,hV16,by rw [Nat.zero_add];simpa using hj⟩
   have hV'm:V' mb=none:=(hVo mb (Ne.symm h16m)).trans hN.vm
   have back:∀ {w2:World} {l2:List Nat} {n2:Nat},n2≤c+1→MapS w2 mb n2 l2→N1 w0 V' b6 w2→N2 w0 V b6 b14 mb (c+1) r l2 w2:=fun h1 h2 h3 =>
    ⟨⟨h3.kp,fun j u hj=>h3.vin j u (hVV j u hj),h3.e6,h3.n6,hN.n.off⟩,hN.r,⟨_,h1,h2⟩,hN.lm,hN.vm,hN.m6⟩
   have ihc:=ih (c+1) (by omega)
   rw [hnx,he2] at ihc
   have hcase:nxStep k s i err st sh=if st.1.contains (nxLim s i err sh) || !can k (s.setLim i (nxLim s i err sh)) then st else (nxLim s i err sh :: st.1,max st.2 (sizeS (totalS k (s.setLim i (nxLim s i err sh)) false))):=rfl
   cases hmet:st.1.contains (nxLim s i err sh) with
   | true =>
    rw [hmet] at hcase
    simp only [Bool.true_or,if_true] at hcase
    rw [hcase] at ihc
    refine toBN (tgt:=nhead2) hbf hbk it_nmid (okDC b6 rfl) hh1 (S:=fun a w'=>(∃ f,a=⟨tmN (.int .i64 err) (ptr b6) (ptr p) (ptr b8) v9 v10 (.int .i64 i) (.int .i64 st.2) (.map (some mb)) (ptr b14) (.int .i64 (sh+1)) (.int .i64 k.n) (.int .i64 i) f,[dC b6]⟩)∧Kp w1 w')
     (fun a w' τ d h=>⟨h.1,kp_re1 h.2 τ d⟩) (fun τ d=>?_) ?_
    ·refine (next3met (w:=w1.re τ d) hX' hx err i hi mb b14 b16 cnt st.1 (mapS_re hmap1 τ d) hr16 sh hsh0 (by omega) _ _ _ _ _ _ f1 hf16 hN2.vin (by rw [hxl];exact hmet)).mono ?_
     rintro a w' ⟨h1,h2⟩
     exact ⟨h1,kp_re0 h2⟩
    ·rintro a w2 ⟨⟨f2,rfl⟩,hk2⟩ hh2
     exact ihc w2 f2 (back (by omega) (hmap1.of_heap (hk2.old mb hmap1.lt)) (hN2.step hk2)) hh2
   | false =>
    cases hcan:can k (s.setLim i (nxLim s i err sh)) with
    | false =>
     rw [hmet,hcan] at hcase
     simp only [Bool.false_or,Bool.not_false,if_true] at hcase
     rw [hcase] at ihc
     refine toBN (tgt:=nhead2) hbf hbk it_nmid (okDC b6 rfl) hh1 (S:=fun a w'=>(∃ f,a=⟨tmN (.int .i64 err) (ptr b6) (ptr p) (ptr b8) v9 v10 (.int .i64 i) (.int .i64 st.2) (.map (some mb)) (ptr b14) (.int .i64 (sh+1)) (.int .i64 k.n) (.int .i64 i) f,[dC b6]⟩)∧Kp w1 w')
      (fun a w' τ d h=>⟨h.1,kp_re1 h.2 τ d⟩) (fun τ d=>?_) ?_
     ·refine (next3no (w:=w1.re τ d) hX' hx err i hi mb b14 b16 cnt st.1 (mapS_re hmap1 τ d) hr16 sh hsh0 (by omega) _ _ _ _ _ _ f1 hf16 hN2.vin (by rw [hxl];exact hmet) hcan).mono ?_
      rintro a w' ⟨h1,h2⟩
      exact ⟨h1,kp_re0 h2⟩
     ·rintro a w2 ⟨⟨f2,rfl⟩,hk2⟩ hh2
      exact ihc w2 f2 (back (by omega) (hmap1.of_heap (hk2.old mb hmap1.lt)) (hN2.step hk2)) hh2
    | true =>
     rw [hmet,hcan] at hcase
     simp only [Bool.false_or,Bool.not_true,Bool.false_eq_true,if_false] at hcase
     rw [hcase] at ihc
     simp only at ihc
     have hcb:cnt < 1000000:=by omega
     refine toBN (tgt:=nat22 [3,4,5,6]) hbf hbk it_nmid (okDC b6 rfl) hh1 (S:=fun a w'=>((∃ f,a=⟨tmN (.int .i64 err) (ptr b6) (ptr p) (ptr b8) v9 v10 (.int .i64 i) (.int .i64 st.2) (.map (some mb)) (ptr b14) (.int .i64 sh) (.int .i64 k.n) (.int .i64 i) f,[dC b6]⟩) ∧
       a.tmps[90]? = some (.int .i64 st.2)∧a.tmps[91]? = some (ptr p)∧a.tmps[92]? = some (.agg (stC (s.setLim i (nxLim s i err sh))).toArray))∧MapS w' mb (cnt+1) ((s.setLim i (nxLim s i err sh)).limAt i :: st.1)∧KpBut mb w1 w')
      (fun a w' τ d h=>⟨h.1,mapS_re h.2.1 τ d,kpb_re1 h.2.2 τ d⟩) (fun τ d=>?_) ?_
     ·refine (next3yes (w:=w1.re τ d) hX' hx err i hi mb b14 b16 cnt st.1 (mapS_re hmap1 τ d) hr16 sh hsh0 (by omega) _ _ _ _ _ _ f1 hf16 hN2.vin (by rw [hxl];exact hmet) hcan hcb hV'm).mono ?_
      rintro a w' ⟨h1,h2,h3⟩
      exact ⟨h1,h2,kpb_re0 h3⟩
     ·rintro a w2 ⟨⟨⟨f2,rfl⟩,h90,h91,h92⟩,hm2,hk2⟩ hh2
      rw [hxl] at hm2
      have hN3:=hN2.but hk2 hN.lm hN.m6 hV'm
      have e91:f2 91=ptr p:=Option.some.inj h91
      have e92:f2 92=.agg (stC (s.setLim i (nxLim s i err sh))).toArray:=Option.some.inj h92
      have e90:f2 90=.int .i64 st.2:=Option.some.inj h90
      refine toB_tot hX' hok hx hlo hhi hN3.vin hh2 hbk (o:=ops22[3]!) (y:=.tmp 91) (z:=.tmp 92) (d:=93) rfl rfl rfl rfl rfl e91 e92 fun w3 hk3 hh3=>?_
      have hN4:=hN3.step hk3
      have hb:=totalS_bd k hn6 (s.setLim i (nxLim s i err sh)) false hlo
      obtain ⟨tt,htt⟩:∃ tt,totalS k (s.setLim i (nxLim s i err sh)) false=tt:=⟨_,rfl⟩
      rw [htt] at hb ihc ⊢
      have eA:(Act.put ⟨tmN (.int .i64 err) (ptr b6) (ptr p) (ptr b8) v9 v10 (.int .i64 i) (.int .i64 st.2) (.map (some mb)) (ptr b14) (.int .i64 sh) (.int .i64 k.n) (.int .i64 i) f2,[dC b6]⟩ (some 93) (spanV tt)) =
        ⟨tmN (.int .i64 err) (ptr b6) (ptr p) (ptr b8) v9 v10 (.int .i64 i) (.int .i64 st.2) (.map (some mb)) (ptr b14) (.int .i64 sh) (.int .i64 k.n) (.int .i64 i) (fun j=>if j=93 then spanV tt else f2 j),[dC b6]⟩:=rfl
      rw [eA]
      refine toBN (tgt:=nhead2) hbf hbk (it_nat22 [4,5,6]) (okDC b6 rfl) hh3 (S:=fun a w'=>(∃ f,a=⟨tmN (.int .i64 err) (ptr b6) (ptr p) (ptr b8) v9 v10 (.int .i64 i) (.int .i64 (max st.2 (sizeS tt))) (.map (some mb)) (ptr b14) (.int .i64 (sh+1)) (.int .i64 k.n) (.int .i64 i) f,[dC b6]⟩)∧Kp w3 w')
       (fun a w' τ d h=>⟨h.1,kp_re1 h.2 τ d⟩) (fun τ d=>?_) ?_
      ·refine (next4 (w:=w3.re τ d) st.2 sh hsh0 (by omega) _ _ _ _ _ _ _ _ _ _ _ (fun j=>if j=93 then spanV tt else f2 j) tt (hb.mono (by omega)) (by simp) (by simp [e90]) hN4.vin).mono ?_
       rintro a w' ⟨h1,h2⟩
       exact ⟨h1,kp_re0 h2⟩
      ·rintro a w4 ⟨⟨f4,rfl⟩,hk4⟩ hh4
       have hm3:=hm2.of_heap (hk3.old mb hm2.lt)
       exact ihc w4 f4 (back (by omega) (hm3.of_heap (hk4.old mb hm3.lt)) (hN4.step hk4)) hh4
end
end Go.Proofs.YtjjmefieegcddaaDoor
namespace Go.Proofs.YtjjmefieegcddaaDoor
open Go.RowKit Go.Wg Go.Mm Go.Wk
open Go Go.Sr Go.Ph Go.Tm Go.Conc
section
variable {V:View} {w0 w:World} {p:Nat} {k:Wk} {D:List Nat} {b6 b8:Nat} {s:SS} {b:Frame} {cs:List Frame} {Q:Goroutine→World→Prop}
set_option maxHeartbeats 2000000 in
theorem outer (hX:NX V p k D b8 s) (hok:k.Ok) (hs:s.WF) (hlo:∀ i,0≤(s.losAt i).1) (hhi:∀ i,(s.losAt i).2≤1000) (err:Int) (he0:0≤err) (he9:err≤9) (hbf:b.fn=43) (hbk:b.kind=.normal)
  (hend:∀ w f v11 v12 v13 v14 v15,N1 w0 V b6 w→HeapOk OC w→ToB Tryd.prog (G (b.at ⟨tmN (.int .i64 err) (ptr b6) (ptr p) (ptr b8) (.int .i64 (nxBest k s err k.n).1) (.int .i64 (nxBest k s err k.n).2) v11 v12 v13 v14 v15 (.int .i64 k.n) (.int .i64 k.n) f,[dC b6]⟩ nhead1) cs) w Q) :
  ∀ (m i:Nat),i+m=k.n→∀ w f v11 v12 v13 v14 v15,N1 w0 V b6 w→HeapOk OC w →
   ToB Tryd.prog (G (b.at ⟨tmN (.int .i64 err) (ptr b6) (ptr p) (ptr b8) (.int .i64 (nxBest k s err i).1) (.int .i64 (nxBest k s err i).2) v11 v12 v13 v14 v15 (.int .i64 k.n) (.int .i64 i) f,[dC b6]⟩ nhead1) cs) w Q:=by
 have hn6:k.n≤6:=hok.le
 intro m
 induction m with
 | zero =>
  intro i hi w f v11 v12 v13 v14 v15 hN hh
  obtain rfl:i=k.n:=by omega
  exact hend w f v11 v12 v13 v14 v15 hN hh
 | succ m ih =>
  intro i hi w f v11 v12 v13 v14 v15 hN hh
  have hlt:i < k.n:=by omega
  have hwb:=weightTo_bd k s i 41 (Nat.le_refl _)
  rw [show weightTo k s i 41=weightS k s i from rfl] at hwb
  have ihc:=ih (i+1) (by omega)
  have hB:nxBest k s err (i+1)=if nxMost k s i err < (nxBest k s err i).2 then ((i:Int),nxMost k s i err) else nxBest k s err i:=rfl
  refine toBN (tgt:=nhead2) hbf hbk it_nhead1 (okDC b6 rfl) hh (S:=fun a w'=>∃ mb b14,(∃ f,a=⟨tmN (.int .i64 err) (ptr b6) (ptr p) (ptr b8) (.int .i64 (nxBest k s err i).1) (.int .i64 (nxBest k s err i).2) (.int .i64 i) (.int .i64 0) (.map (some mb)) (ptr b14) (.int .i64 ((weightS k s i).1 - err)) (.int .i64 k.n) (.int .i64 i) f,[dC b6]⟩) ∧
    Kp w w'∧MapS w' mb 0 []∧w.heap.size≤mb∧w.heap.size≤b14∧w'.heap[b14]? = some (.cells #[.int .i64 (weightS k s i).1,.int .i64 (weightS k s i).2] 27 (0,0)))
   (fun a w' τ d ⟨mb,b14,h1,h2,h3,h4⟩=>⟨mb,b14,h1,kp_re1 h2 τ d,mapS_re h3 τ d,h4⟩) (fun τ d=>?_) ?_
  ·refine (next2 (w:=w.re τ d) hX hs err he0 he9 i hlt (ptr b6) _ _ v11 v12 v13 v14 v15 f hN.vin).mono ?_
   rintro a w' ⟨mb,b14,h1,h2,h3,h4⟩
   exact ⟨mb,b14,h1,kp_re0 h2,h3,h4⟩
  ·rintro a w1 ⟨mb,b14,⟨f1,rfl⟩,hk1,hm1,lm,l14,h14⟩ hh1
   have hN1:=hN.step hk1
   have h6lt:=lt_of_heap hN.e6
   have hVn:∀ {j:Nat},w.heap.size≤j→V j=none:=fun {j} hj=>by
    cases hv:V j with
    | none=>rfl
    | some o =>
     have:=lt_of_heap (hN.vin j o hv)
     omega
   have hne:mb≠b14:=by
    rintro rfl
    obtain ⟨es,cl,ho⟩:=hm1.obj
    rw [h14] at ho
    cases ho
   obtain ⟨V2,hVV,hV14,hVo,hN2⟩:=hN1.more h14 (by omega) (hVn l14)
   have hr14:V2.Range b14 0 [.int .i64 (weightS k s i).1,.int .i64 (weightS k s i).2]:=fun j v hj=>⟨_,_,_,hV14,by rw [Nat.zero_add];simpa using hj⟩
   have hin:=inner (b:=b) (cs:=cs) (Q:=Q) (w0:=w0) (b6:=b6) (hX.mono hVV) hok hs hlo hhi err he0 he9 i hlt b14 mb hbf hbk (.int .i64 (nxBest k s err i).1) (.int .i64 (nxBest k s err i).2) (fun w2 f2 sh hN3 hr3 hsh hh2=>?_) (nxCnt (weightS k s i) err) 0 (by omega) w1 f1
    ⟨hN2,hr14,⟨0,Nat.le_refl _,hm1⟩,Nat.le_trans hN.kp.size lm,(hVo mb hne).trans (hVn lm),by omega⟩ hh1
   ·have e0:(weightS k s i).1 - err+((0:Nat):Int)=(weightS k s i).1 - err:=by omega
    rw [e0] at hin
    exact hin
   ·have hback:N1 w0 V b6 w2→N1 w0 V b6 w2:=id
    have hN4:N1 w0 V b6 w2:=⟨hN3.kp,fun j u hj=>hN3.vin j u (hVV j u hj),hN3.e6,hN3.n6,hN.off⟩
    by_cases hlt':nxMost k s i err < (nxBest k s err i).2
    ·rw [if_pos hlt'] at hB
     rw [hB] at ihc
     refine toBN (tgt:=nhead1) hbf hbk it_nhead2 (okDC b6 rfl) hh2 (S:=fun a w'=>(∃ f,a=⟨tmN (.int .i64 err) (ptr b6) (ptr p) (ptr b8) (.int .i64 i) (.int .i64 (nxMost k s i err)) (.int .i64 i) (.int .i64 (nxMost k s i err)) (.map (some mb)) (ptr b14) (.int .i64 sh) (.int .i64 k.n) (.int .i64 ((i:Int)+1)) f,[dC b6]⟩)∧Kp w2 w')
      (fun a w' τ d h=>⟨h.1,kp_re1 h.2 τ d⟩) (fun τ d=>?_) ?_
     ·refine (next5a (w:=w2.re τ d) err _ _ _ sh i k.n b14 _ hr3 hwb.2.2.1 hwb.2.2.2 he0 he9 hsh hlt hn6 hlt' _ _ _ _ f2 hN3.vin).mono ?_
      rintro a w' ⟨h1,h2⟩
      exact ⟨h1,kp_re0 h2⟩
     ·rintro a w3 ⟨⟨f3,rfl⟩,hk3⟩ hh3
      exact ihc w3 f3 _ _ _ _ _ (hN4.step hk3) hh3
    ·rw [if_neg hlt'] at hB
     rw [hB] at ihc
     refine toBN (tgt:=nhead1) hbf hbk it_nhead2 (okDC b6 rfl) hh2 (S:=fun a w'=>(∃ f,a=⟨tmN (.int .i64 err) (ptr b6) (ptr p) (ptr b8) (.int .i64 (nxBest k s err i).1) (.int .i64 (nxBest k s err i).2) (.int .i64 i) (.int .i64 (nxMost k s i err)) (.map (some mb)) (ptr b14) (.int .i64 sh) (.int .i64 k.n) (.int .i64 ((i:Int)+1)) f,[dC b6]⟩)∧Kp w2 w')
      (fun a w' τ d h=>⟨h.1,kp_re1 h.2 τ d⟩) (fun τ d=>?_) ?_
     ·refine (next5b (w:=w2.re τ d) err _ _ _ sh i k.n b14 _ hr3 hwb.2.2.1 hwb.2.2.2 he0 he9 hsh hlt hn6 hlt' _ _ _ _ f2 hN3.vin).mono ?_
      rintro a w' ⟨h1,h2⟩
      exact ⟨h1,kp_re0 h2⟩
     ·rintro a w3 ⟨⟨f3,rfl⟩,hk3⟩ hh3
      exact ihc w3 f3 _ _ _ _ _ (hN4.step hk3) hh3
theorem next_ret {a:Act} {x y e:Int} {k0:List Item} (hk0:k0.all itemO=true) (hbf:b.fn=43) (hbk:b.kind=.normal) (hh:HeapOk OC w) (h4:a.tmps[4]? = some (.int .i64 x)) (h5:a.tmps[5]? = some (.int .i64 y)) (h6:a.tmps[6]? = some (ptr b6)) (hd:a.defers=[dC b6])
  (hS:St w0 [] V [.blk b6 38 [.int .i64 e]] w) :
  ToB Tryd.prog (G (b.at a (.code .ret :: k0)) cs) w (fun a' w'=>∃ e' fr,a'=G fr cs∧(e'=.returned (.tuple #[.int .i64 x,.int .i64 y,.int .i64 e])∧Kp w0 w')∧fr.fn=43∧fr.leaving Tryd.prog w' e'∧e'≠.outgrown∧HeapOk OC w'):=by
 obtain ⟨tm,df⟩:=a
 simp only at h4 h5 h6 hd
 subst hd
 refine toB_ret ?_
 refine toB_leavesP (fr:={ b.at ⟨tm,[dC b6]⟩ (.code .ret :: k0) with mode:=.returning }) (R:=fun e' w'=>e'=.returned (.tuple #[.int .i64 x,.int .i64 y,.int .i64 e])∧Kp w0 w') sokAll ins_kp (fun w h=>nomatch h.1) (fn:=Tryd.f43) ⟨⟨fun z hz=>?_,okDC b6 (a:=⟨tm,[dC b6]⟩) rfl,.inl hbk⟩,rfl,hbk,hbf⟩ Tryd.func43 hh rfl (fun τ d=>?_) cs
 ·rcases List.mem_cons.1 (show z∈Item.code .ret :: k0 from hz) with rfl | hz
  ·exact (show okCode true .ret=true from rfl)
  ·exact itemsO_of hk0 z hz
 ·have g:∀ {j:Nat} {v:Value},tm[j]? = some v→tm.getD j undef=v:=fun h=>by
   rw [Array.getD_eq_getD_getElem?,h]
   rfl
  exact door_idle (R:=fun e' w'=>e'=.returned (.tuple #[.int .i64 x,.int .i64 y,.int .i64 e])∧Kp w0 w') (hS.re1 τ d) fun w3 hS3=>⟨_,results3 (r1:=.tmp 4) (r2:=.tmp 5) (r3:=.cell 6 38) (by kernel_rfl) (res_tmp (g h4)) (res_tmp (g h5)) (res_cell1 hS3 0 (g h6) rfl (by kernel_rfl) rfl),rfl,hS3.toKp⟩
end
end Go.Proofs.YtjjmefieegcddaaDoor
namespace Go.Proofs.YtjjmefieegcddaaDoor
open Go.RowKit Go.Wg Go.Mm Go.Wk
open Go Go.Sr Go.Ph Go.Tm Go.Conc
variable {w:World} {V:View}
set_option maxRecDepth 20000 in
set_option maxHeartbeats 4000000 in
theorem Next_bad (vv rv:Value) (k:Wk) (hk:WkIn V vv rv k) (hG:GV V) (hV:V.In w) (err:Int) (hbs:¬ (beginE k []=0∧outB err 0 9=false∧Go.Wg.settle k (nowS k noneB)=none)) :
  Calls Tryd.prog 43 #[.agg #[vv,rv],.int .i64 err] w fun r w'=>r=.returned (.tuple #[.int .i64 (nextE k err).1.1,.int .i64 (nextE k err).1.2,.int .i64 (nextE k err).2])∧Kp w w':=by
 have hk0:=hk
 obtain ⟨va,vcap,rfl,hvc,hvm,hve⟩:=hk0.ves.is
 obtain ⟨ra,rcap,rfl,hrc,hrm,hre⟩:=hk0.rdg.is
 have hS:=St.start w V hV
 clear hk0 hve hre
 by_cases hb:beginE k []=0
 ·have hok:=beginE_check hb
  cases ho:outB err 0 9 with
  | true =>
   have hC:nextE k err=((0,0),1):=by
    unfold nextE
    rw [if_neg (by simp [hb]),ho]
    rfl
   rw [hC]
   simp only
   replace hC:=mkHid hC;replace hb:=mkHid hb
   clear hbs
   go_enter_defers Tryd.func43,Tryd.ntmps43
   go_wp2_with (first | (first | ((first | ((with_reducible refine gL ?_);first | refine ql1 hS rfl rfl rfl ?_ | refine qln hS rfl rfl rfl ?_) | ((with_reducible refine gS ?_);refine qs1 hS rfl rfl rfl ?_));refine ⟨_,zd,?_⟩;clear hS;(try clear w');intro a' hp;(try simp only [fr] at hp);subst hp;intro w' hS;(try simp only [sE] at hS)) | ((with_reducible refine gA ?_);refine qallocd 6 rfl hS rfl rfl ?_;clear hS;(try clear w');intro b6;intro a' hp;(try simp only [fr] at hp);subst hp;intro w' hS) | (((with_reducible refine gB ?_);refine qbox hS rfl rfl rfl ?_;refine ⟨_,za,?_⟩);clear hS;(try clear w');intro _;intro a' hp;(try simp only [fr] at hp);subst hp;intro w' hS)) |
    (go_at_call 77;refine calls_begin hS hk nilSl (by simp) hb.out ?_;clear hS;(try clear w');intro p V' w' hVV hcel hS;have hG':GV V':=hG.mono hVV) |
    (go_at_call 88;refine calls_by hS ⟨_,outside_ok' _ _ _ _,?_⟩;rw [ho];clear hS;(try clear w');intro w' hS))
   (refine door_idle hS ?_;clear hS;(try clear w');intro w' hS;(try simp only [sE] at hS);refine ⟨_,by exact results3 (r1:=.tmp 4) (r2:=.tmp 5) (r3:=.cell 6 38) (by kernel_rfl) (by exact rs_tmp rfl) (by exact rs_tmp rfl) (by exact rs_1 hS rfl zd),?_⟩)
   exact ⟨rfl,hS.toKp⟩
  | false =>
   cases hst:Go.Wg.settle k (nowS k noneB) with
   | none=>exact (hbs ⟨hb,ho,hst⟩).elim
   | some i =>
    have hC:nextE k err=((0,0),9):=by
     unfold nextE
     rw [if_neg (by simp [hb]),ho,hst]
     rfl
    rw [hC]
    simp only
    replace hC:=mkHid hC;replace hst:=mkHid hst;replace hb:=mkHid hb
    clear hbs
    go_enter_defers Tryd.func43,Tryd.ntmps43
    go_wp2_with (first | (first | ((first | ((with_reducible refine gL ?_);first | refine ql1 hS rfl rfl rfl ?_ | refine qln hS rfl rfl rfl ?_) | ((with_reducible refine gS ?_);refine qs1 hS rfl rfl rfl ?_));refine ⟨_,zd,?_⟩;clear hS;(try clear w');intro a' hp;(try simp only [fr] at hp);subst hp;intro w' hS;(try simp only [sE] at hS)) | ((with_reducible refine gA ?_);refine qallocd 6 rfl hS rfl rfl ?_;clear hS;(try clear w');intro b6;intro a' hp;(try simp only [fr] at hp);subst hp;intro w' hS) | (((with_reducible refine gB ?_);refine qbox hS rfl rfl rfl ?_;refine ⟨_,za,?_⟩);clear hS;(try clear w');intro _;intro a' hp;(try simp only [fr] at hp);subst hp;intro w' hS)) |
     (go_at_call 77;refine calls_begin hS hk nilSl (by simp) hb.out ?_;clear hS;(try clear w');intro p V' w' hVV hcel hS;have hG':GV V':=hG.mono hVV) |
     (go_at_call 88;refine calls_by hS ⟨_,outside_ok' _ _ _ _,?_⟩;rw [ho];clear hS;(try clear w');intro w' hS) |
     (go_at_call 83;refine calls_panic hS (must_no V' p k hcel hok i hst.out _ (St.view hS)) ?_;clear hS;(try clear w');intro w' hS))
    (refine door_hit hS ?_;clear hS;(try clear w');intro w' hS;(try simp only [sE] at hS);refine ⟨_,by exact results3 (r1:=.tmp 4) (r2:=.tmp 5) (r3:=.cell 6 38) (by kernel_rfl) (by exact rs_tmp rfl) (by exact rs_tmp rfl) (by exact rs_1 hS rfl zd),?_⟩)
    exact ⟨rfl,hS.toKp⟩
 ·clear hbs
  have hC:nextE k err=((0,0),beginE k []):=by unfold nextE;rw [if_pos hb]
  rw [hC]
  simp only
  have hb':(beginE k [] == 0)=false:=by rw [beq_eq_false_iff_ne];exact hb
  have hE:Go.RowKit.Hid (∃ e,beginE k []=e):=mkHid ⟨_,rfl⟩
  obtain ⟨e,he⟩:=hE.out
  rw [he] at hb' ⊢
  replace hC:=mkHid hC;replace he:=mkHid he
  go_enter_defers Tryd.func43,Tryd.ntmps43
  go_wp2_with (first | (first | ((first | ((with_reducible refine gL ?_);first | refine ql1 hS rfl rfl rfl ?_ | refine qln hS rfl rfl rfl ?_) | ((with_reducible refine gS ?_);refine qs1 hS rfl rfl rfl ?_));refine ⟨_,zd,?_⟩;clear hS;(try clear w');intro a' hp;(try simp only [fr] at hp);subst hp;intro w' hS;(try simp only [sE] at hS)) | ((with_reducible refine gA ?_);refine qallocd 6 rfl hS rfl rfl ?_;clear hS;(try clear w');intro b6;intro a' hp;(try simp only [fr] at hp);subst hp;intro w' hS) | (((with_reducible refine gB ?_);refine qbox hS rfl rfl rfl ?_;refine ⟨_,za,?_⟩);clear hS;(try clear w');intro _;intro a' hp;(try simp only [fr] at hp);subst hp;intro w' hS)) |
   (go_at_call 77;refine calls_begin_bad hS hk nilSl (by simp) hb ?_;rw [he.out];clear hS;(try clear w');intro w' hS))
  (refine held_start (S:=(St w [] V [.blk b6 38 [.int .i64 e]])) [false,false,false,false] rfl (by kernel_rfl) ?_;replace hS:=St.drew1 hS;(refine hxa 0 rfl ?_;intro a' l' hp hl;(try simp only [fr] at hp);(try simp only [sB] at hl);subst hp;subst hl);(refine he_pure 1 (by kernel_rfl) rfl rfl (St.subI hS) ?_;refine ⟨_,zp,?_⟩;intro a' l' hp hl;(try simp only [fr] at hp);(try simp only [sB] at hl);subst hp;subst hl);(refine he_pure 2 (by kernel_rfl) rfl rfl (St.subI hS) ?_;refine ⟨_,zp,?_⟩;intro a' l' hp hl;(try simp only [fr] at hp);(try simp only [sB] at hl);subst hp;subst hl);((refine he_s1 3 (by kernel_rfl) rfl hS rfl  rfl rfl ?_;refine ⟨_,zd,?_⟩);clear hS;(try clear w');intro a' l' hp hl;(try simp only [fr] at hp);(try simp only [sB] at hl);subst hp;subst hl;intro w' hS;(try simp only [sE] at hS);refine ⟨(St.subI hS),?_⟩);refine wpAnyH_done (by kernel_rfl) ?_ _)
  go_wp2_with (fail)
  (refine door_idle hS ?_;clear hS;(try clear w');intro w' hS;(try simp only [sE] at hS);refine ⟨_,by exact results3 (r1:=.tmp 4) (r2:=.tmp 5) (r3:=.cell 6 38) (by kernel_rfl) (by exact rs_tmp rfl) (by exact rs_tmp rfl) (by exact rs_1 hS rfl zd),?_⟩)
  exact ⟨by rfl,(hS.toKp)⟩
end Go.Proofs.YtjjmefieegcddaaDoor
namespace Go.Proofs.YtjjmefieegcddaaDoor
open Go.RowKit Go.Wg Go.Mm Go.Wk
open Go Go.Sr Go.Ph Go.Tm Go.Conc
variable {w:World} {V:View}
set_option maxHeartbeats 2000000 in
theorem Next_B (vv rv:Value) (k:Wk) (hk:WkIn V vv rv k) (hG:GV V) (hV:V.In w) (hh:HeapOk OC w) (err:Int) :
  CallsB Tryd.prog 43 #[.agg #[vv,rv],.int .i64 err] w fun r w'=>r=.returned (.tuple #[.int .i64 (nextE k err).1.1,.int .i64 (nextE k err).1.2,.int .i64 (nextE k err).2])∧Kp w w':=by
 by_cases hbs:beginE k []=0∧outB err 0 9=false∧Go.Wg.settle k (nowS k noneB)=none
 ·obtain ⟨hb,ho,hst⟩:=hbs
  have hC:nextE k err=if (nxBest k (nowS k noneB) err k.n).1 < 0 then ((0,0),11) else (nxBest k (nowS k noneB) err k.n,0):=by
   unfold nextE
   rw [if_neg (by simp [hb]),ho,hst]
   rfl
  have hok:=beginE_check hb
  have he:0≤err∧err≤9:=by
   unfold outB at ho
   simp only [Bool.or_eq_false_iff,decide_eq_false_iff_not] at ho
   omega
  have hs:=nowS_wf k noneB
  have hlo:=nowS_lo k hok noneB
  have hhi:∀ i,((nowS k noneB).losAt i).2≤1000:=fun i=>Int.le_trans (nowS_hi k hok noneB i) (by decide)
  refine callsB_of_body Tryd.func43 (show Tryd.f43.body=some B43 from rfl) fun cs b hbf hbk hbr=>?_
  have e104:Tryd.f43.ntmps - (#[.agg #[vv,rv],.int .i64 err]:Array Value).size=104:=by kernel_rfl
  rw [e104]
  obtain ⟨tm0,htm⟩:∃ tm0,#[Value.agg #[vv,rv],.int .i64 err] ++ Array.replicate 104 undef=tm0:=⟨_,rfl⟩
  rw [htm]
  refine toBN (tgt:=nat8 [2,3,4,5]) hbf hbk (show [Item.code B43].all itemO=true by kernel_rfl) (fun d hd=>nomatch hd) hh
   (S:=fun a w'=>∃ p V' D b6 b8,((∃ f,a=⟨tmN (.int .i64 err) (ptr b6) (ptr p) (ptr b8) undef undef undef undef undef undef undef undef undef f,[dC b6]⟩)∧a.tmps[29]? = some (ptr p)∧a.tmps[30]? = some (.agg (stC (nowS k noneB)).toArray)) ∧
    NX V' p k D b8 (nowS k noneB)∧St w [] V' [.blk b6 38 [.int .i64 0]] w')
   (fun a w' τ d ⟨p,V',D,b6,b8,h1,h2,h3⟩=>⟨p,V',D,b6,b8,h1,h2,h3.re1 τ d⟩) (fun τ d=>?_) ?_
  ·rw [← htm]
   refine (next_start (w:=w.re τ d) vv rv k hk hG hV err hb ho hst).mono ?_
   rintro a w' ⟨p,V',D,b6,b8,h1,h2,h3⟩
   exact ⟨p,V',D,b6,b8,h1,h2,h3.re0⟩
  ·rintro a w1 ⟨p,V',D,b6,b8,⟨⟨f1,rfl⟩,h29,h30⟩,hX,hS1⟩ hh1
   have e29:f1 29=ptr p:=Option.some.inj h29
   have e30:f1 30=.agg (stC (nowS k noneB)).toArray:=Option.some.inj h30
   refine toB_tot hX hok hs hlo hhi hS1.view hh1 hbk (o:=ops8[2]!) (y:=.tmp 29) (z:=.tmp 30) (d:=31) rfl rfl rfl rfl rfl e29 e30 fun w2 hk2 hh2=>?_
   have hN2:=(N1.of_st hS1).step hk2
   have hbd:=totalS_bd k hok.le (nowS k noneB) false hlo
   have hB0:nxBest k (nowS k noneB) err 0=(-1,sizeS (totalS k (nowS k noneB) false)):=rfl
   obtain ⟨tt,htt⟩:∃ tt,totalS k (nowS k noneB) false=tt:=⟨_,rfl⟩
   rw [htt] at hbd hB0 ⊢
   have hout:=fun Q h=>outer (w0:=w) (b6:=b6) (b:=b) (cs:=cs) (Q:=Q) hX hok hs hlo hhi err he.1 he.2 hbf hbk h k.n 0 (Nat.zero_add _)
   rw [hB0] at hout
   have eA:(Act.put ⟨tmN (.int .i64 err) (ptr b6) (ptr p) (ptr b8) undef undef undef undef undef undef undef undef undef f1,[dC b6]⟩ (some 31) (spanV tt)) =
     ⟨tmN (.int .i64 err) (ptr b6) (ptr p) (ptr b8) undef undef undef undef undef undef undef undef undef (fun j=>if j=31 then spanV tt else f1 j),[dC b6]⟩:=rfl
   rw [eA]
   refine toBN (tgt:=nhead1) hbf hbk (it_nat8 [3,4,5]) (okDC b6 rfl) hh2 (S:=fun a w'=>(∃ f,a=⟨tmN (.int .i64 err) (ptr b6) (ptr p) (ptr b8) (.int .i64 (-1)) (.int .i64 (sizeS tt)) undef undef undef undef undef (.int .i64 k.n) (.int .i64 0) f,[dC b6]⟩)∧Kp w2 w')
    (fun a w' τ d h=>⟨h.1,kp_re1 h.2 τ d⟩) (fun τ d=>?_) ?_
   ·refine (next1 (w:=w2.re τ d) hX _ _ _ _ _ _ _ _ _ _ _ _ (fun j=>if j=31 then spanV tt else f1 j) tt (hbd.mono (by omega)) (by simp) hN2.vin).mono ?_
    rintro a w' ⟨h1,h2⟩
    exact ⟨h1,kp_re0 h2⟩
   ·rintro a w3 ⟨⟨f3,rfl⟩,hk3⟩ hh3
    refine hout _ (fun w f v11 v12 v13 v14 v15 hN hh=>?_) w3 f3 undef undef undef undef undef (hN2.step hk3) hh3
    by_cases hneg:(nxBest k (nowS k noneB) err k.n).1 < 0
    ·rw [if_pos hneg] at hC
     rw [hC]
     refine toBN (tgt:=[.code .ret,.code N28]) hbf hbk it_nhead1 (okDC b6 rfl) hh (S:=fun a w'=>(a.tmps[4]? = some (.int .i64 0)∧a.tmps[5]? = some (.int .i64 0)∧a.tmps[6]? = some (ptr b6)∧a.defers=[dC b6])∧St _ [] V' [.blk b6 38 [.int .i64 11]] w')
      (fun a w' τ d h=>⟨h.1,h.2.re1 τ d⟩) (fun τ d=>next6a _ _ k.n b6 hok.le hneg _ _ _ _ _ _ _ _ f (hN.st.re1 τ d)) ?_
     rintro a w4 ⟨⟨h4,h5,h6,hd⟩,hS4⟩ hh4
     exact next_ret (k0:=[.code N28]) (by kernel_rfl) hbf hbk hh4 h4 h5 h6 hd hS4
    ·rw [if_neg hneg] at hC
     rw [hC]
     refine toBN (tgt:=[.code .ret]) hbf hbk it_nhead1 (okDC b6 rfl) hh (S:=fun a w'=>(a.tmps[4]? = some (.int .i64 (nxBest k (nowS k noneB) err k.n).1)∧a.tmps[5]? = some (.int .i64 (nxBest k (nowS k noneB) err k.n).2)∧a.tmps[6]? = some (ptr b6)∧a.defers=[dC b6])∧St _ [] V' [.blk b6 38 [.int .i64 0]] w')
      (fun a w' τ d h=>⟨h.1,h.2.re1 τ d⟩) (fun τ d=>next6b _ _ k.n b6 hok.le hneg _ _ _ _ _ _ _ _ f (hN.st.re1 τ d)) ?_
     rintro a w4 ⟨⟨h4,h5,h6,hd⟩,hS4⟩ hh4
     exact next_ret (k0:=[]) rfl hbf hbk hh4 h4 h5 h6 hd hS4
 ·refine callsB_of_calls sokAll ins_kp (fun w h=>nomatch h.1) hh fun τ d=>?_
  exact (Next_bad (w:=w.re τ d) vv rv k hk hG hV err hbs).mono fun e w' h=>⟨h.1,⟨h.2.os,h.2.output,h.2.size,h.2.old⟩⟩
end Go.Proofs.YtjjmefieegcddaaDoor
namespace Go.Proofs.YtjjmefieegcddaaDoor
open Go.RowKit Go.Wg Go.Mm
theorem val_truth:truthE (meltK [])=([29,15,11,15],0):=by kernel_rfl
theorem val_weight1:weightE (meltK []) 1=((15,17),0):=by kernel_rfl
theorem val_lost:lostE (meltK [])=((1,5),0):=by kernel_rfl
theorem val_knots:knotsE (meltK [⟨1,0,20,1⟩])=([1],0):=by kernel_rfl
theorem val_next:nextE (meltK []) 0=((0,3),0):=by kernel_rfl
theorem val_beyond:beyondE (meltK [⟨1,0,20,1⟩]) 1=(2,0):=by kernel_rfl
end Go.Proofs.YtjjmefieegcddaaDoor
namespace Go.Proofs.YtjjmefieegcddaaDoor
open Go.RowKit Go.Wg Go.Mm Go.Wk
open Go Go.Sr Go.Ph Go.Tm Go.Conc
variable {w:World} {V:View} {w0:World} {X:List Nat} {L:List Ent}
theorem calls_meltR {k:Wk} {args:Array Value} {R:Ending→World→Prop} (hS:St w0 X V L w) (hm:Calls Tryd.prog 75 args w (MeltR V w k)) (h:∀ (V':View) (vv rv:Value) (w':World),(∀ j o,V j=some o→V' j=some o)→WkIn V' vv rv k→St w0 X V' L w'→R (.returned (.agg #[vv,rv])) w'):Calls Tryd.prog 75 args w R:=by
 refine hm.mono ?_
 rintro e w' ⟨V',vv,rv,rfl,hk,hn,hin,hwk⟩
 exact h V' vv rv w' (fun j o hj=>by rw [hn j (lt_of_heap (hS.view j o hj))];exact hj) hwk (hS.call hk hin hn)
theorem calls_melt {R:Ending→World→Prop} (hS:St w0 X V L w) (hB:Bs V) (h:∀ (V':View) (vv rv:Value) (w':World),(∀ j o,V j=some o→V' j=some o)→WkIn V' vv rv (meltK [])→St w0 X V' L w'→R (.returned (.agg #[vv,rv])) w'):Calls Tryd.prog 75 #[.slice none 0 0] w R:=calls_meltR hS (melt_nil hB hS.view) h
theorem calls_melt1 {R:Ending→World→Prop} (hS:St w0 X V L w) (hB:Bs V) {bm:Nat} {r:Rdg} (hm:∀ i v,(rdgC [r])[i]? = some v→V.Cell bm i v) (h:∀ (V':View) (vv rv:Value) (w':World),(∀ j o,V j=some o→V' j=some o)→WkIn V' vv rv (meltK [r])→St w0 X V' L w'→R (.returned (.agg #[vv,rv])) w') :
  Calls Tryd.prog 75 #[.slice (some ⟨bm,0,none⟩) 1 1] w R:=calls_meltR hS (melt_one hB hS.view r fun j v hj=>by rw [Nat.zero_add];exact hm j v hj) h
theorem calls_ints {f:FuncId} {args:Array Value} {R:Ending→World→Prop} {u:Value} {l:List Int} (hS:St w0 X V L w) (hc:Calls Tryd.prog f args w fun r w'=>∃ v,r=.returned (.tuple #[v,u])∧Kp w w'∧OwnInts w w' v l)
  (h:∀ (V':View) (v:Value) (w':World),(∀ j o,V j=some o→V' j=some o)→VI V' v l→v.oneCell'=true→St w0 X V' L w'→R (.returned (.tuple #[v,u])) w'):Calls Tryd.prog f args w R:=by
 refine hc.mono ?_
 rintro e w' ⟨v,rfl,hk,ho⟩
 obtain ⟨V',h1,h2,h3⟩:=own_view hS hk ho
 refine h V' v w' h1 h3 ?_ h2
 obtain ⟨a,cap,rfl,_⟩:=h3.is
 rfl
theorem calls_truth {vv rv:Value} {k:Wk} {R:Ending→World→Prop} {l:List Int} {e:Int} (hS:St w0 X V L w) (hB:Bs V) (hk:WkIn V vv rv k) (hv:truthE k=(l,e))
  (h:∀ (V':View) (v:Value) (w':World),(∀ j o,V j=some o→V' j=some o)→VI V' v l→v.oneCell'=true→St w0 X V' L w'→R (.returned (.tuple #[v,.int .i64 e])) w'):Calls Tryd.prog 27 #[.agg #[vv,rv]] w R:=by
 have hc:=Truth_ok vv rv k hk hB.gv hS.view
 rw [hv] at hc
 exact calls_ints hS hc h
theorem calls_knots {vv rv:Value} {k:Wk} {R:Ending→World→Prop} {l:List Int} {e:Int} (hS:St w0 X V L w) (hB:Bs V) (hk:WkIn V vv rv k) (hv:knotsE k=(l,e))
  (h:∀ (V':View) (v:Value) (w':World),(∀ j o,V j=some o→V' j=some o)→VI V' v l→v.oneCell'=true→St w0 X V' L w'→R (.returned (.tuple #[v,.int .i64 e])) w'):Calls Tryd.prog 34 #[.agg #[vv,rv]] w R:=by
 have hc:=Knots_ok vv rv k hk hB.gv hS.view
 rw [hv] at hc
 exact calls_ints hS hc h
theorem calls_weight {vv rv:Value} {k:Wk} {R:Ending→World→Prop} {v a b e:Int} (hS:St w0 X V L w) (hB:Bs V) (hk:WkIn V vv rv k) (hv:weightE k v=((a,b),e))
  (h:∀ w',St w0 X V L w'→R (.returned (.tuple #[.agg #[.int .i64 a,.int .i64 b],.int .i64 e])) w'):Calls Tryd.prog 54 #[.agg #[vv,rv],.int .i64 v] w R:=by
 have hc:=Weight_ok vv rv k hk hB.gv hS.view v
 rw [hv] at hc
 exact calls_by hS ⟨_,hc,h⟩
theorem calls_beyond {vv rv:Value} {k:Wk} {R:Ending→World→Prop} {v a e:Int} (hS:St w0 X V L w) (hB:Bs V) (hk:WkIn V vv rv k) (hv:beyondE k v=(a,e))
  (h:∀ w',St w0 X V L w'→R (.returned (.tuple #[.int .i64 a,.int .i64 e])) w'):Calls Tryd.prog 51 #[.agg #[vv,rv],.int .i64 v] w R:=by
 have hc:=Beyond_ok vv rv k hk hB.gv hS.view v
 rw [hv] at hc
 exact calls_by hS ⟨_,hc,h⟩
theorem calls_eqints {l1 l2:List Int} {a b:Value} {R:Ending→World→Prop} (hS:St w0 X V L w) (h1:VI V a l1) (h2:VI V b l2) (n1:l1.length≤100) (n2:l2.length≤100) (he:l1=l2) (h:∀ w',St w0 X V L w'→R (.returned (.bool true)) w'):Calls Tryd.prog 31 #[a,b] w R:=by
 have hc:=EqInts_ok l1 l2 a b h1 h2 n1 n2 hS.view
 rw [decide_eq_true he] at hc
 exact calls_by hS ⟨_,hc,h⟩
theorem sl_of {V:View} {b:Nat} {l:List Int} (hl:l.length≤100) (h:∀ i x,(intsC l)[i]? = some x→V.Cell b i x):VI V (.slice (some ⟨b,0,none⟩) l.length l.length) l:=by
 refine ⟨⟨some ⟨b,0,none⟩,l.length,rfl,Nat.le_refl _,by unfold maxLen;omega,fun _=>⟨b,0,rfl,fun i hi j x hj=>?_⟩⟩⟩
 cases j with
 | succ j=>simp at hj
 | zero =>
  simp at hj
  subst hj
  have:=h i (.int .i64 (l.getD i 0)) (by simp [intsC,List.getD_eq_getElem?_getD,List.getElem?_eq_getElem hi])
  simpa using this
noncomputable def B21:Code:=match Tryd.f21.body with | some c=>c | none=>.skip
noncomputable def Wd4:Code:=match B21 with | .seq _ (.seq _ (.seq _ (.seq _ r)))=>r | _=>.skip
noncomputable def Wd6:Code:=match Wd4 with | .seq _ (.seq _ r)=>r | _=>.skip
noncomputable def wops3:Array Oper:=match B21 with | .seq _ (.seq _ (.seq _ (.seq (.region _ o _) _)))=>o | _=>#[]
noncomputable def wops5:Array Oper:=match Wd4 with | .seq _ (.seq (.region _ o _) _)=>o | _=>#[]
def Wd1 (w:World) (V:View) (a:Act) (w':World):Prop :=
 ∃ (V':View) (vv rv v1:Value) (b3:Nat),(∃ f:Nat→Value,a=⟨#[.bool false,v1,.int .i64 0,.pointer (some ⟨b3,0,none⟩),.int .i64 0,f 5,f 6,f 7,f 8,f 9,f 10,f 11,f 12,f 13,f 14,f 15,f 16,f 17,f 18,f 19,f 20,f 21,f 22,f 23,f 24,.agg #[vv,rv],f 26,f 27,f 28,f 29,f 30,f 31,f 32,f 33,f 34,f 35,f 36,f 37,f 38,f 39,f 40,f 41,f 42,f 43,f 44,f 45,f 46,f 47,f 48,f 49,f 50,f 51,f 52,f 53,f 54,f 55,f 56,f 57,f 58,f 59,f 60,f 61,f 62,f 63,f 64,f 65,f 66,f 67,f 68,f 69,f 70,f 71,f 72,f 73,f 74,f 75,f 76,f 77,f 78,f 79,f 80,f 81,f 82,f 83,f 84,f 85,f 86,f 87,f 88,f 89,f 90,f 91,f 92,f 93,f 94,f 95,f 96,f 97,f 98,f 99,f 100,f 101,f 102],[]⟩)∧(∀ j o,V j=some o→V' j=some o)∧WkIn V' vv rv (meltK [])∧VI V' v1 [29,15,11,15]∧v1.oneCell'=true∧(∀ i v,[Value.int .i64 15,.int .i64 17][i]? = some v→V'.Cell b3 i v)∧St w [] V' [] w'
set_option maxRecDepth 20000 in
set_option maxHeartbeats 4000000 in
theorem weighed1 (hB:Bs V) (hV:V.In w):Rch Tryd.prog [.inRegion wops3 [1,2,3,4,5,6,7],.code Wd4] (Wd1 w V) [.code B21] { tmps:=#[] ++ Array.replicate 103 undef,defers:=[] } w:=by
 have hS:=St.start w V hV
 simp only [Array.replicate_succ,Array.replicate_zero,List.push_toArray,List.append_toArray,List.nil_append,List.cons_append]
 refine rch_seq (rch_code ?_)
 go_wp2_with (fail)
 refine rch_seq (rch_code ?_)
 go_wp2_with (first | (go_at_call 75;refine calls_melt hS hB ?_;clear hS;(try clear w');intro V1 vv1 rv1 w' hV1 hk1 hS) | (go_at_call 27;refine calls_truth hS (hB.mono hV1) hk1 val_truth ?_;clear hS;(try clear w');intro V2 v1 w' hV2 hv1 hone hS))
 have hB2:Bs V2:=hB.mono fun j o h=>hV2 j o (hV1 j o h)
 refine rch_seq (rch_code ?_)
 go_wp2_with (first | (first | (((with_reducible refine gS ?_);refine qsall hS rfl rfl rfl ?_);refine ⟨_,zd,?_⟩;clear hS;(try clear w');intro a' hp;(try simp only [fr] at hp);subst hp;intro w' hS;(try simp only [sE] at hS)) | ((with_reducible refine gA ?_);refine qallocd 3 rfl hS rfl rfl ?_;clear hS;(try clear w');intro b3;intro a' hp;(try simp only [fr] at hp);subst hp;intro w' hS)) | (go_at_call 75;refine calls_melt hS hB2 ?_;clear hS;(try clear w');intro V3 vv3 rv3 w' hV3 hk3 hS) | (go_at_call 54;refine calls_weight hS (hB2.mono hV3) hk3 val_weight1 ?_;clear hS;(try clear w');intro w' hS))
 obtain ⟨V4,hV4,hc4,hS4⟩:=pin hS
 clear hS
 have hS:=hS4
 clear hS4
 have hB4:Bs V4:=hB2.mono fun j o h=>hV4 j o (hV3 j o h)
 refine rch_seq (rch_region ?_)
 refine rch_call (i:=0) rfl rfl (run_call_body rfl Tryd.func75 (by kernel_rfl) rfl) ?_
 simp only [List.map_toArray,List.map_cons,List.map_nil]
 show Calls Tryd.prog 75 #[.slice none 0 0] _ _
 refine calls_melt hS hB4 ?_
 clear hS
 intro V5 vv rv w' hV5 hk5 hS
 refine ⟨_,rfl,?_⟩
 have key:∀ a:Act,a=⟨#[.bool false,v1,.int .i64 0,.pointer (some ⟨b3,0,none⟩),.int .i64 0,a.tmps.getD 5 undef,a.tmps.getD 6 undef,a.tmps.getD 7 undef,a.tmps.getD 8 undef,a.tmps.getD 9 undef,a.tmps.getD 10 undef,a.tmps.getD 11 undef,a.tmps.getD 12 undef,a.tmps.getD 13 undef,a.tmps.getD 14 undef,a.tmps.getD 15 undef,a.tmps.getD 16 undef,a.tmps.getD 17 undef,a.tmps.getD 18 undef,a.tmps.getD 19 undef,a.tmps.getD 20 undef,a.tmps.getD 21 undef,a.tmps.getD 22 undef,a.tmps.getD 23 undef,a.tmps.getD 24 undef,.agg #[vv,rv],a.tmps.getD 26 undef,a.tmps.getD 27 undef,a.tmps.getD 28 undef,a.tmps.getD 29 undef,a.tmps.getD 30 undef,a.tmps.getD 31 undef,a.tmps.getD 32 undef,a.tmps.getD 33 undef,a.tmps.getD 34 undef,a.tmps.getD 35 undef,a.tmps.getD 36 undef,a.tmps.getD 37 undef,a.tmps.getD 38 undef,a.tmps.getD 39 undef,a.tmps.getD 40 undef,a.tmps.getD 41 undef,a.tmps.getD 42 undef,a.tmps.getD 43 undef,a.tmps.getD 44 undef,a.tmps.getD 45 undef,a.tmps.getD 46 undef,a.tmps.getD 47 undef,a.tmps.getD 48 undef,a.tmps.getD 49 undef,a.tmps.getD 50 undef,a.tmps.getD 51 undef,a.tmps.getD 52 undef,a.tmps.getD 53 undef,a.tmps.getD 54 undef,a.tmps.getD 55 undef,a.tmps.getD 56 undef,a.tmps.getD 57 undef,a.tmps.getD 58 undef,a.tmps.getD 59 undef,a.tmps.getD 60 undef,a.tmps.getD 61 undef,a.tmps.getD 62 undef,a.tmps.getD 63 undef,a.tmps.getD 64 undef,a.tmps.getD 65 undef,a.tmps.getD 66 undef,a.tmps.getD 67 undef,a.tmps.getD 68 undef,a.tmps.getD 69 undef,a.tmps.getD 70 undef,a.tmps.getD 71 undef,a.tmps.getD 72 undef,a.tmps.getD 73 undef,a.tmps.getD 74 undef,a.tmps.getD 75 undef,a.tmps.getD 76 undef,a.tmps.getD 77 undef,a.tmps.getD 78 undef,a.tmps.getD 79 undef,a.tmps.getD 80 undef,a.tmps.getD 81 undef,a.tmps.getD 82 undef,a.tmps.getD 83 undef,a.tmps.getD 84 undef,a.tmps.getD 85 undef,a.tmps.getD 86 undef,a.tmps.getD 87 undef,a.tmps.getD 88 undef,a.tmps.getD 89 undef,a.tmps.getD 90 undef,a.tmps.getD 91 undef,a.tmps.getD 92 undef,a.tmps.getD 93 undef,a.tmps.getD 94 undef,a.tmps.getD 95 undef,a.tmps.getD 96 undef,a.tmps.getD 97 undef,a.tmps.getD 98 undef,a.tmps.getD 99 undef,a.tmps.getD 100 undef,a.tmps.getD 101 undef,a.tmps.getD 102 undef],[]⟩→Wd1 w V a w':=fun a ha =>
  ⟨V5,vv,rv,v1,b3,⟨fun j=>a.tmps.getD j undef,ha⟩,fun j o h=>hV5 j o (hV4 j o (hV3 j o (hV2 j o (hV1 j o h)))),hk5,VSl.mono (VSl.mono (VSl.mono hv1 hV3) hV4) hV5,hone,fun i v h=>(hc4 i v h).mono hV5,hS⟩
 exact rch_here (tgt:=[.inRegion wops3 [1,2,3,4,5,6,7],.code Wd4]) (key _ rfl)
def Wd2 (w:World) (V:View) (v1:Value) (b3:Nat) (a:Act) (w':World):Prop :=
 ∃ (V':View) (vv rv v7:Value) (b5:Nat),(∃ f:Nat→Value,a=⟨#[.bool false,v1,.int .i64 0,.pointer (some ⟨b3,0,none⟩),.int .i64 0,.pointer (some ⟨b5,0,none⟩),.int .i64 0,v7,.int .i64 0,f 9,f 10,f 11,f 12,f 13,f 14,f 15,f 16,f 17,f 18,f 19,f 20,f 21,f 22,f 23,f 24,f 25,f 26,f 27,f 28,f 29,f 30,f 31,f 32,f 33,f 34,f 35,f 36,.agg #[vv,rv],f 38,f 39,f 40,f 41,f 42,f 43,f 44,f 45,f 46,f 47,f 48,f 49,f 50,f 51,f 52,f 53,f 54,f 55,f 56,f 57,f 58,f 59,f 60,f 61,f 62,f 63,f 64,f 65,f 66,f 67,f 68,f 69,f 70,f 71,f 72,f 73,f 74,f 75,f 76,f 77,f 78,f 79,f 80,f 81,f 82,f 83,f 84,f 85,f 86,f 87,f 88,f 89,f 90,f 91,f 92,f 93,f 94,f 95,f 96,f 97,f 98,f 99,f 100,f 101,f 102],[]⟩)∧(∀ j o,V j=some o→V' j=some o)∧WkIn V' vv rv (meltK [])∧VI V' v7 [1]∧v7.oneCell'=true∧(∀ i v,[Value.int .i64 1,.int .i64 5][i]? = some v→V'.Cell b5 i v)∧St w [] V' [] w'
set_option maxRecDepth 20000 in
set_option maxHeartbeats 4000000 in
theorem weighed2 (hB:Bs V) (hV:V.In w) (v1:Value) (b3:Nat) (f:Nat→Value):Rch Tryd.prog [.inRegion wops5 [1,2,3,4,5,6,7,8],.code Wd6] (Wd2 w V v1 b3) [.inRegion wops3 [2,3,4,5,6,7],.code Wd4] ⟨#[.bool false,v1,.int .i64 0,.pointer (some ⟨b3,0,none⟩),.int .i64 0,f 5,f 6,f 7,f 8,f 9,f 10,f 11,f 12,f 13,f 14,f 15,f 16,f 17,f 18,f 19,f 20,f 21,f 22,f 23,f 24,f 25,.tuple #[.agg #[.int .i64 1,.int .i64 5],.int .i64 0],f 27,f 28,f 29,f 30,f 31,f 32,f 33,f 34,f 35,f 36,f 37,f 38,f 39,f 40,f 41,f 42,f 43,f 44,f 45,f 46,f 47,f 48,f 49,f 50,f 51,f 52,f 53,f 54,f 55,f 56,f 57,f 58,f 59,f 60,f 61,f 62,f 63,f 64,f 65,f 66,f 67,f 68,f 69,f 70,f 71,f 72,f 73,f 74,f 75,f 76,f 77,f 78,f 79,f 80,f 81,f 82,f 83,f 84,f 85,f 86,f 87,f 88,f 89,f 90,f 91,f 92,f 93,f 94,f 95,f 96,f 97,f 98,f 99,f 100,f 101,f 102],[]⟩ w:=by
 have hS:=St.start w V hV
 refine rch_op (i:=2) (v:=.tuple #[.agg #[.int .i64 1,.int .i64 5],.int .i64 0]) (w':=w) rfl rfl rfl ?_
 refine rch_op (i:=3) (v:=.agg #[.int .i64 1,.int .i64 5]) (w':=w) rfl rfl rfl ?_
 refine rch_op (i:=4) (v:=.int .i64 0) (w':=w) rfl rfl rfl ?_
 refine rch_op (i:=5) rfl rfl (run_alloc (P:=Tryd.prog) hS (cs:=[.int .i64 0,.int .i64 0]) rfl (by kernel_rfl) (by kernel_rfl)).1 ?_
 replace hS:=hS.alloc 27 [.int .i64 0,.int .i64 0]
 generalize w.alloc (.cells [Value.int .i64 0,.int .i64 0].toArray 27)=w1 at hS ⊢
 obtain ⟨b5,hb5⟩:∃ b5,w.heap.size=b5:=⟨_,rfl⟩
 rw [hb5] at hS ⊢
 refine rch_storen hS (i:=6) (vs:=[.int .i64 1,.int .i64 5]) rfl rfl rfl (j:=0) (i':=0) (n:=2) rfl rfl rfl (by simp [Value.oneCell']) (by kernel_rfl) rfl (by simp) ?_
 clear hS
 intro w2 hS
 simp only [List.set_cons_zero,splice,List.take_zero,List.nil_append,List.length_cons,List.length_nil,Nat.zero_add,List.append_nil,List.drop_nil,Nat.reduceAdd,List.drop_succ_cons,List.drop_zero] at hS
 refine rch_op (i:=7) (v:=.int .i64 0) (w':=w2) rfl rfl rfl ?_
 refine rch_region_end ?_
 show Rch Tryd.prog [.inRegion wops5 [1,2,3,4,5,6,7,8],.code Wd6] (Wd2 w V v1 b3) [.code Wd4] ⟨#[.bool false,v1,.int .i64 0,.pointer (some ⟨b3,0,none⟩),.int .i64 0,.pointer (some ⟨b5,0,none⟩),.int .i64 0,f 7,f 8,f 9,f 10,f 11,f 12,f 13,f 14,f 15,f 16,f 17,f 18,f 19,f 20,f 21,f 22,f 23,.tuple #[.agg #[.int .i64 1,.int .i64 5],.int .i64 0],f 25,.tuple #[.agg #[.int .i64 1,.int .i64 5],.int .i64 0],.agg #[.int .i64 1,.int .i64 5],.int .i64 0,f 29,f 30,f 31,f 32,f 33,f 34,f 35,f 36,f 37,f 38,f 39,f 40,f 41,f 42,f 43,f 44,f 45,f 46,f 47,f 48,f 49,f 50,f 51,f 52,f 53,f 54,f 55,f 56,f 57,f 58,f 59,f 60,f 61,f 62,f 63,f 64,f 65,f 66,f 67,f 68,f 69,f 70,f 71,f 72,f 73,f 74,f 75,f 76,f 77,f 78,f 79,f 80,f 81,f 82,f 83,f 84,f 85,f 86,f 87,f 88,f 89,f 90,f 91,f 92,f 93,f 94,f 95,f 96,f 97,f 98,f 99,f 100,f 101,f 102],[]⟩ w2
 obtain ⟨V1,hV1,hc1,hS1⟩:=pin hS
 clear hS
 have hS:=hS1
 clear hS1
 have hB1:=hB.mono hV1
 refine rch_seq (rch_code ?_)
 go_wp2_with (first | (fail) | (go_at_call 42;refine calls_by hS ⟨_,reading4 _ _ _ _ _,?_⟩;clear hS;(try clear w');intro w' hS) |
  ((with_reducible refine gSl ?_);refine qraw hS rfl (run_bs23_1 (a:=⟨1,0,20,1⟩) rfl rfl) ?_;clear hS;(try clear w');intro bm a' hp;(try simp only [fr] at hp);subst hp;intro w' hS;obtain ⟨V2,hV2,hc2,hS2⟩:=pin hS;clear hS;have hS:=hS2;clear hS2) |
  (go_at_call 75;refine calls_melt1 hS (hB1.mono hV2) hc2 ?_;clear hS;(try clear w');intro V3 vv3 rv3 w' hV3 hk3 hS) |
  (go_at_call 34;refine calls_knots hS ((hB1.mono hV2).mono hV3) hk3 val_knots ?_;clear hS;(try clear w');intro V4 v7 w' hV4 hv7 hone hS))
 have hB4:Bs V4:=((hB1.mono hV2).mono hV3).mono hV4
 refine rch_seq (rch_region ?_)
 refine rch_call (i:=0) rfl rfl (run_call_body rfl Tryd.func75 (by kernel_rfl) rfl) ?_
 simp only [List.map_toArray,List.map_cons,List.map_nil]
 show Calls Tryd.prog 75 #[.slice none 0 0] _ _
 refine calls_melt hS hB4 ?_
 clear hS
 intro V5 vv rv w' hV5 hk5 hS
 refine ⟨_,rfl,?_⟩
 have key:∀ a:Act,a=⟨#[.bool false,v1,.int .i64 0,.pointer (some ⟨b3,0,none⟩),.int .i64 0,.pointer (some ⟨b5,0,none⟩),.int .i64 0,v7,.int .i64 0,a.tmps.getD 9 undef,a.tmps.getD 10 undef,a.tmps.getD 11 undef,a.tmps.getD 12 undef,a.tmps.getD 13 undef,a.tmps.getD 14 undef,a.tmps.getD 15 undef,a.tmps.getD 16 undef,a.tmps.getD 17 undef,a.tmps.getD 18 undef,a.tmps.getD 19 undef,a.tmps.getD 20 undef,a.tmps.getD 21 undef,a.tmps.getD 22 undef,a.tmps.getD 23 undef,a.tmps.getD 24 undef,a.tmps.getD 25 undef,a.tmps.getD 26 undef,a.tmps.getD 27 undef,a.tmps.getD 28 undef,a.tmps.getD 29 undef,a.tmps.getD 30 undef,a.tmps.getD 31 undef,a.tmps.getD 32 undef,a.tmps.getD 33 undef,a.tmps.getD 34 undef,a.tmps.getD 35 undef,a.tmps.getD 36 undef,.agg #[vv,rv],a.tmps.getD 38 undef,a.tmps.getD 39 undef,a.tmps.getD 40 undef,a.tmps.getD 41 undef,a.tmps.getD 42 undef,a.tmps.getD 43 undef,a.tmps.getD 44 undef,a.tmps.getD 45 undef,a.tmps.getD 46 undef,a.tmps.getD 47 undef,a.tmps.getD 48 undef,a.tmps.getD 49 undef,a.tmps.getD 50 undef,a.tmps.getD 51 undef,a.tmps.getD 52 undef,a.tmps.getD 53 undef,a.tmps.getD 54 undef,a.tmps.getD 55 undef,a.tmps.getD 56 undef,a.tmps.getD 57 undef,a.tmps.getD 58 undef,a.tmps.getD 59 undef,a.tmps.getD 60 undef,a.tmps.getD 61 undef,a.tmps.getD 62 undef,a.tmps.getD 63 undef,a.tmps.getD 64 undef,a.tmps.getD 65 undef,a.tmps.getD 66 undef,a.tmps.getD 67 undef,a.tmps.getD 68 undef,a.tmps.getD 69 undef,a.tmps.getD 70 undef,a.tmps.getD 71 undef,a.tmps.getD 72 undef,a.tmps.getD 73 undef,a.tmps.getD 74 undef,a.tmps.getD 75 undef,a.tmps.getD 76 undef,a.tmps.getD 77 undef,a.tmps.getD 78 undef,a.tmps.getD 79 undef,a.tmps.getD 80 undef,a.tmps.getD 81 undef,a.tmps.getD 82 undef,a.tmps.getD 83 undef,a.tmps.getD 84 undef,a.tmps.getD 85 undef,a.tmps.getD 86 undef,a.tmps.getD 87 undef,a.tmps.getD 88 undef,a.tmps.getD 89 undef,a.tmps.getD 90 undef,a.tmps.getD 91 undef,a.tmps.getD 92 undef,a.tmps.getD 93 undef,a.tmps.getD 94 undef,a.tmps.getD 95 undef,a.tmps.getD 96 undef,a.tmps.getD 97 undef,a.tmps.getD 98 undef,a.tmps.getD 99 undef,a.tmps.getD 100 undef,a.tmps.getD 101 undef,a.tmps.getD 102 undef],[]⟩→Wd2 w V v1 b3 a w':=fun a ha =>
  ⟨V5,vv,rv,v7,b5,⟨fun j=>a.tmps.getD j undef,ha⟩,fun j o h=>hV5 j o (hV4 j o (hV3 j o (hV2 j o (hV1 j o h)))),hk5,VSl.mono hv7 hV5,hone,fun i v h=>(((hc1 i v h).mono hV2).mono hV3 |>.mono hV4).mono hV5,hS⟩
 exact rch_here (tgt:=[.inRegion wops5 [1,2,3,4,5,6,7,8],.code Wd6]) (key _ rfl)
end Go.Proofs.YtjjmefieegcddaaDoor
namespace Go.Proofs.YtjjmefieegcddaaDoor
open Go.RowKit Go.Wg Go.Mm Go.Wk
open Go Go.Sr Go.Ph Go.Tm Go.Conc
variable {w:World} {V:View}
theorem run_eq27a {o:Oper} {ρ:Operand→Value} {x y:Operand} (ho:o.op=.binOp .eql 27 x y 27) (hx:ρ x=.agg #[.int .i64 15,.int .i64 17]) (hy:ρ y=.agg #[.int .i64 15,.int .i64 17]) (w:World):(execOp ρ o).run Tryd.prog w=.ok (.value (.bool true)) w:=by
 unfold execOp
 simp only [ho,hx,hy]
 kernel_rfl
theorem run_eq27b {o:Oper} {ρ:Operand→Value} {x y:Operand} (ho:o.op=.binOp .eql 27 x y 27) (hx:ρ x=.agg #[.int .i64 1,.int .i64 5]) (hy:ρ y=.agg #[.int .i64 1,.int .i64 5]) (w:World):(execOp ρ o).run Tryd.prog w=.ok (.value (.bool true)) w:=by
 unfold execOp
 simp only [ho,hx,hy]
 kernel_rfl
theorem gEq27 {ops:Array Oper} {Q:Exit→Act→World→Prop} {d:Option Tmp} {x y:Operand} {t:TypeId} {p:String} {af:Array Edge} {g:Option (Nat × Bool)} {rest:List Oper} {a:Act} (h:wpList Tryd.prog ops Q (⟨d,.binOp .eql 27 x y 27,t,p,af,g⟩ :: rest) a w):wpList Tryd.prog ops Q (⟨d,.binOp .eql 27 x y 27,t,p,af,g⟩ :: rest) a w:=h
set_option maxRecDepth 20000 in
set_option maxHeartbeats 8000000 in
theorem weighed3 (hB:Bs V) (hV:V.In w) (v1 v7:Value) (b3 b5:Nat) (o1:v1.oneCell'=true) (o7:v7.oneCell'=true) (h1:VI V v1 [29,15,11,15]) (h7:VI V v7 [1]) (h3:∀ i v,[Value.int .i64 15,.int .i64 17][i]? = some v→V.Cell b3 i v) (h5:∀ i v,[Value.int .i64 1,.int .i64 5][i]? = some v→V.Cell b5 i v) (f:Nat→Value) :
  Rch Tryd.prog [.code .ret] (fun a w'=>a.tmps[0]? = some (.bool true)∧a.defers=[]∧Kp w w') [.inRegion wops5 [2,3,4,5,6,7,8],.code Wd6] ⟨#[.bool false,v1,.int .i64 0,.pointer (some ⟨b3,0,none⟩),.int .i64 0,.pointer (some ⟨b5,0,none⟩),.int .i64 0,v7,.int .i64 0,f 9,f 10,f 11,f 12,f 13,f 14,f 15,f 16,f 17,f 18,f 19,f 20,f 21,f 22,f 23,f 24,f 25,f 26,f 27,f 28,f 29,f 30,f 31,f 32,f 33,f 34,f 35,f 36,f 37,.tuple #[.int .i64 0,.int .i64 3,.int .i64 0],f 39,f 40,f 41,f 42,f 43,f 44,f 45,f 46,f 47,f 48,f 49,f 50,f 51,f 52,f 53,f 54,f 55,f 56,f 57,f 58,f 59,f 60,f 61,f 62,f 63,f 64,f 65,f 66,f 67,f 68,f 69,f 70,f 71,f 72,f 73,f 74,f 75,f 76,f 77,f 78,f 79,f 80,f 81,f 82,f 83,f 84,f 85,f 86,f 87,f 88,f 89,f 90,f 91,f 92,f 93,f 94,f 95,f 96,f 97,f 98,f 99,f 100,f 101,f 102],[]⟩ w:=by
 have hS:=St.start w V hV
 refine rch_op (i:=2) (v:=.tuple #[.int .i64 0,.int .i64 3,.int .i64 0]) (w':=w) rfl rfl rfl ?_
 show Rch Tryd.prog [.code .ret] _ (.inRegion wops5 [3,4,5,6,7,8] :: _) ⟨#[.bool false,v1,.int .i64 0,.pointer (some ⟨b3,0,none⟩),.int .i64 0,.pointer (some ⟨b5,0,none⟩),.int .i64 0,v7,.int .i64 0,f 9,f 10,f 11,f 12,f 13,f 14,f 15,f 16,f 17,f 18,f 19,f 20,f 21,f 22,f 23,f 24,f 25,f 26,f 27,f 28,f 29,f 30,f 31,f 32,f 33,f 34,f 35,.tuple #[.int .i64 0,.int .i64 3,.int .i64 0],f 37,.tuple #[.int .i64 0,.int .i64 3,.int .i64 0],f 39,f 40,f 41,f 42,f 43,f 44,f 45,f 46,f 47,f 48,f 49,f 50,f 51,f 52,f 53,f 54,f 55,f 56,f 57,f 58,f 59,f 60,f 61,f 62,f 63,f 64,f 65,f 66,f 67,f 68,f 69,f 70,f 71,f 72,f 73,f 74,f 75,f 76,f 77,f 78,f 79,f 80,f 81,f 82,f 83,f 84,f 85,f 86,f 87,f 88,f 89,f 90,f 91,f 92,f 93,f 94,f 95,f 96,f 97,f 98,f 99,f 100,f 101,f 102],[]⟩ w
 refine rch_op (i:=3) (v:=.int .i64 0) (w':=w) rfl rfl rfl ?_
 show Rch Tryd.prog [.code .ret] _ (.inRegion wops5 [4,5,6,7,8] :: _) ⟨#[.bool false,v1,.int .i64 0,.pointer (some ⟨b3,0,none⟩),.int .i64 0,.pointer (some ⟨b5,0,none⟩),.int .i64 0,v7,.int .i64 0,f 9,f 10,f 11,f 12,f 13,f 14,f 15,f 16,f 17,f 18,f 19,f 20,f 21,f 22,f 23,f 24,f 25,f 26,f 27,f 28,f 29,f 30,f 31,f 32,f 33,f 34,f 35,.tuple #[.int .i64 0,.int .i64 3,.int .i64 0],f 37,.tuple #[.int .i64 0,.int .i64 3,.int .i64 0],.int .i64 0,f 40,f 41,f 42,f 43,f 44,f 45,f 46,f 47,f 48,f 49,f 50,f 51,f 52,f 53,f 54,f 55,f 56,f 57,f 58,f 59,f 60,f 61,f 62,f 63,f 64,f 65,f 66,f 67,f 68,f 69,f 70,f 71,f 72,f 73,f 74,f 75,f 76,f 77,f 78,f 79,f 80,f 81,f 82,f 83,f 84,f 85,f 86,f 87,f 88,f 89,f 90,f 91,f 92,f 93,f 94,f 95,f 96,f 97,f 98,f 99,f 100,f 101,f 102],[]⟩ w
 refine rch_op (i:=4) (v:=.int .i64 3) (w':=w) rfl rfl rfl ?_
 show Rch Tryd.prog [.code .ret] _ (.inRegion wops5 [5,6,7,8] :: _) ⟨#[.bool false,v1,.int .i64 0,.pointer (some ⟨b3,0,none⟩),.int .i64 0,.pointer (some ⟨b5,0,none⟩),.int .i64 0,v7,.int .i64 0,f 9,f 10,f 11,f 12,f 13,f 14,f 15,f 16,f 17,f 18,f 19,f 20,f 21,f 22,f 23,f 24,f 25,f 26,f 27,f 28,f 29,f 30,f 31,f 32,f 33,f 34,f 35,.tuple #[.int .i64 0,.int .i64 3,.int .i64 0],f 37,.tuple #[.int .i64 0,.int .i64 3,.int .i64 0],.int .i64 0,.int .i64 3,f 41,f 42,f 43,f 44,f 45,f 46,f 47,f 48,f 49,f 50,f 51,f 52,f 53,f 54,f 55,f 56,f 57,f 58,f 59,f 60,f 61,f 62,f 63,f 64,f 65,f 66,f 67,f 68,f 69,f 70,f 71,f 72,f 73,f 74,f 75,f 76,f 77,f 78,f 79,f 80,f 81,f 82,f 83,f 84,f 85,f 86,f 87,f 88,f 89,f 90,f 91,f 92,f 93,f 94,f 95,f 96,f 97,f 98,f 99,f 100,f 101,f 102],[]⟩ w
 refine rch_op (i:=5) (v:=.int .i64 0) (w':=w) rfl rfl rfl ?_
 show Rch Tryd.prog [.code .ret] _ (.inRegion wops5 [6,7,8] :: _) ⟨#[.bool false,v1,.int .i64 0,.pointer (some ⟨b3,0,none⟩),.int .i64 0,.pointer (some ⟨b5,0,none⟩),.int .i64 0,v7,.int .i64 0,f 9,f 10,f 11,f 12,f 13,f 14,f 15,f 16,f 17,f 18,f 19,f 20,f 21,f 22,f 23,f 24,f 25,f 26,f 27,f 28,f 29,f 30,f 31,f 32,f 33,f 34,f 35,.tuple #[.int .i64 0,.int .i64 3,.int .i64 0],f 37,.tuple #[.int .i64 0,.int .i64 3,.int .i64 0],.int .i64 0,.int .i64 3,.int .i64 0,f 42,f 43,f 44,f 45,f 46,f 47,f 48,f 49,f 50,f 51,f 52,f 53,f 54,f 55,f 56,f 57,f 58,f 59,f 60,f 61,f 62,f 63,f 64,f 65,f 66,f 67,f 68,f 69,f 70,f 71,f 72,f 73,f 74,f 75,f 76,f 77,f 78,f 79,f 80,f 81,f 82,f 83,f 84,f 85,f 86,f 87,f 88,f 89,f 90,f 91,f 92,f 93,f 94,f 95,f 96,f 97,f 98,f 99,f 100,f 101,f 102],[]⟩ w
 refine rch_op (i:=6) (v:=.int .i64 0) (w':=w) rfl rfl rfl ?_
 show Rch Tryd.prog [.code .ret] _ (.inRegion wops5 [7,8] :: _) ⟨#[.bool false,v1,.int .i64 0,.pointer (some ⟨b3,0,none⟩),.int .i64 0,.pointer (some ⟨b5,0,none⟩),.int .i64 0,v7,.int .i64 0,.int .i64 0,f 10,f 11,f 12,f 13,f 14,f 15,f 16,f 17,f 18,f 19,f 20,f 21,f 22,f 23,f 24,f 25,f 26,f 27,f 28,f 29,f 30,f 31,f 32,f 33,f 34,f 35,.tuple #[.int .i64 0,.int .i64 3,.int .i64 0],f 37,.tuple #[.int .i64 0,.int .i64 3,.int .i64 0],.int .i64 0,.int .i64 3,.int .i64 0,f 42,f 43,f 44,f 45,f 46,f 47,f 48,f 49,f 50,f 51,f 52,f 53,f 54,f 55,f 56,f 57,f 58,f 59,f 60,f 61,f 62,f 63,f 64,f 65,f 66,f 67,f 68,f 69,f 70,f 71,f 72,f 73,f 74,f 75,f 76,f 77,f 78,f 79,f 80,f 81,f 82,f 83,f 84,f 85,f 86,f 87,f 88,f 89,f 90,f 91,f 92,f 93,f 94,f 95,f 96,f 97,f 98,f 99,f 100,f 101,f 102],[]⟩ w
 refine rch_op (i:=7) (v:=.int .i64 3) (w':=w) rfl rfl rfl ?_
 show Rch Tryd.prog [.code .ret] _ (.inRegion wops5 [8] :: _) ⟨#[.bool false,v1,.int .i64 0,.pointer (some ⟨b3,0,none⟩),.int .i64 0,.pointer (some ⟨b5,0,none⟩),.int .i64 0,v7,.int .i64 0,.int .i64 0,.int .i64 3,f 11,f 12,f 13,f 14,f 15,f 16,f 17,f 18,f 19,f 20,f 21,f 22,f 23,f 24,f 25,f 26,f 27,f 28,f 29,f 30,f 31,f 32,f 33,f 34,f 35,.tuple #[.int .i64 0,.int .i64 3,.int .i64 0],f 37,.tuple #[.int .i64 0,.int .i64 3,.int .i64 0],.int .i64 0,.int .i64 3,.int .i64 0,f 42,f 43,f 44,f 45,f 46,f 47,f 48,f 49,f 50,f 51,f 52,f 53,f 54,f 55,f 56,f 57,f 58,f 59,f 60,f 61,f 62,f 63,f 64,f 65,f 66,f 67,f 68,f 69,f 70,f 71,f 72,f 73,f 74,f 75,f 76,f 77,f 78,f 79,f 80,f 81,f 82,f 83,f 84,f 85,f 86,f 87,f 88,f 89,f 90,f 91,f 92,f 93,f 94,f 95,f 96,f 97,f 98,f 99,f 100,f 101,f 102],[]⟩ w
 refine rch_op (i:=8) (v:=.int .i64 0) (w':=w) rfl rfl rfl ?_
 show Rch Tryd.prog [.code .ret] _ (.inRegion wops5 [] :: _) ⟨#[.bool false,v1,.int .i64 0,.pointer (some ⟨b3,0,none⟩),.int .i64 0,.pointer (some ⟨b5,0,none⟩),.int .i64 0,v7,.int .i64 0,.int .i64 0,.int .i64 3,.int .i64 0,f 12,f 13,f 14,f 15,f 16,f 17,f 18,f 19,f 20,f 21,f 22,f 23,f 24,f 25,f 26,f 27,f 28,f 29,f 30,f 31,f 32,f 33,f 34,f 35,.tuple #[.int .i64 0,.int .i64 3,.int .i64 0],f 37,.tuple #[.int .i64 0,.int .i64 3,.int .i64 0],.int .i64 0,.int .i64 3,.int .i64 0,f 42,f 43,f 44,f 45,f 46,f 47,f 48,f 49,f 50,f 51,f 52,f 53,f 54,f 55,f 56,f 57,f 58,f 59,f 60,f 61,f 62,f 63,f 64,f 65,f 66,f 67,f 68,f 69,f 70,f 71,f 72,f 73,f 74,f 75,f 76,f 77,f 78,f 79,f 80,f 81,f 82,f 83,f 84,f 85,f 86,f 87,f 88,f 89,f 90,f 91,f 92,f 93,f 94,f 95,f 96,f 97,f 98,f 99,f 100,f 101,f 102],[]⟩ w
 refine rch_region_end ?_
 show Rch Tryd.prog [.code .ret] _ [.code Wd6] ⟨#[.bool false,v1,.int .i64 0,.pointer (some ⟨b3,0,none⟩),.int .i64 0,.pointer (some ⟨b5,0,none⟩),.int .i64 0,v7,.int .i64 0,.int .i64 0,.int .i64 3,.int .i64 0,f 12,f 13,f 14,f 15,f 16,f 17,f 18,f 19,f 20,f 21,f 22,f 23,f 24,f 25,f 26,f 27,f 28,f 29,f 30,f 31,f 32,f 33,f 34,f 35,.tuple #[.int .i64 0,.int .i64 3,.int .i64 0],f 37,.tuple #[.int .i64 0,.int .i64 3,.int .i64 0],.int .i64 0,.int .i64 3,.int .i64 0,f 42,f 43,f 44,f 45,f 46,f 47,f 48,f 49,f 50,f 51,f 52,f 53,f 54,f 55,f 56,f 57,f 58,f 59,f 60,f 61,f 62,f 63,f 64,f 65,f 66,f 67,f 68,f 69,f 70,f 71,f 72,f 73,f 74,f 75,f 76,f 77,f 78,f 79,f 80,f 81,f 82,f 83,f 84,f 85,f 86,f 87,f 88,f 89,f 90,f 91,f 92,f 93,f 94,f 95,f 96,f 97,f 98,f 99,f 100,f 101,f 102],[]⟩ w
 refine rch_seq (rch_code ?_)
 go_wp2_with (first | (fail) | (go_at_call 42;refine calls_by hS ⟨_,reading4 _ _ _ _ _,?_⟩;clear hS;(try clear w');intro w' hS) |
  ((with_reducible refine gSl ?_);refine qraw hS rfl (run_bs23_1 (a:=⟨1,0,20,1⟩) rfl rfl) ?_;clear hS;(try clear w');intro bm a' hp;(try simp only [fr] at hp);subst hp;intro w' hS;obtain ⟨V2,hV2,hc2,hS2⟩:=pin hS;clear hS;have hS:=hS2;clear hS2) |
  (go_at_call 75;refine calls_melt1 hS (hB.mono hV2) hc2 ?_;clear hS;(try clear w');intro V3 vv3 rv3 w' hV3 hk3 hS) |
  (go_at_call 51;refine calls_beyond hS ((hB.mono hV2).mono hV3) hk3 val_beyond ?_;clear hS;(try clear w');intro w' hS))
 have hB3:Bs V3:=(hB.mono hV2).mono hV3
 have h1':VI V3 v1 [29,15,11,15]:=VSl.mono (VSl.mono h1 hV2) hV3
 have h7':VI V3 v7 [1]:=VSl.mono (VSl.mono h7 hV2) hV3
 have hr3:V3.Range b3 0 [.int .i64 15,.int .i64 17]:=fun j v hj=>by rw [Nat.zero_add];exact ((h3 j v hj).mono hV2).mono hV3
 have hr5:V3.Range b5 0 [.int .i64 1,.int .i64 5]:=fun j v hj=>by rw [Nat.zero_add];exact ((h5 j v hj).mono hV2).mono hV3
 clear h1 h7 h3 h5 hc2
 refine rch_seq (rch_code ?_)
 go_wp2_with (first | (((with_reducible refine gL ?_);refine qvn hS rfl rfl rfl ?_);refine ⟨_,zd,?_⟩;clear hS;(try clear w');intro a' hp;(try simp only [fr] at hp);subst hp;intro w' hS;(try simp only [sE] at hS)) | ((with_reducible refine gEq27 ?_);first | (refine qpure rfl (run_eq27a rfl rfl rfl) ?_;intro a' hp;(try simp only [fr] at hp);subst hp) | (refine qpure rfl (run_eq27b rfl rfl rfl) ?_;intro a' hp;(try simp only [fr] at hp);subst hp)) |
  (((with_reducible refine gSl ?_);refine qbsl hS rfl rfl ?_;refine ⟨_,zq,zd,?_⟩;clear hS;(try clear w');intro _;intro a' hp;(try simp only [fr] at hp);subst hp;intro w' hS);obtain ⟨V4,hV4,hc4,hS4⟩:=pin hS;clear hS;have hS:=hS4;clear hS4) |
  (go_at_call 31;first | (refine calls_eqints hS (VSl.mono h1' hV4) (sl_of (l:=[29,15,11,15]) (by decide) hc4) (by decide) (by decide) rfl ?_;clear hS;(try clear w');clear h1';intro w' hS;replace h7':=VSl.mono h7' hV4;clear hc4 hV4) | (refine calls_eqints hS (VSl.mono h7' hV4) (sl_of (l:=[1]) (by decide) hc4) (by decide) (by decide) rfl ?_;clear hS;(try clear w');intro w' hS)))
 exact rch_here (tgt:=[.code .ret]) ⟨rfl,rfl,hS.toKp⟩
end Go.Proofs.YtjjmefieegcddaaDoor
namespace Go.Proofs.YtjjmefieegcddaaDoor
open Go.RowKit Go.Wg Go.Mm Go.Wk
open Go Go.Sr Go.Ph Go.Tm Go.Conc
variable {w:World} {V:View}
theorem toB_co {b:Frame} {cs:List Frame} {Q:Goroutine→World→Prop} {a:Act} {N:FuncId} {args:Array Value} {R:Ending→World→Prop} {ops:Array Oper} {l:List Nat} {k0:List Item} {i:Nat} {o:Oper} (hc:CallsB Tryd.prog N args w R) (hh:HeapOk OC w) (hbk:b.kind=.normal)
  (ho:ops[i]? = some o) (hw:Region.wanted o (yielded ops a.tmps)=true) (hok':okOp true o.op=true) (hr:∀ w,(execOp a.eval o).run Tryd.prog w=.ok (.enter N args) w) (hpan:∀ ch w,¬ R (.panicked ch) w)
  (hk:∀ v w',R (.returned v) w'→HeapOk OC w'→ToB Tryd.prog (G (b.at (a.put o.dst v) (.inRegion ops l :: k0)) cs) w' Q):ToB Tryd.prog (G (b.at a (.inRegion ops (i :: l) :: k0)) cs) w Q:=by
 refine toB_op sokAll ho hw (by rw [hbk];decide) hok' hh (fun _ _ _=>trivial) fun d=>?_
 rw [hr]
 intro hhd
 have hat:∀ {Q:Goroutine→World→Prop} {g:Goroutine},ToB Tryd.prog g w Q→ToB Tryd.prog g (w.at d) Q:=fun h=>h.at
 exact hat (toB_called ho hc (fun v w1 hv hh1=>hk v w1 hv hh1) fun ch w1 hv _=>(hpan ch w1 hv).elim)
theorem ret_of {P:Program} {b:Frame} {cs:List Frame} {a:Act} {f:FuncId} {fn:Func} {v:Value} {R:Ending→World→Prop} {k0:List Item} (hb:b.fn=f) (hbk:b.kind=.normal) (hd:a.defers=[]) (hf:P.funcs[f]? = some fn) (hw:HeapOk OC w) (hr:(results fn a.tmps).run P w=.ok v w) (hR:R (.returned v) w) (hins:Ins R) :
  ToB P (G (b.at a (.code .ret :: k0)) cs) w (fun a' w'=>∃ e fr,a'=G fr cs∧R e w'∧fr.fn=f∧fr.leaving P w' e∧e≠.outgrown∧HeapOk OC w') :=
 toB_ret (toB_leave hb hbk hd hf hw hr hR hins)
set_option maxHeartbeats 2000000 in
theorem weighed_B (hB:Bs V) (hV:V.In w) (hh:HeapOk OC w):CallsB Tryd.prog 21 #[] w fun r w'=>r=.returned (.bool true)∧Kp w w':=by
 refine callsB_of_body Tryd.func21 (show Tryd.f21.body=some B21 from rfl) fun cs b hbf hbk hbr=>?_
 have e103:Tryd.f21.ntmps - (#[]:Array Value).size=103:=by kernel_rfl
 rw [e103]
 obtain ⟨tm0,htm⟩:∃ tm0,(#[]:Array Value) ++ Array.replicate 103 undef=tm0:=⟨_,rfl⟩
 rw [htm]
 refine toBN (tgt:=[.inRegion wops3 [1,2,3,4,5,6,7],.code Wd4]) hbf hbk (show [Item.code B21].all itemO=true by kernel_rfl) (fun d hd=>nomatch hd) hh (S:=Wd1 w V)
  (fun a w' τ d ⟨V',vv,rv,v1,b3,h1,h2,h3,h4,h5,h6,h7⟩=>⟨V',vv,rv,v1,b3,h1,h2,h3,h4,h5,h6,h7.re1 τ d⟩) (fun τ d=>?_) ?_
 ·rw [← htm]
  refine (weighed1 (w:=w.re τ d) hB hV).mono ?_
  rintro a w' ⟨V',vv,rv,v1,b3,h1,h2,h3,h4,h5,h6,h7⟩
  exact ⟨V',vv,rv,v1,b3,h1,h2,h3,h4,h5,h6,h7.re0⟩
 rintro a w1 ⟨V1,vv,rv,v1,b3,⟨f,rfl⟩,hV1,hk1,hv1,ho1,hc3,hS1⟩ hh1
 have hB1:=hB.mono hV1
 have hL:=Lost_B vv rv (meltK []) hk1 hB1.gv hS1.view hh1
 rw [val_lost] at hL
 refine toB_co (i:=1) (o:=wops3[1]!) hL hh1 hbk rfl rfl rfl (fun w=>?_) (fun ch w h=>nomatch h.1) ?_
 ·rw [run_call_body rfl Tryd.func40 (by kernel_rfl) rfl]
  simp only [List.map_toArray,List.map_cons,List.map_nil]
  rfl
 rintro v w2 ⟨hv,hk2⟩ hh2
 cases hv
 have hS2:=hS1.kp hk2
 obtain ⟨a2,ha2⟩:∃ a2:Act,a2=⟨#[.bool false,v1,.int .i64 0,.pointer (some ⟨b3,0,none⟩),.int .i64 0,f 5,f 6,f 7,f 8,f 9,f 10,f 11,f 12,f 13,f 14,f 15,f 16,f 17,f 18,f 19,f 20,f 21,f 22,f 23,f 24,.agg #[vv,rv],.tuple #[.agg #[.int .i64 1,.int .i64 5],.int .i64 0],f 27,f 28,f 29,f 30,f 31,f 32,f 33,f 34,f 35,f 36,f 37,f 38,f 39,f 40,f 41,f 42,f 43,f 44,f 45,f 46,f 47,f 48,f 49,f 50,f 51,f 52,f 53,f 54,f 55,f 56,f 57,f 58,f 59,f 60,f 61,f 62,f 63,f 64,f 65,f 66,f 67,f 68,f 69,f 70,f 71,f 72,f 73,f 74,f 75,f 76,f 77,f 78,f 79,f 80,f 81,f 82,f 83,f 84,f 85,f 86,f 87,f 88,f 89,f 90,f 91,f 92,f 93,f 94,f 95,f 96,f 97,f 98,f 99,f 100,f 101,f 102],[]⟩:=⟨_,rfl⟩
 have eA:(Act.put ⟨#[.bool false,v1,.int .i64 0,.pointer (some ⟨b3,0,none⟩),.int .i64 0,f 5,f 6,f 7,f 8,f 9,f 10,f 11,f 12,f 13,f 14,f 15,f 16,f 17,f 18,f 19,f 20,f 21,f 22,f 23,f 24,.agg #[vv,rv],f 26,f 27,f 28,f 29,f 30,f 31,f 32,f 33,f 34,f 35,f 36,f 37,f 38,f 39,f 40,f 41,f 42,f 43,f 44,f 45,f 46,f 47,f 48,f 49,f 50,f 51,f 52,f 53,f 54,f 55,f 56,f 57,f 58,f 59,f 60,f 61,f 62,f 63,f 64,f 65,f 66,f 67,f 68,f 69,f 70,f 71,f 72,f 73,f 74,f 75,f 76,f 77,f 78,f 79,f 80,f 81,f 82,f 83,f 84,f 85,f 86,f 87,f 88,f 89,f 90,f 91,f 92,f 93,f 94,f 95,f 96,f 97,f 98,f 99,f 100,f 101,f 102],[]⟩ (some 26) (.tuple #[spanV (1,5),.int .i64 0]))=a2:=by rw [ha2];rfl
 show ToB Tryd.prog (G (b.at (Act.put ⟨#[.bool false,v1,.int .i64 0,.pointer (some ⟨b3,0,none⟩),.int .i64 0,f 5,f 6,f 7,f 8,f 9,f 10,f 11,f 12,f 13,f 14,f 15,f 16,f 17,f 18,f 19,f 20,f 21,f 22,f 23,f 24,.agg #[vv,rv],f 26,f 27,f 28,f 29,f 30,f 31,f 32,f 33,f 34,f 35,f 36,f 37,f 38,f 39,f 40,f 41,f 42,f 43,f 44,f 45,f 46,f 47,f 48,f 49,f 50,f 51,f 52,f 53,f 54,f 55,f 56,f 57,f 58,f 59,f 60,f 61,f 62,f 63,f 64,f 65,f 66,f 67,f 68,f 69,f 70,f 71,f 72,f 73,f 74,f 75,f 76,f 77,f 78,f 79,f 80,f 81,f 82,f 83,f 84,f 85,f 86,f 87,f 88,f 89,f 90,f 91,f 92,f 93,f 94,f 95,f 96,f 97,f 98,f 99,f 100,f 101,f 102],[]⟩ (some 26) (.tuple #[spanV (1,5),.int .i64 0])) (.inRegion wops3 [2,3,4,5,6,7] :: [.code Wd4])) cs) w2 _
 rw [eA,ha2]
 refine toBN (tgt:=[.inRegion wops5 [1,2,3,4,5,6,7,8],.code Wd6]) hbf hbk (by kernel_rfl) (fun d hd=>nomatch hd) hh2 (S:=Wd2 w2 V1 v1 b3)
  (fun a w' τ d ⟨V',vv,rv,v1,b3,h1,h2,h3,h4,h5,h6,h7⟩=>⟨V',vv,rv,v1,b3,h1,h2,h3,h4,h5,h6,h7.re1 τ d⟩) (fun τ d=>?_) ?_
 ·refine (weighed2 (w:=w2.re τ d) hB1 hS2.view v1 b3 (fun j=>if j=25 then .agg #[vv,rv] else f j)).mono ?_
  rintro a w' ⟨V',vv,rv,v1,b3,h1,h2,h3,h4,h5,h6,h7⟩
  exact ⟨V',vv,rv,v1,b3,h1,h2,h3,h4,h5,h6,h7.re0⟩
 clear eA ha2
 rintro a w3 ⟨V3,vv3,rv3,v7,b5,⟨f3,rfl⟩,hV3,hk3,hv7,ho7,hc5,hS3⟩ hh3
 have hB3:=hB1.mono hV3
 have hN:=Next_B vv3 rv3 (meltK []) hk3 hB3.gv hS3.view hh3 0
 rw [val_next] at hN
 refine toB_co (i:=1) (o:=wops5[1]!) hN hh3 hbk rfl rfl rfl (fun w=>?_) (fun ch w h=>nomatch h.1) ?_
 ·rw [run_call_body rfl Tryd.func43 (by kernel_rfl) rfl]
  simp only [List.map_toArray,List.map_cons,List.map_nil]
  rfl
 rintro v w4 ⟨hv,hk4⟩ hh4
 cases hv
 have hS4:=hS3.kp hk4
 have hkp:=((hS1.toKp.trans hk2).trans hS3.toKp).trans hk4
 obtain ⟨a4,ha4⟩:∃ a4:Act,a4=⟨#[.bool false,v1,.int .i64 0,.pointer (some ⟨b3,0,none⟩),.int .i64 0,.pointer (some ⟨b5,0,none⟩),.int .i64 0,v7,.int .i64 0,f3 9,f3 10,f3 11,f3 12,f3 13,f3 14,f3 15,f3 16,f3 17,f3 18,f3 19,f3 20,f3 21,f3 22,f3 23,f3 24,f3 25,f3 26,f3 27,f3 28,f3 29,f3 30,f3 31,f3 32,f3 33,f3 34,f3 35,f3 36,.agg #[vv3,rv3],.tuple #[.int .i64 0,.int .i64 3,.int .i64 0],f3 39,f3 40,f3 41,f3 42,f3 43,f3 44,f3 45,f3 46,f3 47,f3 48,f3 49,f3 50,f3 51,f3 52,f3 53,f3 54,f3 55,f3 56,f3 57,f3 58,f3 59,f3 60,f3 61,f3 62,f3 63,f3 64,f3 65,f3 66,f3 67,f3 68,f3 69,f3 70,f3 71,f3 72,f3 73,f3 74,f3 75,f3 76,f3 77,f3 78,f3 79,f3 80,f3 81,f3 82,f3 83,f3 84,f3 85,f3 86,f3 87,f3 88,f3 89,f3 90,f3 91,f3 92,f3 93,f3 94,f3 95,f3 96,f3 97,f3 98,f3 99,f3 100,f3 101,f3 102],[]⟩:=⟨_,rfl⟩
 have eA:(Act.put ⟨#[.bool false,v1,.int .i64 0,.pointer (some ⟨b3,0,none⟩),.int .i64 0,.pointer (some ⟨b5,0,none⟩),.int .i64 0,v7,.int .i64 0,f3 9,f3 10,f3 11,f3 12,f3 13,f3 14,f3 15,f3 16,f3 17,f3 18,f3 19,f3 20,f3 21,f3 22,f3 23,f3 24,f3 25,f3 26,f3 27,f3 28,f3 29,f3 30,f3 31,f3 32,f3 33,f3 34,f3 35,f3 36,.agg #[vv3,rv3],f3 38,f3 39,f3 40,f3 41,f3 42,f3 43,f3 44,f3 45,f3 46,f3 47,f3 48,f3 49,f3 50,f3 51,f3 52,f3 53,f3 54,f3 55,f3 56,f3 57,f3 58,f3 59,f3 60,f3 61,f3 62,f3 63,f3 64,f3 65,f3 66,f3 67,f3 68,f3 69,f3 70,f3 71,f3 72,f3 73,f3 74,f3 75,f3 76,f3 77,f3 78,f3 79,f3 80,f3 81,f3 82,f3 83,f3 84,f3 85,f3 86,f3 87,f3 88,f3 89,f3 90,f3 91,f3 92,f3 93,f3 94,f3 95,f3 96,f3 97,f3 98,f3 99,f3 100,f3 101,f3 102],[]⟩ (some 38) (.tuple #[.int .i64 0,.int .i64 3,.int .i64 0]))=a4:=by rw [ha4];rfl
 show ToB Tryd.prog (G (b.at (Act.put ⟨#[.bool false,v1,.int .i64 0,.pointer (some ⟨b3,0,none⟩),.int .i64 0,.pointer (some ⟨b5,0,none⟩),.int .i64 0,v7,.int .i64 0,f3 9,f3 10,f3 11,f3 12,f3 13,f3 14,f3 15,f3 16,f3 17,f3 18,f3 19,f3 20,f3 21,f3 22,f3 23,f3 24,f3 25,f3 26,f3 27,f3 28,f3 29,f3 30,f3 31,f3 32,f3 33,f3 34,f3 35,f3 36,.agg #[vv3,rv3],f3 38,f3 39,f3 40,f3 41,f3 42,f3 43,f3 44,f3 45,f3 46,f3 47,f3 48,f3 49,f3 50,f3 51,f3 52,f3 53,f3 54,f3 55,f3 56,f3 57,f3 58,f3 59,f3 60,f3 61,f3 62,f3 63,f3 64,f3 65,f3 66,f3 67,f3 68,f3 69,f3 70,f3 71,f3 72,f3 73,f3 74,f3 75,f3 76,f3 77,f3 78,f3 79,f3 80,f3 81,f3 82,f3 83,f3 84,f3 85,f3 86,f3 87,f3 88,f3 89,f3 90,f3 91,f3 92,f3 93,f3 94,f3 95,f3 96,f3 97,f3 98,f3 99,f3 100,f3 101,f3 102],[]⟩ (some 38) (.tuple #[.int .i64 0,.int .i64 3,.int .i64 0])) (.inRegion wops5 [2,3,4,5,6,7,8] :: [.code Wd6])) cs) w4 _
 rw [eA,ha4]
 refine toBN (tgt:=[.code .ret]) hbf hbk (by kernel_rfl) (fun d hd=>nomatch hd) hh4 (S:=fun a w'=>a.tmps[0]? = some (.bool true)∧a.defers=[]∧Kp w4 w')
  (fun a w' τ d h=>⟨h.1,h.2.1,kp_re1 h.2.2 τ d⟩) (fun τ d=>?_) ?_
 ·refine (weighed3 (w:=w4.re τ d) hB3 hS4.view v1 v7 b3 b5 ho1 ho7 (VSl.mono hv1 hV3) hv7 (fun i v h=>(hc3 i v h).mono hV3) hc5 (fun j=>if j=37 then .agg #[vv3,rv3] else f3 j)).mono ?_
  rintro a w' ⟨h1,h2,h3⟩
  exact ⟨h1,h2,kp_re0 h3⟩
 rintro a w5 ⟨h0,hd,hk5⟩ hh5
 have g:a.tmps.getD 0 undef=.bool true:=by
  rw [Array.getD_eq_getD_getElem?,h0]
  rfl
 refine ret_of (v:=.bool true) hbf hbk hd Tryd.func21 hh5 ?_ ⟨rfl,hkp.trans hk5⟩ ins_kp
 have h:=results_tmp (fn:=Tryd.f21) (t:=0) (by kernel_rfl) a.tmps Tryd.prog w5
 rw [g] at h
 exact h
end Go.Proofs.YtjjmefieegcddaaDoor
namespace Go.Proofs.YtjjmefieegcddaaDoor
open Go.RowKit Go.Wg Go.Mm Go.Wk
open Go Go.Sr Go.Ph Go.Tm Go.Conc
variable {w:World} {V:View}
def LawS (N:Nat) (w:World) (a:Act) (w':World):Prop:=a.tmps.size=N∧a.defers=[]∧Kp w w'
theorem wanted_none {o:Oper} {y:Nat→Option Bool} (h:o.guard=none):Region.wanted o y=true:=by
 unfold Region.wanted
 rw [h]
theorem law_B {f:FuncId} {fn:Func} {B:Code} {args:Array Value} {m N d r:Nat} {ops:Array Oper} {k0:List Item} {o0 o1:Oper}
  (hf:Tryd.prog.funcs[f]? = some fn) (hb:fn.body=some B) (hm:fn.ntmps - args.size=m) (hit:[Item.code B].all itemO=true) (hit1:(Item.inRegion ops [1] :: .code .ret :: k0).all itemO=true)
  (hops0:ops[0]? = some o0) (hops1:ops[1]? = some o1) (hg0:o0.guard=none) (hg1:o1.guard=none) (hc0:o0.op=.call { callee:=.value (.func 21),args:=#[],argTypes:=#[] }) (hd0:o0.dst=some d)
  (h1:∀ (ρ:Operand→Value) (w:World),(execOp ρ o1).run Tryd.prog w=.ok (.value (ρ (.tmp d))) w) (hd1:o1.dst=some r) (hd:d < N) (hr:r < N) (hres:fn.results=#[.tmp r])
  (hB:Bs V) (hV:V.In w) (hh:HeapOk OC w)
  (hs:∀ τ δ,Rch Tryd.prog (.inRegion ops [0,1] :: .code .ret :: k0) (LawS N (w.re τ δ)) [.code B] { tmps:=args ++ Array.replicate m undef,defers:=[] } (w.re τ δ)) :
  CallsB Tryd.prog f args w fun r w'=>r=.returned (.bool true)∧Kp w w':=by
 refine callsB_of_body hf hb fun cs b hbf hbk hbr=>?_
 rw [hm]
 refine toBN (tgt:=.inRegion ops [0,1] :: .code .ret :: k0) hbf hbk hit (fun d hd=>nomatch hd) hh (S:=LawS N w)
  (fun a w' τ d h=>⟨h.1,h.2.1,kp_re1 h.2.2 τ d⟩) (fun τ d=>(hs τ d).mono fun a w' h=>⟨h.1,h.2.1,kp_re0 h.2.2⟩) ?_
 rintro a w1 ⟨hsz,hdf,hk1⟩ hh1
 have hW:=weighed_B hB (hV.kp hk1) hh1
 refine toB_co (i:=0) (o:=o0) hW hh1 hbk hops0 (wanted_none hg0) (by rw [hc0];rfl) (fun w=>?_) (fun ch w h=>nomatch h.1) ?_
 ·rw [run_call_body hc0 Tryd.func21 (by kernel_rfl) rfl]
  simp only [List.map_toArray,List.map_nil]
 rintro v w2 ⟨hv,hk2⟩ hh2
 cases hv
 rw [hd0]
 have e1:(a.put (some d) (.bool true)).eval (.tmp d)=.bool true:=by
  show (a.tmps.setIfInBounds d (.bool true)).getD d undef=_
  simp [Array.getD_eq_getD_getElem?,hsz,hd]
 refine toBN (tgt:=.code .ret :: k0) hbf hbk hit1 (fun x hx=>by rw [show (a.put (some d) (.bool true)).defers=[] from hdf] at hx;nomatch hx) hh2 (S:=fun a w'=>a.tmps[r]? = some (.bool true)∧a.defers=[]∧Kp w2 w')
  (fun a w' τ d h=>⟨h.1,h.2.1,kp_re1 h.2.2 τ d⟩) (fun τ δ=>?_) ?_
 ·refine rch_op (i:=1) (o:=o1) (v:=.bool true) (w':=w2.re τ δ) hops1 (wanted_none hg1) (by rw [h1,e1]) (rch_region_end (rch_here ⟨?_,?_,kp_re1 (Kp.refl _) τ δ⟩))
  ·rw [hd1]
   show ((a.tmps.setIfInBounds d (.bool true)).setIfInBounds r (.bool true))[r]? = _
   simp [hsz,hr]
  ·rw [hd1]
   exact hdf
 rintro a w3 ⟨h0,hd,hk3⟩ hh3
 have g:a.tmps.getD r undef=.bool true:=by
  rw [Array.getD_eq_getD_getElem?,h0]
  rfl
 refine ret_of (v:=.bool true) hbf hbk hd hf hh3 ?_ ⟨rfl,(hk1.trans hk2).trans hk3⟩ ins_kp
 have h:=results_tmp (fn:=fn) (t:=r) hres a.tmps Tryd.prog w3
 rw [g] at h
 exact h
theorem he_calls {P:Program} {l:List Oper} {md:Region.Mode} {o:Oper} {a:Act} {Q:Exit→Act→World→Prop} {S:World→Prop} {fuel:Nat} {listed:Array Bool} (i:Nat) (hr:Region.ready md l.toArray listed=[i]) (hi₀:l[i]? = some o) (hw:Region.wanted o (yielded l.toArray a.tmps)=true)
  (h:∃ f args,(execOp a.eval o).run P w=.ok (.enter f args) w∧Calls P f args w fun e w'=>∃ v,e=.returned v∧∀ a' l',a.put o.dst v=a'→listed.setIfInBounds i true=l'→S w'∧wpAnyH P md l.toArray Q S fuel l' a' w'):wpAnyH P md l.toArray Q S (fuel+1) listed a w:=by
 obtain ⟨f,args,hr',hc⟩:=h
 exact he_one hr (wpo_enterE (R:=fun v w'=>∀ a' l',a.put o.dst v=a'→listed.setIfInBounds i true=l'→S w'∧wpAnyH P md l.toArray Q S fuel l' a' w') (hi_of hi₀) hw hr' hc fun v w' h=>h _ _ rfl rfl)
theorem calls_int1 {w0:World} {X:List Nat} {L:List Ent} {f:FuncId} {args:Array Value} {R:Ending→World→Prop} {l:List Int} (hS:St w0 X V L w) (hc:Calls Tryd.prog f args w fun r w'=>∃ u,r=.returned u∧Kp w w'∧OwnInts w w' u l)
  (h:∀ (V':View) (v:Value) (w':World),(∀ j o,V j=some o→V' j=some o)→VI V' v l→v.oneCell'=true→St w0 X V' L w'→R (.returned v) w'):Calls Tryd.prog f args w R :=
 hc.mono fun r w' ⟨v,he,hk,ho⟩=>by
  obtain ⟨V',hV',hS',hv⟩:=own_view hS hk ho
  subst he
  obtain ⟨a,cap,hi,_⟩:=hv.is
  exact h V' v w' hV' ⟨⟨a,cap,hi,‹_›⟩⟩ (by rw [hi];rfl) hS'
theorem vsl_one {v:Value} {n sz:Nat} {get:Nat→List Value} (h:VSl V v n sz get):v.oneCell'=true:=by
 obtain ⟨a,cap,rfl,_⟩:=h.is
 rfl
theorem calls_canB {w0:World} {X:List Nat} {L:List Ent} {vv rv:Value} {k:Wk} {R:Ending→World→Prop} {t:Bool} {e:Int} (hS:St w0 X V L w) (hB:Bs V) (hk:WkIn V vv rv k) (hv:canE k=(t,e))
  (h:∀ w',St w0 X V L w'→R (.returned (.tuple #[.bool t,.int .i64 e])) w'):Calls Tryd.prog 25 #[.agg #[vv,rv]] w R:=by
 have hc:=Can_ok vv rv k hk hB.gv hS.view
 rw [hv] at hc
 exact calls_by hS ⟨_,hc,h⟩
end Go.Proofs.YtjjmefieegcddaaDoor
