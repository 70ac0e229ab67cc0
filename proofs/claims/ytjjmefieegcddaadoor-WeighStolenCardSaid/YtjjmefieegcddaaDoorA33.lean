/- A part of the proof: W47, W48, W49, W50, W51, W52, W53. -/
import Derived.Test.YtjjmefieegcddaaDoorA32
import Derived.Maps.OwnOps
set_option linter.unusedVariables false
set_option linter.unusedSimpArgs false
namespace Go.Proofs.YtjjmefieegcddaaDoor
open Go.RowKit Go.Wg Go.Mm Go.Wk
open Go Go.Sr Go.Ph Go.Tm Go.Conc
variable {w:World} {V:View} {DS:List Deferred}
noncomputable def N20:Code:=match NL2 with | .seq _ (.seq (.block _ (.seq _ (.seq _ c))) _)=>c | _=>.skip
noncomputable def nmid:List Item:=.code N20 :: .inBlock 3 :: .code NR17 :: .inLoop NL2 :: ntail
set_option maxRecDepth 20000 in
set_option maxHeartbeats 4000000 in
theorem next3a {p:Nat} {k:Wk} {D:List Nat} {b8:Nat} {s:SS} (hX:NX V p k D b8 s) (hs:s.WF) (err:Int) (he0:0≤err) (he9:err≤9) (i:Nat) (hi:i < k.n) (mb b14:Nat) (r:Int × Int) (hr:V.Range b14 0 [.int .i64 r.1,.int .i64 r.2]) (hr0:0≤r.2) (hr4:r.2≤40)
  (sh:Int) (hsh0:-9≤sh) (hsh:sh≤r.2+err) (v6 v9 v10 v12 v37 v38:Value) (f:Nat→Value) (hV:V.In w) :
  Rch Tryd.prog nmid (fun a w'=>∃ b16,((∃ f,a=⟨tmN (.int .i64 err) v6 (ptr p) (ptr b8) v9 v10 (.int .i64 i) v12 (.map (some mb)) (ptr b14) (.int .i64 sh) v37 v38 f,DS⟩)∧a.tmps[16]? = some (ptr b16))∧St w [] V [.blk b16 100 (stC (s.setLim i (nxLim s i err sh)))] w')
   nhead2 ⟨tmN (.int .i64 err) v6 (ptr p) (ptr b8) v9 v10 (.int .i64 i) v12 (.map (some mb)) (ptr b14) (.int .i64 sh) v37 v38 f,DS⟩ w:=by
 have hn6:k.n≤6:=by obtain ⟨ts,x,y,hc⟩:=hX.cel;exact hc.le
 have HL:(stC s).length=18:=stC_len hs
 have h0:(0:Int)≤i:=by omega
 have h6:i < 6:=by omega
 have h7:(i:Int) < 6:=by omega
 have hr8:=hX.s8
 have hl8:(stC s)[i]? = some (.int .u64 (s.limAt i:Nat)):=stC_lim hs h6
 have HB:=bits_and (s.limAt i) (spanB (sh - err) (sh+err)) (by have:=hs.limAt_lt i;omega) (by have:=spanB_lt (sh - err) (sh+err);omega)
 have HS:=stC_setlim hs h6 (s.limAt i &&& spanB (sh - err) (sh+err))
 have HN:nxLim s i err sh=s.limAt i &&& spanB (sh - err) (sh+err):=rfl
 rw [HN]
 clear HN
 replace HB:=mkHid HB;replace HS:=mkHid HS
 have hc14:V.Cell b14 1 (.int .i64 r.2):=hr 1 _ rfl
 have hS:=St.start w V hV
 rw [show tmN (.int .i64 err) v6 (ptr p) (ptr b8) v9 v10 (.int .i64 i) v12 (.map (some mb)) (ptr b14) (.int .i64 sh) v37 v38 f=#[f 0,.int .i64 err,f 2,f 3,f 4,f 5,v6,.pointer (some ⟨p,0,none⟩),.pointer (some ⟨b8,0,none⟩),v9,v10,.int .i64 i,v12,.map (some mb),.pointer (some ⟨b14,0,none⟩),.int .i64 sh,f 16,f 17,f 18,f 19,f 20,f 21,f 22,f 23,f 24,f 25,f 26,f 27,f 28,f 29,f 30,f 31,f 32,f 33,f 34,f 35,f 36,v37,v38,f 39,f 40,f 41,f 42,f 43,f 44,f 45,f 46,f 47,f 48,f 49,f 50,f 51,f 52,f 53,f 54,f 55,f 56,f 57,f 58,f 59,f 60,f 61,f 62,f 63,f 64,f 65,f 66,f 67,f 68,f 69,f 70,f 71,f 72,f 73,f 74,f 75,f 76,f 77,f 78,f 79,f 80,f 81,f 82,f 83,f 84,f 85,f 86,f 87,f 88,f 89,f 90,f 91,f 92,f 93,f 94,f 95,f 96,f 97,f 98,f 99,f 100,f 101,f 102,f 103,f 104,f 105] from by unfold tmN ptr;rfl]
 refine rch_seq (rch_code ?_)
 go_wp2_with (((with_reducible refine gL ?_);refine qv1 hS rfl rfl rfl ?_);refine ⟨_,zd,?_⟩;clear hS;(try clear w');intro a' hp;(try simp only [fr] at hp);subst hp;intro w' hS;(try simp only [sE] at hS))
 refine rch_seq (rch_block (rch_seq (rch_code ?_)))
 go_wp2_with (first | ((first | ((with_reducible refine gL ?_);refine qvn hS rfl rfl rfl ?_) | ((with_reducible refine gS ?_);refine qsall hS rfl rfl rfl ?_));refine ⟨_,zd,?_⟩;clear hS;(try clear w');intro a' hp;(try simp only [fr] at hp);subst hp;intro w' hS;(try simp only [sE] at hS)) | ((with_reducible refine gA ?_);refine qallocd 16 rfl hS rfl rfl ?_;clear hS;(try clear w');intro b16;intro a' hp;(try simp only [fr] at hp);subst hp;intro w' hS))
 refine rch_seq (rch_code ?_)
 (refine wp_region_quiet_tail 14 (by kernel_rfl) (by kernel_rfl) (St.drew1 hS) ?_;simp only [List.take_succ_cons,List.take_zero,List.drop_succ_cons,List.drop_zero];clear hS;(repeat ((go_big_quiet_want;(first | ((with_reducible refine gqM ?_);refine quiet_mv rfl rfl ?_;intro a' hp;(try simp only [fr] at hp);subst hp) | ((with_reducible refine gqL ?_);(refine quiet_l1 rfl rfl ?_);refine ⟨_,zd,?_⟩;intro a' hp;(try simp only [fr] at hp);subst hp) | ((with_reducible refine gqV ?_);refine quiet_con ?_;refine ⟨_,_,by (intro _;go_simp;exact ⟨rfl,rfl⟩),?_⟩;refine ⟨_,by (intro w' hS;((go_at_call 100;exact span_ok _ _ _))),?_⟩;intro a' hp;(try simp only [fr] at hp);subst hp) | (refine quiet_pure ?_;refine ⟨_,zp,?_⟩;intro a' hp;(try simp only [fr] at hp);subst hp));go_big_quiet_on)));refine wpQuiet_nil ?_;(try clear w');intro w' hS)
 go_wp2_with ((((with_reducible refine gS ?_);refine qs1 hS rfl rfl rfl ?_);refine ⟨_,zd,?_⟩;clear hS;(try clear w');intro a' hp;(try simp only [fr] at hp);subst hp;intro w' hS;(try simp only [sE] at hS));try (simp only [HB.out,HS.out] at hS))
 exact rch_here (tgt:=nmid) ⟨b16,⟨tmN_of rfl,rfl⟩,hS⟩
end Go.Proofs.YtjjmefieegcddaaDoor
namespace Go.Proofs.YtjjmefieegcddaaDoor
open Go.RowKit Go.Wg Go.Mm Go.Wk
open Go Go.Sr Go.Ph Go.Tm Go.Conc
variable {w:World} {V:View} {DS:List Deferred}
theorem run_look134 {o:Oper} {ρ:Operand→Value} {m x:Operand} {b n key:Nat} {l:List Nat} (ho:o.op=.lookup 134 m x false) (hm:ρ m=.map (some b)) (hx:ρ x=.int .u64 (key:Int)) (h:MapS w b n l) (hk:key < 18446744073709551616) :
  (execOp ρ o).run Tryd.prog w=.ok (.value (.bool (l.contains key))) w:=by
 have hl:=h.look hk
 unfold execOp
 simp only [ho,hm,hx,Sem.run_bind,hl]
 rfl
set_option maxRecDepth 20000 in
set_option maxHeartbeats 4000000 in
theorem next3met {p:Nat} {k:Wk} {D:List Nat} {b8:Nat} {s x:SS} (hX:NX V p k D b8 s) (hx:x.WF) (err:Int) (i:Nat) (hi:i < k.n) (mb b14 b16 cnt:Nat) (l:List Nat) (hmap:MapS w mb cnt l) (h16:V.Range b16 0 (stC x))
  (sh:Int) (hsh0:-9≤sh) (hsh:sh≤49) (v6 v9 v10 v12 v37 v38:Value) (f:Nat→Value) (hf16:f 16=ptr b16) (hV:V.In w) (hmet:l.contains (x.limAt i)=true) :
  Rch Tryd.prog nhead2 (fun a w'=>(∃ f,a=⟨tmN (.int .i64 err) v6 (ptr p) (ptr b8) v9 v10 (.int .i64 i) v12 (.map (some mb)) (ptr b14) (.int .i64 (sh+1)) v37 v38 f,DS⟩)∧Kp w w') nmid ⟨tmN (.int .i64 err) v6 (ptr p) (ptr b8) v9 v10 (.int .i64 i) v12 (.map (some mb)) (ptr b14) (.int .i64 sh) v37 v38 f,DS⟩ w:=by
 have hn6:k.n≤6:=by obtain ⟨ts,y,z,hc⟩:=hX.cel;exact hc.le
 have HL:(stC x).length=18:=stC_len hx
 have h0:(0:Int)≤i:=by omega
 have h6:i < 6:=by omega
 have h7:(i:Int) < 6:=by omega
 have hl8:(stC x)[i]? = some (.int .u64 (x.limAt i:Nat)):=stC_lim hx h6
 have hc16:V.Cell b16 i (.int .u64 (x.limAt i:Nat)):=by
  have:=h16 i _ hl8
  rwa [Nat.zero_add] at this
 have hm64:x.limAt i < 18446744073709551616:=by have:=hx.limAt_lt i;omega
 have hS:=St.start w V hV
 rw [show tmN (.int .i64 err) v6 (ptr p) (ptr b8) v9 v10 (.int .i64 i) v12 (.map (some mb)) (ptr b14) (.int .i64 sh) v37 v38 f=#[f 0,.int .i64 err,f 2,f 3,f 4,f 5,v6,.pointer (some ⟨p,0,none⟩),.pointer (some ⟨b8,0,none⟩),v9,v10,.int .i64 i,v12,.map (some mb),.pointer (some ⟨b14,0,none⟩),.int .i64 sh,.pointer (some ⟨b16,0,none⟩),f 17,f 18,f 19,f 20,f 21,f 22,f 23,f 24,f 25,f 26,f 27,f 28,f 29,f 30,f 31,f 32,f 33,f 34,f 35,f 36,v37,v38,f 39,f 40,f 41,f 42,f 43,f 44,f 45,f 46,f 47,f 48,f 49,f 50,f 51,f 52,f 53,f 54,f 55,f 56,f 57,f 58,f 59,f 60,f 61,f 62,f 63,f 64,f 65,f 66,f 67,f 68,f 69,f 70,f 71,f 72,f 73,f 74,f 75,f 76,f 77,f 78,f 79,f 80,f 81,f 82,f 83,f 84,f 85,f 86,f 87,f 88,f 89,f 90,f 91,f 92,f 93,f 94,f 95,f 96,f 97,f 98,f 99,f 100,f 101,f 102,f 103,f 104,f 105] from by unfold tmN;simp only [hf16,ptr]]
 refine rch_seq (rch_seq (rch_code ?_))
 go_wp2_with (first | (((with_reducible refine gL ?_);refine qv1 hS rfl rfl rfl ?_);refine ⟨_,zd,?_⟩;clear hS;(try clear w');intro a' hp;(try simp only [fr] at hp);subst hp;intro w' hS;(try simp only [sE] at hS)) | (at_lookup;refine wpl_value rfl (run_look134 rfl rfl rfl (MapS.of_heap hmap (hS.toKp.old mb (MapS.lt hmap))) hm64) ?_;rw [hmet]))
 refine rch_cond (t:=true) rfl (rch_exit rfl ?_)
 refine rch_code ?_
 conv=>enter [2];whnf
 go_wp2_with (fail)
 refine rch_inLoop ?_
 exact rch_here (tgt:=nhead2) ⟨tmN_of rfl,hS.toKp⟩
set_option maxRecDepth 20000 in
set_option maxHeartbeats 4000000 in
theorem next3no {p:Nat} {k:Wk} {D:List Nat} {b8:Nat} {s x:SS} (hX:NX V p k D b8 s) (hx:x.WF) (err:Int) (i:Nat) (hi:i < k.n) (mb b14 b16 cnt:Nat) (l:List Nat) (hmap:MapS w mb cnt l) (h16:V.Range b16 0 (stC x))
  (sh:Int) (hsh0:-9≤sh) (hsh:sh≤49) (v6 v9 v10 v12 v37 v38:Value) (f:Nat→Value) (hf16:f 16=ptr b16) (hV:V.In w) (hmet:l.contains (x.limAt i)=false) (hcan:can k x=false) :
  Rch Tryd.prog nhead2 (fun a w'=>(∃ f,a=⟨tmN (.int .i64 err) v6 (ptr p) (ptr b8) v9 v10 (.int .i64 i) v12 (.map (some mb)) (ptr b14) (.int .i64 (sh+1)) v37 v38 f,DS⟩)∧Kp w w') nmid ⟨tmN (.int .i64 err) v6 (ptr p) (ptr b8) v9 v10 (.int .i64 i) v12 (.map (some mb)) (ptr b14) (.int .i64 sh) v37 v38 f,DS⟩ w:=by
 have hn6:k.n≤6:=by obtain ⟨ts,y,z,hc⟩:=hX.cel;exact hc.le
 have HL:(stC x).length=18:=stC_len hx
 have h0:(0:Int)≤i:=by omega
 have h6:i < 6:=by omega
 have h7:(i:Int) < 6:=by omega
 have hl8:(stC x)[i]? = some (.int .u64 (x.limAt i:Nat)):=stC_lim hx h6
 have hc16:V.Cell b16 i (.int .u64 (x.limAt i:Nat)):=by
  have:=h16 i _ hl8
  rwa [Nat.zero_add] at this
 have hm64:x.limAt i < 18446744073709551616:=by have:=hx.limAt_lt i;omega
 have hS:=St.start w V hV
 rw [show tmN (.int .i64 err) v6 (ptr p) (ptr b8) v9 v10 (.int .i64 i) v12 (.map (some mb)) (ptr b14) (.int .i64 sh) v37 v38 f=#[f 0,.int .i64 err,f 2,f 3,f 4,f 5,v6,.pointer (some ⟨p,0,none⟩),.pointer (some ⟨b8,0,none⟩),v9,v10,.int .i64 i,v12,.map (some mb),.pointer (some ⟨b14,0,none⟩),.int .i64 sh,.pointer (some ⟨b16,0,none⟩),f 17,f 18,f 19,f 20,f 21,f 22,f 23,f 24,f 25,f 26,f 27,f 28,f 29,f 30,f 31,f 32,f 33,f 34,f 35,f 36,v37,v38,f 39,f 40,f 41,f 42,f 43,f 44,f 45,f 46,f 47,f 48,f 49,f 50,f 51,f 52,f 53,f 54,f 55,f 56,f 57,f 58,f 59,f 60,f 61,f 62,f 63,f 64,f 65,f 66,f 67,f 68,f 69,f 70,f 71,f 72,f 73,f 74,f 75,f 76,f 77,f 78,f 79,f 80,f 81,f 82,f 83,f 84,f 85,f 86,f 87,f 88,f 89,f 90,f 91,f 92,f 93,f 94,f 95,f 96,f 97,f 98,f 99,f 100,f 101,f 102,f 103,f 104,f 105] from by unfold tmN;simp only [hf16,ptr]]
 refine rch_seq (rch_seq (rch_code ?_))
 go_wp2_with (first | (((with_reducible refine gL ?_);first | refine qv1 hS rfl rfl rfl ?_ | refine qvn hS rfl rfl rfl ?_);refine ⟨_,zd,?_⟩;clear hS;(try clear w');intro a' hp;(try simp only [fr] at hp);subst hp;intro w' hS;(try simp only [sE] at hS)) | (at_lookup;refine wpl_value rfl (run_look134 rfl rfl rfl (MapS.of_heap hmap (hS.toKp.old mb (MapS.lt hmap))) hm64) ?_;rw [hmet]) | (go_at_call 78;refine calls_by hS ⟨_,can_ok V p k hX.cel hX.gv x hx _ (St.view hS),?_⟩;rw [hcan];clear hS;(try clear w');intro w' hS))
 refine rch_cond (t:=true) rfl (rch_exit rfl ?_)
 refine rch_code ?_
 conv=>enter [2];whnf
 go_wp2_with (fail)
 refine rch_inLoop ?_
 exact rch_here (tgt:=nhead2) ⟨tmN_of rfl,hS.toKp⟩
theorem run_put134 {o:Oper} {ρ:Operand→Value} {m x y:Operand} {b:Nat} {key:Nat} {w w':World} (ho:o.op=.mapUpdate 134 m x y) (hm:ρ m=.map (some b)) (hx:ρ x=.int .u64 (key:Int)) (hy:ρ y=.bool true)
  (h:(Instr.mapUpdate 134 (.map (some b)) (.int .u64 (key:Int)) (.bool true)).run Tryd.prog w=.ok () w'):(execOp ρ o).run Tryd.prog w=.ok .skip w':=by
 unfold execOp
 simp only [ho,hm,hx,hy,Sem.run_bind,h]
 rfl
set_option maxRecDepth 20000 in
set_option maxHeartbeats 4000000 in
theorem next3yes {p:Nat} {k:Wk} {D:List Nat} {b8:Nat} {s x:SS} (hX:NX V p k D b8 s) (hx:x.WF) (err:Int) (i:Nat) (hi:i < k.n) (mb b14 b16 cnt:Nat) (l:List Nat) (hmap:MapS w mb cnt l) (h16:V.Range b16 0 (stC x))
  (sh:Int) (hsh0:-9≤sh) (hsh:sh≤49) (v6 v9 v10 v12 v37 v38:Value) (f:Nat→Value) (hf16:f 16=ptr b16) (hV:V.In w) (hmet:l.contains (x.limAt i)=false) (hcan:can k x=true) (hcnt:cnt < 1000000) (hVm:V mb=none) :
  Rch Tryd.prog (nat22 [3,4,5,6]) (fun a w'=>((∃ f,a=⟨tmN (.int .i64 err) v6 (ptr p) (ptr b8) v9 v10 (.int .i64 i) v12 (.map (some mb)) (ptr b14) (.int .i64 sh) v37 v38 f,DS⟩)∧a.tmps[90]? = some v12∧a.tmps[91]? = some (ptr p)∧a.tmps[92]? = some (.agg (stC x).toArray))∧MapS w' mb (cnt+1) (x.limAt i :: l)∧KpBut mb w w')
   nmid ⟨tmN (.int .i64 err) v6 (ptr p) (ptr b8) v9 v10 (.int .i64 i) v12 (.map (some mb)) (ptr b14) (.int .i64 sh) v37 v38 f,DS⟩ w:=by
 have hn6:k.n≤6:=by obtain ⟨ts,y,z,hc⟩:=hX.cel;exact hc.le
 have HL:(stC x).length=18:=stC_len hx
 have h0:(0:Int)≤i:=by omega
 have h6:i < 6:=by omega
 have h7:(i:Int) < 6:=by omega
 have hl8:(stC x)[i]? = some (.int .u64 (x.limAt i:Nat)):=stC_lim hx h6
 have hc16:V.Cell b16 i (.int .u64 (x.limAt i:Nat)):=by
  have:=h16 i _ hl8
  rwa [Nat.zero_add] at this
 have hm64:x.limAt i < 18446744073709551616:=by have:=hx.limAt_lt i;omega
 have hS:=St.start w V hV
 rw [show tmN (.int .i64 err) v6 (ptr p) (ptr b8) v9 v10 (.int .i64 i) v12 (.map (some mb)) (ptr b14) (.int .i64 sh) v37 v38 f=#[f 0,.int .i64 err,f 2,f 3,f 4,f 5,v6,.pointer (some ⟨p,0,none⟩),.pointer (some ⟨b8,0,none⟩),v9,v10,.int .i64 i,v12,.map (some mb),.pointer (some ⟨b14,0,none⟩),.int .i64 sh,.pointer (some ⟨b16,0,none⟩),f 17,f 18,f 19,f 20,f 21,f 22,f 23,f 24,f 25,f 26,f 27,f 28,f 29,f 30,f 31,f 32,f 33,f 34,f 35,f 36,v37,v38,f 39,f 40,f 41,f 42,f 43,f 44,f 45,f 46,f 47,f 48,f 49,f 50,f 51,f 52,f 53,f 54,f 55,f 56,f 57,f 58,f 59,f 60,f 61,f 62,f 63,f 64,f 65,f 66,f 67,f 68,f 69,f 70,f 71,f 72,f 73,f 74,f 75,f 76,f 77,f 78,f 79,f 80,f 81,f 82,f 83,f 84,f 85,f 86,f 87,f 88,f 89,f 90,f 91,f 92,f 93,f 94,f 95,f 96,f 97,f 98,f 99,f 100,f 101,f 102,f 103,f 104,f 105] from by unfold tmN;simp only [hf16,ptr]]
 refine rch_seq (rch_seq (rch_code ?_))
 go_wp2_with (first | (((with_reducible refine gL ?_);first | refine qv1 hS rfl rfl rfl ?_ | refine qvn hS rfl rfl rfl ?_);refine ⟨_,zd,?_⟩;clear hS;(try clear w');intro a' hp;(try simp only [fr] at hp);subst hp;intro w' hS;(try simp only [sE] at hS)) | (at_lookup;refine wpl_value rfl (run_look134 rfl rfl rfl (MapS.of_heap hmap (hS.toKp.old mb (MapS.lt hmap))) hm64) ?_;rw [hmet]) | (go_at_call 78;refine calls_by hS ⟨_,can_ok V p k hX.cel hX.gv x hx _ (St.view hS),?_⟩;rw [hcan];clear hS;(try clear w');intro w' hS))
 refine rch_cond (t:=false) rfl (rch_skip ?_)
 refine rch_seq (rch_code ?_)
 go_wp2_with (first | (((with_reducible refine gL ?_);refine qv1 hS rfl rfl rfl ?_);refine ⟨_,zd,?_⟩;clear hS;(try clear w');intro a' hp;(try simp only [fr] at hp);subst hp;intro w' hS;(try simp only [sE] at hS)) | (at_mapUpdate;obtain ⟨w2,hr2,hm2,hg2⟩:=(MapS.of_heap hmap (hS.toKp.old mb (MapS.lt hmap))).put hm64 hcnt;refine wpl_skip rfl (run_put134 rfl rfl rfl rfl hr2) ?_))
 have hkb:KpBut mb w w2:=⟨hg2.os.trans hS.os,hg2.output.trans hS.output,Nat.le_trans hS.size hg2.size,fun j hj hn=>(hg2.block j (Nat.lt_of_lt_of_le hj hS.size) (fun h=>hn (Option.some.inj h))).trans (hS.toKp.old j hj)⟩
 have hin2:V.In w2:=fun j o h=>by
  have hj:=hV j o h
  rw [hkb.old j (lt_of_heap hj) (by rintro rfl;rw [hVm] at h;cases h)]
  exact hj
 refine rch_region ?_
 refine rch_op (i:=0) (v:=v12) (w':=w2) rfl rfl rfl ?_
 refine rch_op (i:=1) (v:=.pointer (some ⟨p,0,none⟩)) (w':=w2) rfl rfl rfl ?_
 refine rch_op (i:=2) rfl rfl (run_loadn (n:=18) rfl rfl RowT.ok HL (h16.range hin2)) ?_
 show Rch Tryd.prog (nat22 [3,4,5,6]) _ _ ⟨#[f 0,.int .i64 err,f 2,f 3,f 4,f 5,v6,.pointer (some ⟨p,0,none⟩),.pointer (some ⟨b8,0,none⟩),v9,v10,.int .i64 i,v12,.map (some mb),.pointer (some ⟨b14,0,none⟩),.int .i64 sh,.pointer (some ⟨b16,0,none⟩),f 17,f 18,f 19,f 20,f 21,f 22,f 23,f 24,f 25,f 26,f 27,f 28,f 29,f 30,f 31,f 32,f 33,f 34,f 35,f 36,v37,v38,f 39,f 40,f 41,f 42,f 43,f 44,f 45,f 46,f 47,f 48,f 49,f 50,f 51,f 52,f 53,f 54,f 55,f 56,f 57,f 58,f 59,f 60,f 61,f 62,f 63,f 64,f 65,f 66,f 67,f 68,f 69,f 70,f 71,f 72,.map (some mb),.int .i64 i,.pointer (some ⟨b16,0,none⟩),.pointer (some ⟨b16,i,none⟩),.int .u64 (x.limAt i:Nat),.bool false,.bool false,.pointer (some ⟨p,0,none⟩),.agg (stC x).toArray,.bool true,.bool false,.bool false,.map (some mb),.int .i64 i,.pointer (some ⟨b16,0,none⟩),.pointer (some ⟨b16,i,none⟩),.int .u64 (x.limAt i:Nat),v12,.pointer (some ⟨p,0,none⟩),.agg (stC x).toArray,f 93,f 94,f 95,f 96,f 97,f 98,f 99,f 100,f 101,f 102,f 103,f 104,f 105],DS⟩ w2
 exact rch_here (tgt:=nat22 [3,4,5,6]) ⟨⟨tmN_of rfl,rfl,rfl,rfl⟩,hm2,hkb⟩
end Go.Proofs.YtjjmefieegcddaaDoor
namespace Go.Proofs.YtjjmefieegcddaaDoor
open Go.RowKit Go.Wg Go.Mm Go.Wk
open Go Go.Sr Go.Ph Go.Tm Go.Conc
variable {w:World} {V:View} {DS:List Deferred}
theorem run_max2 {o:Oper} {ρ:Operand→Value} {x y:Operand} {ats:Array TypeId} {a b:Int} (ho:o.op=.call { callee:=.builtin .max,args:=#[x,y],argTypes:=ats }) (hx:ρ x=.int .i64 a) (hy:ρ y=.int .i64 b) (w:World) :
  (execOp ρ o).run Tryd.prog w=.ok (.value (.int .i64 (max a b))) w:=by
 have e:(if b > a then b else a)=max a b:=by
  split <;> omega
 unfold execOp
 simp [ho,resolve,invoke,builtin,hx,hy,go_sem,e]
set_option maxRecDepth 20000 in
set_option maxHeartbeats 4000000 in
theorem next4 (most sh:Int) (hsh0:-9≤sh) (hsh:sh≤49) (v1 v6 v7 v8 v9 v10 v11 v13 v14 v37 v38:Value) (f:Nat→Value) (r:Int × Int) (hr:Pb 100000000000 r) (h93:f 93=spanV r) (h90:f 90=.int .i64 most) (hV:V.In w) :
  Rch Tryd.prog nhead2 (fun a w'=>(∃ f,a=⟨tmN v1 v6 v7 v8 v9 v10 v11 (.int .i64 (max most (sizeS r))) v13 v14 (.int .i64 (sh+1)) v37 v38 f,DS⟩)∧Kp w w')
   (nat22 [4,5,6]) ⟨tmN v1 v6 v7 v8 v9 v10 v11 (.int .i64 most) v13 v14 (.int .i64 sh) v37 v38 f,DS⟩ w:=by
 have hS:=St.start w V hV
 rw [show tmN v1 v6 v7 v8 v9 v10 v11 (.int .i64 most) v13 v14 (.int .i64 sh) v37 v38 f=#[f 0,v1,f 2,f 3,f 4,f 5,v6,v7,v8,v9,v10,v11,.int .i64 most,v13,v14,.int .i64 sh,f 16,f 17,f 18,f 19,f 20,f 21,f 22,f 23,f 24,f 25,f 26,f 27,f 28,f 29,f 30,f 31,f 32,f 33,f 34,f 35,f 36,v37,v38,f 39,f 40,f 41,f 42,f 43,f 44,f 45,f 46,f 47,f 48,f 49,f 50,f 51,f 52,f 53,f 54,f 55,f 56,f 57,f 58,f 59,f 60,f 61,f 62,f 63,f 64,f 65,f 66,f 67,f 68,f 69,f 70,f 71,f 72,f 73,f 74,f 75,f 76,f 77,f 78,f 79,f 80,f 81,f 82,f 83,f 84,f 85,f 86,f 87,f 88,f 89,.int .i64 most,f 91,f 92,spanV r,f 94,f 95,f 96,f 97,f 98,f 99,f 100,f 101,f 102,f 103,f 104,f 105] from by unfold tmN;rw [h93,h90]]
 refine rch_call (i:=4) rfl rfl (run_call_body rfl Tryd.func98 (by kernel_rfl) rfl) ?_
 simp only [List.map_toArray,List.map_cons,List.map_nil]
 show Calls Tryd.prog 98 #[spanV r] w _
 refine (size_ok' r hr w).mono ?_
 rintro e w2 ⟨rfl,hkp⟩
 refine ⟨_,rfl,?_⟩
 replace hS:=hS.kp hkp
 generalize sizeS r=sz
 generalize spanV r=sv
 clear hkp
 refine rch_op (i:=5) (v:=.int .i64 (max most sz)) (w':=w2) rfl rfl (run_max2 rfl rfl rfl w2) ?_
 refine rch_op (i:=6) (v:=.int .i64 (max most sz)) (w':=w2) rfl rfl rfl ?_
 refine rch_region_end (rch_inBlock ?_)
 show Rch Tryd.prog nhead2 _ _ ⟨#[f 0,v1,f 2,f 3,f 4,f 5,v6,v7,v8,v9,v10,v11,.int .i64 (max most sz),v13,v14,.int .i64 sh,f 16,f 17,f 18,f 19,f 20,f 21,f 22,f 23,f 24,f 25,f 26,f 27,f 28,f 29,f 30,f 31,f 32,f 33,f 34,f 35,f 36,v37,v38,f 39,f 40,f 41,f 42,f 43,f 44,f 45,f 46,f 47,f 48,f 49,f 50,f 51,f 52,f 53,f 54,f 55,f 56,f 57,f 58,f 59,f 60,f 61,f 62,f 63,f 64,f 65,f 66,f 67,f 68,f 69,f 70,f 71,f 72,f 73,f 74,f 75,f 76,f 77,f 78,f 79,f 80,f 81,f 82,f 83,f 84,f 85,f 86,f 87,f 88,f 89,.int .i64 most,f 91,f 92,sv,.int .i64 sz,.int .i64 (max most sz),f 96,f 97,f 98,f 99,f 100,f 101,f 102,f 103,f 104,f 105],DS⟩ w2
 generalize max most sz=mx
 refine rch_code ?_
 conv=>enter [2];whnf
 go_wp2_with (fail)
 refine rch_inLoop ?_
 exact rch_here (tgt:=nhead2) ⟨tmN_of rfl,hS.toKp⟩
end Go.Proofs.YtjjmefieegcddaaDoor
namespace Go.Proofs.YtjjmefieegcddaaDoor
open Go.RowKit Go.Wg Go.Mm Go.Wk
open Go Go.Sr Go.Ph Go.Tm Go.Conc
variable {w:World} {V:View} {DS:List Deferred}
noncomputable def N28:Code:=match NK with | .seq _ r=>r | _=>.skip
set_option maxRecDepth 20000 in
set_option maxHeartbeats 4000000 in
theorem next5a (err best least most sh:Int) (i n b14:Nat) (r:Int × Int) (hr:V.Range b14 0 [.int .i64 r.1,.int .i64 r.2]) (hr0:0≤r.2) (hr4:r.2≤40) (he0:0≤err) (he9:err≤9) (hsh:r.2+err < sh) (hi:i < n) (hn:n≤6) (hlt:most < least)
  (v6 v7 v8 v13:Value) (f:Nat→Value) (hV:V.In w) :
  Rch Tryd.prog nhead1 (fun a w'=>(∃ f,a=⟨tmN (.int .i64 err) v6 v7 v8 (.int .i64 i) (.int .i64 most) (.int .i64 i) (.int .i64 most) v13 (ptr b14) (.int .i64 sh) (.int .i64 n) (.int .i64 ((i:Int)+1)) f,DS⟩)∧Kp w w')
   nhead2 ⟨tmN (.int .i64 err) v6 v7 v8 (.int .i64 best) (.int .i64 least) (.int .i64 i) (.int .i64 most) v13 (ptr b14) (.int .i64 sh) (.int .i64 n) (.int .i64 i) f,DS⟩ w:=by
 have h0:(0:Int)≤i:=by omega
 have hsh':¬ sh≤r.2+err:=by omega
 have hd:decide (sh≤r.2+err)=false:=decide_eq_false hsh'
 have hc14:V.Cell b14 1 (.int .i64 r.2):=hr 1 _ rfl
 have hS:=St.start w V hV
 rw [show tmN (.int .i64 err) v6 v7 v8 (.int .i64 best) (.int .i64 least) (.int .i64 i) (.int .i64 most) v13 (ptr b14) (.int .i64 sh) (.int .i64 n) (.int .i64 i) f=#[f 0,.int .i64 err,f 2,f 3,f 4,f 5,v6,v7,v8,.int .i64 best,.int .i64 least,.int .i64 i,.int .i64 most,v13,.pointer (some ⟨b14,0,none⟩),.int .i64 sh,f 16,f 17,f 18,f 19,f 20,f 21,f 22,f 23,f 24,f 25,f 26,f 27,f 28,f 29,f 30,f 31,f 32,f 33,f 34,f 35,f 36,.int .i64 n,.int .i64 i,f 39,f 40,f 41,f 42,f 43,f 44,f 45,f 46,f 47,f 48,f 49,f 50,f 51,f 52,f 53,f 54,f 55,f 56,f 57,f 58,f 59,f 60,f 61,f 62,f 63,f 64,f 65,f 66,f 67,f 68,f 69,f 70,f 71,f 72,f 73,f 74,f 75,f 76,f 77,f 78,f 79,f 80,f 81,f 82,f 83,f 84,f 85,f 86,f 87,f 88,f 89,f 90,f 91,f 92,f 93,f 94,f 95,f 96,f 97,f 98,f 99,f 100,f 101,f 102,f 103,f 104,f 105] from by unfold tmN ptr;rfl]
 refine rch_seq (rch_seq (rch_code ?_))
 go_wp2_with (((with_reducible refine gL ?_);refine qv1 hS rfl rfl rfl ?_);refine ⟨_,zd,?_⟩;clear hS;(try clear w');intro a' hp;(try simp only [fr] at hp);subst hp;intro w' hS;(try simp only [sE] at hS))
 refine rch_cond (t:=false) rfl (rch_exit rfl ?_)
 refine rch_code ?_
 conv=>enter [2];whnf
 go_wp2_with (fail)
 refine rch_inBlock (rch_code ?_)
 conv=>enter [2];whnf
 go_wp2_with (fail)
 refine rch_inLoop ?_
 exact rch_here (tgt:=nhead1) ⟨tmN_of rfl,hS.toKp⟩
set_option maxRecDepth 20000 in
set_option maxHeartbeats 4000000 in
theorem next5b (err best least most sh:Int) (i n b14:Nat) (r:Int × Int) (hr:V.Range b14 0 [.int .i64 r.1,.int .i64 r.2]) (hr0:0≤r.2) (hr4:r.2≤40) (he0:0≤err) (he9:err≤9) (hsh:r.2+err < sh) (hi:i < n) (hn:n≤6) (hlt:¬ most < least)
  (v6 v7 v8 v13:Value) (f:Nat→Value) (hV:V.In w) :
  Rch Tryd.prog nhead1 (fun a w'=>(∃ f,a=⟨tmN (.int .i64 err) v6 v7 v8 (.int .i64 best) (.int .i64 least) (.int .i64 i) (.int .i64 most) v13 (ptr b14) (.int .i64 sh) (.int .i64 n) (.int .i64 ((i:Int)+1)) f,DS⟩)∧Kp w w')
   nhead2 ⟨tmN (.int .i64 err) v6 v7 v8 (.int .i64 best) (.int .i64 least) (.int .i64 i) (.int .i64 most) v13 (ptr b14) (.int .i64 sh) (.int .i64 n) (.int .i64 i) f,DS⟩ w:=by
 have h0:(0:Int)≤i:=by omega
 have hsh':¬ sh≤r.2+err:=by omega
 have hd:decide (sh≤r.2+err)=false:=decide_eq_false hsh'
 have hc14:V.Cell b14 1 (.int .i64 r.2):=hr 1 _ rfl
 have hS:=St.start w V hV
 rw [show tmN (.int .i64 err) v6 v7 v8 (.int .i64 best) (.int .i64 least) (.int .i64 i) (.int .i64 most) v13 (ptr b14) (.int .i64 sh) (.int .i64 n) (.int .i64 i) f=#[f 0,.int .i64 err,f 2,f 3,f 4,f 5,v6,v7,v8,.int .i64 best,.int .i64 least,.int .i64 i,.int .i64 most,v13,.pointer (some ⟨b14,0,none⟩),.int .i64 sh,f 16,f 17,f 18,f 19,f 20,f 21,f 22,f 23,f 24,f 25,f 26,f 27,f 28,f 29,f 30,f 31,f 32,f 33,f 34,f 35,f 36,.int .i64 n,.int .i64 i,f 39,f 40,f 41,f 42,f 43,f 44,f 45,f 46,f 47,f 48,f 49,f 50,f 51,f 52,f 53,f 54,f 55,f 56,f 57,f 58,f 59,f 60,f 61,f 62,f 63,f 64,f 65,f 66,f 67,f 68,f 69,f 70,f 71,f 72,f 73,f 74,f 75,f 76,f 77,f 78,f 79,f 80,f 81,f 82,f 83,f 84,f 85,f 86,f 87,f 88,f 89,f 90,f 91,f 92,f 93,f 94,f 95,f 96,f 97,f 98,f 99,f 100,f 101,f 102,f 103,f 104,f 105] from by unfold tmN ptr;rfl]
 refine rch_seq (rch_seq (rch_code ?_))
 go_wp2_with (((with_reducible refine gL ?_);refine qv1 hS rfl rfl rfl ?_);refine ⟨_,zd,?_⟩;clear hS;(try clear w');intro a' hp;(try simp only [fr] at hp);subst hp;intro w' hS;(try simp only [sE] at hS))
 refine rch_cond (t:=false) rfl (rch_exit rfl ?_)
 refine rch_code ?_
 conv=>enter [2];whnf
 go_wp2_with (fail)
 refine rch_inBlock (rch_code ?_)
 conv=>enter [2];whnf
 go_wp2_with (fail)
 refine rch_inLoop ?_
 exact rch_here (tgt:=nhead1) ⟨tmN_of rfl,hS.toKp⟩
set_option maxRecDepth 20000 in
set_option maxHeartbeats 4000000 in
theorem next6a {w0:World} (best least:Int) (n b6:Nat) (hn:n≤6) (hb:best < 0)
  (v1 v7 v8 v11 v12 v13 v14 v15:Value) (f:Nat→Value) (hS:St w0 [] V [.blk b6 38 [.int .i64 0]] w) :
  Rch Tryd.prog [.code .ret,.code N28] (fun a w'=>(a.tmps[4]? = some (.int .i64 0)∧a.tmps[5]? = some (.int .i64 0)∧a.tmps[6]? = some (ptr b6)∧a.defers=DS)∧St w0 [] V [.blk b6 38 [.int .i64 11]] w')
   nhead1 ⟨tmN v1 (ptr b6) v7 v8 (.int .i64 best) (.int .i64 least) v11 v12 v13 v14 v15 (.int .i64 n) (.int .i64 n) f,DS⟩ w:=by
 rw [show tmN v1 (ptr b6) v7 v8 (.int .i64 best) (.int .i64 least) v11 v12 v13 v14 v15 (.int .i64 n) (.int .i64 n) f=#[f 0,v1,f 2,f 3,f 4,f 5,.pointer (some ⟨b6,0,none⟩),v7,v8,.int .i64 best,.int .i64 least,v11,v12,v13,v14,v15,f 16,f 17,f 18,f 19,f 20,f 21,f 22,f 23,f 24,f 25,f 26,f 27,f 28,f 29,f 30,f 31,f 32,f 33,f 34,f 35,f 36,.int .i64 n,.int .i64 n,f 39,f 40,f 41,f 42,f 43,f 44,f 45,f 46,f 47,f 48,f 49,f 50,f 51,f 52,f 53,f 54,f 55,f 56,f 57,f 58,f 59,f 60,f 61,f 62,f 63,f 64,f 65,f 66,f 67,f 68,f 69,f 70,f 71,f 72,f 73,f 74,f 75,f 76,f 77,f 78,f 79,f 80,f 81,f 82,f 83,f 84,f 85,f 86,f 87,f 88,f 89,f 90,f 91,f 92,f 93,f 94,f 95,f 96,f 97,f 98,f 99,f 100,f 101,f 102,f 103,f 104,f 105] from by unfold tmN ptr;rfl]
 refine rch_seq (rch_code ?_)
 go_wp2_with (fail)
 refine rch_seq (rch_cond (t:=false) rfl (rch_exit rfl ?_))
 refine rch_seq (rch_seq (rch_code ?_))
 go_wp2_with (fail)
 refine rch_cond (t:=true) rfl (rch_seq (rch_code ?_))
 go_wp2_with (((with_reducible refine gS ?_);refine qs1 hS rfl rfl rfl ?_);refine ⟨_,zd,?_⟩;clear hS;(try clear w');intro a' hp;(try simp only [fr] at hp);subst hp;intro w' hS;(try simp only [sE] at hS))
 exact rch_here (tgt:=[.code .ret,.code N28]) ⟨⟨rfl,rfl,rfl,rfl⟩,hS⟩
set_option maxRecDepth 20000 in
set_option maxHeartbeats 4000000 in
theorem next6b {w0:World} (best least:Int) (n b6:Nat) (hn:n≤6) (hb:¬ best < 0)
  (v1 v7 v8 v11 v12 v13 v14 v15:Value) (f:Nat→Value) (hS:St w0 [] V [.blk b6 38 [.int .i64 0]] w) :
  Rch Tryd.prog [.code .ret] (fun a w'=>(a.tmps[4]? = some (.int .i64 best)∧a.tmps[5]? = some (.int .i64 least)∧a.tmps[6]? = some (ptr b6)∧a.defers=DS)∧St w0 [] V [.blk b6 38 [.int .i64 0]] w')
   nhead1 ⟨tmN v1 (ptr b6) v7 v8 (.int .i64 best) (.int .i64 least) v11 v12 v13 v14 v15 (.int .i64 n) (.int .i64 n) f,DS⟩ w:=by
 rw [show tmN v1 (ptr b6) v7 v8 (.int .i64 best) (.int .i64 least) v11 v12 v13 v14 v15 (.int .i64 n) (.int .i64 n) f=#[f 0,v1,f 2,f 3,f 4,f 5,.pointer (some ⟨b6,0,none⟩),v7,v8,.int .i64 best,.int .i64 least,v11,v12,v13,v14,v15,f 16,f 17,f 18,f 19,f 20,f 21,f 22,f 23,f 24,f 25,f 26,f 27,f 28,f 29,f 30,f 31,f 32,f 33,f 34,f 35,f 36,.int .i64 n,.int .i64 n,f 39,f 40,f 41,f 42,f 43,f 44,f 45,f 46,f 47,f 48,f 49,f 50,f 51,f 52,f 53,f 54,f 55,f 56,f 57,f 58,f 59,f 60,f 61,f 62,f 63,f 64,f 65,f 66,f 67,f 68,f 69,f 70,f 71,f 72,f 73,f 74,f 75,f 76,f 77,f 78,f 79,f 80,f 81,f 82,f 83,f 84,f 85,f 86,f 87,f 88,f 89,f 90,f 91,f 92,f 93,f 94,f 95,f 96,f 97,f 98,f 99,f 100,f 101,f 102,f 103,f 104,f 105] from by unfold tmN ptr;rfl]
 have hd:decide (best < 0)=false:=decide_eq_false hb
 refine rch_seq (rch_code ?_)
 go_wp2_with (fail)
 refine rch_seq (rch_cond (t:=false) rfl (rch_exit rfl ?_))
 refine rch_seq (rch_seq (rch_code ?_))
 go_wp2_with (fail)
 refine rch_cond (t:=false) rfl (rch_skip (rch_seq (rch_code ?_)))
 go_wp2_with (((with_reducible refine gS ?_);refine qs1 hS rfl rfl rfl ?_);refine ⟨_,zd,?_⟩;clear hS;(try clear w');intro a' hp;(try simp only [fr] at hp);subst hp;intro w' hS;(try simp only [sE] at hS))
 exact rch_here (tgt:=[.code .ret]) ⟨⟨rfl,rfl,rfl,rfl⟩,hS⟩
end Go.Proofs.YtjjmefieegcddaaDoor
namespace Go.Proofs.YtjjmefieegcddaaDoor
open Go.RowKit Go.Wg Go.Mm Go.Wk
open Go Go.Sr Go.Ph Go.Tm Go.Conc
theorem kp_re0 {w w':World} {τ:Nat→Question→Nat} {d:Nat} (h:Kp (w.re τ d) w'):Kp w w':=⟨h.os,h.output,h.size,h.old⟩
theorem kp_re1 {w w':World} (h:Kp w w') (τ:Nat→Question→Nat) (d:Nat):Kp w (w'.re τ d):=⟨h.os,h.output,h.size,h.old⟩
noncomputable def itemO (x:Item):Bool :=
 match x with
 | .code c | .inLoop c=>okCode true c
 | .inRegion ops _=>ops.all fun o=>okOp true o.op
 | .inBlock _=>true
 | _=>false
theorem itemsO_of {todo:List Item} (h:todo.all itemO=true):∀ x∈todo,ItemOk true x:=fun x hx=>by
 have:=List.all_eq_true.1 h x hx
 match x,this with
 | .code c,h=>exact h
 | .inLoop c,h=>exact h
 | .inRegion ops l,h=>exact h
 | .inBlock id,h=>trivial
section
variable {V:View} {w0 w:World} {p:Nat} {k:Wk} {D:List Nat} {b6 b8:Nat} {s:SS} {b:Frame} {cs:List Frame} {Q:Goroutine→World→Prop}
theorem okDC (b6:Nat) {a:Act} (h:a.defers=[dC b6]):∀ d∈a.defers,OkDef d:=fun d hd=>by
 rw [h] at hd
 simp only [List.mem_singleton] at hd
 subst hd
 simp [OkDef,dC]
theorem toBN {f0:FuncId} {a:Act} {todo tgt:List Item} (hbf:b.fn=f0) (hbk:b.kind=.normal) (hit:todo.all itemO=true) (hd:∀ d∈a.defers,OkDef d) (hh:HeapOk OC w)
  {S:Act→World→Prop} (hre:∀ a w τ d,S a w→S a (w.re τ d)) (hrun:∀ τ d,Rch Tryd.prog tgt S todo a (w.re τ d)) (hk:∀ a' w',S a' w'→HeapOk OC w'→ToB Tryd.prog (G (b.at a' tgt) cs) w' Q):ToB Tryd.prog (G (b.at a todo) cs) w Q :=
 toB_lone sokAll (f0:=f0) ⟨⟨itemsO_of hit,hd,.inl hbk⟩,rfl,hbk,hbf⟩ hh hre hrun fun a' w' h1 h2 _=>hk a' w' h1 h2
theorem toB_tot (hX:NX V p k D b8 s) {x:SS} (hok:k.Ok) (hx:x.WF) (hlo:∀ i,0≤(x.losAt i).1) (hhi:∀ i,(x.losAt i).2≤1000) (hV:V.In w) (hh:HeapOk OC w) (hbk:b.kind=.normal)
  {ops:Array Oper} {l:List Nat} {k0:List Item} {i d:Nat} {o:Oper} {y z:Operand} {ats:Array TypeId} {a:Act} (ho:ops[i]? = some o) (hop:o.op=.call { callee:=.value (.func 97),args:=#[y,z,.const (.bool false)],argTypes:=ats }) (hdst:o.dst=some d)
  (hw:Region.wanted o (yielded ops a.tmps)=true) (hok':okOp true o.op=true) (hy:a.eval y=ptr p) (hz:a.eval z=.agg (stC x).toArray)
  (hk:∀ w',Kp w w'→HeapOk OC w'→ToB Tryd.prog (G (b.at (a.put (some d) (spanV (totalS k x false))) (.inRegion ops l :: k0)) cs) w' Q):ToB Tryd.prog (G (b.at a (.inRegion ops (i :: l) :: k0)) cs) w Q:=by
 obtain ⟨ts,vv,rv,hC⟩:=hX.cel
 have htot:=total_B hC hok x hx hlo hhi false hX.cl hX.pD hV hh
 refine toB_op sokAll ho hw (by rw [hbk];decide) hok' hh (fun _ _ _=>trivial) fun d=>?_
 rw [run_call_body hop Tryd.func97 (by kernel_rfl) rfl]
 intro hhd
 have e:Array.map a.eval #[y,z,.const (.bool false)]=#[ptr p,.agg (stC x).toArray,.bool false]:=by
  simp only [List.map_toArray,List.map_cons,List.map_nil,hy,hz]
  rfl
 rw [e]
 have hat:∀ {Q:Goroutine→World→Prop} {g:Goroutine},ToB Tryd.prog g w Q→ToB Tryd.prog g (w.at d) Q:=fun h=>h.at
 refine hat (toB_called ho htot (fun v w1 ⟨hv,hk1⟩ hh1=>?_) fun ch w1 ⟨hv,_⟩ _=>nomatch hv)
 cases hv
 rw [hdst]
 exact hk w1 hk1 hh1
structure N1 (w0:World) (V:View) (b6:Nat) (w:World):Prop where
 kp:Kp w0 w
 vin:V.In w
 e6:w.heap[b6]? = some (.cells #[.int .i64 0] 38 (0,0))
 n6:w0.heap.size≤b6
 off:V b6=none
theorem N1.st (h:N1 w0 V b6 w):St w0 [] V [.blk b6 38 [.int .i64 0]] w :=
 ⟨h.kp.os,h.kp.output,h.kp.size,fun i hi _=>h.kp.old i hi,h.vin,fun e he=>by
  simp only [List.mem_singleton] at he
  subst he
  exact h.e6,fun e he b hb=>by
  simp only [List.mem_singleton] at he
  subst he
  cases hb
  exact .inl h.n6,fun e he b hb=>by
  simp only [List.mem_singleton] at he
  subst he
  cases hb
  exact h.off,by simp [Ent.foot]⟩
theorem N1.of_st (h:St w0 [] V [.blk b6 38 [.int .i64 0]] w):N1 w0 V b6 w :=
 ⟨h.toKp,h.view,h.has1,(h.new (.blk b6 38 [.int .i64 0]) (by simp) b6 rfl).elim id (fun h=>nomatch h),h.off _ (List.mem_cons_self ..) b6 rfl⟩
theorem N1.step {w':World} (h:N1 w0 V b6 w) (hk:Kp w w'):N1 w0 V b6 w':=⟨h.kp.trans hk,h.vin.kp hk,(hk.old b6 (lt_of_heap h.e6)).trans h.e6,h.n6,h.off⟩
theorem N1.but {w':World} {mb:Nat} (h:N1 w0 V b6 w) (hk:KpBut mb w w') (hm:w0.heap.size≤mb) (hn:mb≠b6) (hV:V mb=none):N1 w0 V b6 w' :=
 ⟨⟨hk.os.trans h.kp.os,hk.output.trans h.kp.output,Nat.le_trans h.kp.size hk.size,fun i hi=>(hk.old i (Nat.lt_of_lt_of_le hi h.kp.size) (by omega)).trans (h.kp.old i hi)⟩,
  fun j o hj=>by
   have:=h.vin j o hj
   rw [hk.old j (lt_of_heap this) (by rintro rfl;rw [hV] at hj;cases hj)]
   exact this,(hk.old b6 (lt_of_heap h.e6) (Ne.symm hn)).trans h.e6,h.n6,h.off⟩
theorem N1.more {b14:Nat} {o:Obj} (h:N1 w0 V b6 w) (hb:w.heap[b14]? = some o) (hn:b14≠b6) (hV:V b14=none) :
  ∃ V',(∀ j u,V j=some u→V' j=some u)∧V' b14=some o∧(∀ j,j≠b14→V' j=V j)∧N1 w0 V' b6 w:=by
 refine ⟨fun j=>if j=b14 then some o else V j,fun j u hj=>?_,by simp,fun j hj=>by simp [hj],⟨h.kp,fun j u hj=>?_,h.e6,h.n6,by simp [Ne.symm hn,h.off]⟩⟩
 ·have:j≠b14:=by rintro rfl;rw [hV] at hj;cases hj
  simp [this,hj]
 ·split at hj
  ·rename_i e
   subst e
   cases hj
   exact hb
  ·exact h.vin j u hj
theorem NX.mono {V':View} (h:NX V p k D b8 s) (hV:∀ j u,V j=some u→V' j=some u):NX V' p k D b8 s :=
 ⟨by obtain ⟨ts,x,y,hc⟩:=h.cel;exact ⟨ts,x,y,hc.mono hV⟩,h.gv.mono hV,closed_mono h.cl hV,h.pD,h.s8.mono hV⟩
theorem it_nhead2:nhead2.all itemO=true:=by kernel_rfl
theorem it_nmid:nmid.all itemO=true:=by kernel_rfl
theorem it_nat22 (l:List Nat):(nat22 l).all itemO=true:=(show (nat22 []).all itemO=true by kernel_rfl)
theorem it_nhead1:nhead1.all itemO=true:=by kernel_rfl
theorem it_nat8 (l:List Nat):(nat8 l).all itemO=true:=(show (nat8 []).all itemO=true by kernel_rfl)
end
end Go.Proofs.YtjjmefieegcddaaDoor
namespace Go.Proofs.YtjjmefieegcddaaDoor
open Go.RowKit Go.Wg Go.Mm Go.Wk
open Go Go.Sr Go.Ph Go.Tm Go.Conc
theorem mapS_re {w:World} {b n:Nat} {l:List Nat} (h:MapS w b n l) (τ:Nat→Question→Nat) (d:Nat):MapS (w.re τ d) b n l:=h.of_heap rfl
theorem kpb_re0 {w w':World} {b:Nat} {τ:Nat→Question→Nat} {d:Nat} (h:KpBut b (w.re τ d) w'):KpBut b w w':=⟨h.os,h.output,h.size,h.old⟩
theorem kpb_re1 {w w':World} {b:Nat} (h:KpBut b w w') (τ:Nat→Question→Nat) (d:Nat):KpBut b w (w'.re τ d):=⟨h.os,h.output,h.size,h.old⟩
section
variable {V:View} {w0 w:World} {p:Nat} {k:Wk} {D:List Nat} {b6 b8:Nat} {s:SS} {b:Frame} {cs:List Frame} {Q:Goroutine→World→Prop}
structure N2 (w0:World) (V:View) (b6 b14 mb c:Nat) (r:Int × Int) (l:List Nat) (w:World):Prop where
 n:N1 w0 V b6 w
 r:V.Range b14 0 [.int .i64 r.1,.int .i64 r.2]
 m:∃ cnt,cnt≤c∧MapS w mb cnt l
 lm:w0.heap.size≤mb
 vm:V mb=none
 m6:mb≠b6
set_option maxHeartbeats 2000000 in
theorem inner (hX:NX V p k D b8 s) (hok:k.Ok) (hs:s.WF) (hlo:∀ i,0≤(s.losAt i).1) (hhi:∀ i,(s.losAt i).2≤1000) (err:Int) (he0:0≤err) (he9:err≤9) (i:Nat) (hi:i < k.n) (b14 mb:Nat) (hbf:b.fn=43) (hbk:b.kind=.normal) (v9 v10:Value)
  (hend:∀ w f sh,N1 w0 V b6 w→V.Range b14 0 [.int .i64 (weightS k s i).1,.int .i64 (weightS k s i).2]→(weightS k s i).2+err < sh→HeapOk OC w →
   ToB Tryd.prog (G (b.at ⟨tmN (.int .i64 err) (ptr b6) (ptr p) (ptr b8) v9 v10 (.int .i64 i) (.int .i64 (nxMost k s i err)) (.map (some mb)) (ptr b14) (.int .i64 sh) (.int .i64 k.n) (.int .i64 i) f,[dC b6]⟩ nhead2) cs) w Q) :
  ∀ (m c:Nat),c+m=nxCnt (weightS k s i) err→∀ w f,N2 w0 V b6 b14 mb c (weightS k s i) (nxTo k s i err ((weightS k s i).1 - err) c).1 w→HeapOk OC w →
   ToB Tryd.prog (G (b.at ⟨tmN (.int .i64 err) (ptr b6) (ptr p) (ptr b8) v9 v10 (.int .i64 i) (.int .i64 (nxTo k s i err ((weightS k s i).1 - err) c).2) (.map (some mb)) (ptr b14) (.int .i64 ((weightS k s i).1 - err+c)) (.int .i64 k.n) (.int .i64 i) f,[dC b6]⟩ nhead2) cs) w Q:=by
 have hn6:k.n≤6:=hok.le
 obtain ⟨q1,q2,q3,q4⟩:=weightTo_bd k s i 41 (Nat.le_refl _)
 rw [show weightTo k s i 41=weightS k s i from rfl] at q1 q2 q3 q4
 have hM:nxMost k s i err=(nxTo k s i err ((weightS k s i).1 - err) (nxCnt (weightS k s i) err)).2:=rfl
 have hNx:∀ c:Nat,nxTo k s i err ((weightS k s i).1 - err) (c+1)=nxStep k s i err (nxTo k s i err ((weightS k s i).1 - err) c) ((weightS k s i).1 - err+c):=fun c=>rfl
 rw [hM] at hend
 clear hM
 have hCnt:nxCnt (weightS k s i) err=((weightS k s i).2+err - ((weightS k s i).1 - err)+1).toNat:=rfl
 generalize weightS k s i=r at *
 intro m
 induction m with
 | zero =>
  intro c hc w f hN hh
  obtain rfl:c=nxCnt r err:=by omega
  refine hend w f _ hN.n hN.r ?_ hh
  rw [hCnt]
  omega
 | succ m ih =>
  intro c hc w f hN hh
  have hsh0:-9≤r.1 - err+(c:Int):=by omega
  have hsh:r.1 - err+(c:Int)≤r.2+err:=by omega
  have hnx:=hNx c
  obtain ⟨st,hst⟩:∃ st,nxTo k s i err (r.1 - err) c=st:=⟨_,rfl⟩
  rw [hst] at hN hnx ⊢
  generalize he1:r.1 - err+(c:Int)=sh at *
  have he2:r.1 - err+((c+1:Nat):Int)=sh+1:=by omega
  have hx:(s.setLim i (nxLim s i err sh)).WF:=hs.setLim (Nat.lt_of_le_of_lt Nat.and_le_right (spanB_lt _ _))
  have hxl:(s.setLim i (nxLim s i err sh)).limAt i=nxLim s i err sh:=by
   unfold SS.setLim SS.limAt
   have:i < s.lim.length:=by rw [hs.lim];omega
   simp [List.getD_eq_getElem?_getD,this]
  refine toBN (tgt:=nmid) hbf hbk it_nhead2 (okDC b6 rfl) hh (S:=fun a w'=>∃ b16,((∃ f,a=⟨tmN (.int .i64 err) (ptr b6) (ptr p) (ptr b8) v9 v10 (.int .i64 i) (.int .i64 st.2) (.map (some mb)) (ptr b14) (.int .i64 sh) (.int .i64 k.n) (.int .i64 i) f,[dC b6]⟩)∧a.tmps[16]? = some (ptr b16))∧St w [] V [.blk b16 100 (stC (s.setLim i (nxLim s i err sh)))] w')
   (fun a w' τ d ⟨b16,h1,h2⟩=>⟨b16,h1,h2.re1 τ d⟩) (fun τ d=>?_) ?_
  ·refine (next3a (w:=w.re τ d) hX hs err he0 he9 i hi mb b14 r hN.r q3 q4 sh hsh0 hsh (ptr b6) v9 v10 (.int .i64 st.2) (.int .i64 k.n) (.int .i64 i) f hN.n.vin).mono ?_
   rintro a w' ⟨b16,h1,h2⟩
   exact ⟨b16,h1,h2.re0⟩
  ·rintro a w1 ⟨b16,⟨⟨f1,rfl⟩,h16⟩,hS1⟩ hh1
   have hf16:f1 16=ptr b16:=Option.some.inj h16
   have hkp1:=hS1.toKp
   have hN1:=hN.n.step hkp1
   have hb16:=hS1.has1 (b:=b16)
   have hl16:w.heap.size≤b16:=(hS1.new (.blk b16 100 (stC (s.setLim i (nxLim s i err sh)))) (by simp) b16 rfl).elim id (fun h=>nomatch h)
   have h16b6:b16≠b6:=by
    have:=lt_of_heap hN.n.e6
    omega
   obtain ⟨cnt,hcnt,hmap⟩:=hN.m
   have hmap1:MapS w1 mb cnt st.1:=hmap.of_heap (hkp1.old mb hmap.lt)
   have h16m:b16≠mb:=by
    have:=hmap.lt
    omega
   obtain ⟨V',hVV,hV16,hVo,hN2⟩:=hN1.more hb16 h16b6 (hS1.off _ (List.mem_cons_self ..) b16 rfl)
   have hX':=hX.mono hVV
   have hr16:V'.Range b16 0 (stC (s.setLim i (nxLim s i err sh))):=fun j v hj=>⟨_,_,_,hV16,by rw [Nat.zero_add];simpa using hj⟩
   have hV'm:V' mb=none:=(hVo mb (Ne.symm h16m)).trans hN.vm
   have back:∀ {w2:World} {l2:List Nat} {n2:Nat},n2≤c+1→MapS w2 mb n2 l2→N1 w0 V' b6 w2→N2 w0 V b6 b14 mb (c+1) r l2 w2:=fun h1 h2 h3 =>
    ⟨⟨h3.kp,fun j u hj=>h3.vin j u (hVV j u hj),h3.e6,h3.n6,hN.n.off⟩,hN.r,⟨_,h1,h2⟩,hN.lm,hN.vm,hN.m6⟩
   have ihc:=ih (c+1) (by omega)
   rw [hnx,he2] at ihc
   have hcase:nxStep k s i err st sh=if st.1.contains (nxLim s i err sh) || !can k (s.setLim i (nxLim s i err sh)) then st else (nxLim s i err sh :: st.1,max st.2 (sizeS (totalS k (s.setLim i (nxLim s i err sh)) false))):=rfl
   cases hmet:st.1.contains (nxLim s i err sh) with
   | true =>
    rw [hmet] at hcase
    simp only [Bool.true_or,if_true] at hcase
    rw [hcase] at ihc
    refine toBN (tgt:=nhead2) hbf hbk it_nmid (okDC b6 rfl) hh1 (S:=fun a w'=>(∃ f,a=⟨tmN (.int .i64 err) (ptr b6) (ptr p) (ptr b8) v9 v10 (.int .i64 i) (.int .i64 st.2) (.map (some mb)) (ptr b14) (.int .i64 (sh+1)) (.int .i64 k.n) (.int .i64 i) f,[dC b6]⟩)∧Kp w1 w')
     (fun a w' τ d h=>⟨h.1,kp_re1 h.2 τ d⟩) (fun τ d=>?_) ?_
    ·refine (next3met (w:=w1.re τ d) hX' hx err i hi mb b14 b16 cnt st.1 (mapS_re hmap1 τ d) hr16 sh hsh0 (by omega) _ _ _ _ _ _ f1 hf16 hN2.vin (by rw [hxl];exact hmet)).mono ?_
     rintro a w' ⟨h1,h2⟩
     exact ⟨h1,kp_re0 h2⟩
    ·rintro a w2 ⟨⟨f2,rfl⟩,hk2⟩ hh2
     exact ihc w2 f2 (back (by omega) (hmap1.of_heap (hk2.old mb hmap1.lt)) (hN2.step hk2)) hh2
   | false =>
    cases hcan:can k (s.setLim i (nxLim s i err sh)) with
    | false =>
     rw [hmet,hcan] at hcase
     simp only [Bool.false_or,Bool.not_false,if_true] at hcase
     rw [hcase] at ihc
     refine toBN (tgt:=nhead2) hbf hbk it_nmid (okDC b6 rfl) hh1 (S:=fun a w'=>(∃ f,a=⟨tmN (.int .i64 err) (ptr b6) (ptr p) (ptr b8) v9 v10 (.int .i64 i) (.int .i64 st.2) (.map (some mb)) (ptr b14) (.int .i64 (sh+1)) (.int .i64 k.n) (.int .i64 i) f,[dC b6]⟩)∧Kp w1 w')
      (fun a w' τ d h=>⟨h.1,kp_re1 h.2 τ d⟩) (fun τ d=>?_) ?_
     ·refine (next3no (w:=w1.re τ d) hX' hx err i hi mb b14 b16 cnt st.1 (mapS_re hmap1 τ d) hr16 sh hsh0 (by omega) _ _ _ _ _ _ f1 hf16 hN2.vin (by rw [hxl];exact hmet) hcan).mono ?_
      rintro a w' ⟨h1,h2⟩
      exact ⟨h1,kp_re0 h2⟩
     ·rintro a w2 ⟨⟨f2,rfl⟩,hk2⟩ hh2
      exact ihc w2 f2 (back (by omega) (hmap1.of_heap (hk2.old mb hmap1.lt)) (hN2.step hk2)) hh2
    | true =>
     rw [hmet,hcan] at hcase
     simp only [Bool.false_or,Bool.not_true,Bool.false_eq_true,if_false] at hcase
     rw [hcase] at ihc
     simp only at ihc
     have hcb:cnt < 1000000:=by omega
     refine toBN (tgt:=nat22 [3,4,5,6]) hbf hbk it_nmid (okDC b6 rfl) hh1 (S:=fun a w'=>((∃ f,a=⟨tmN (.int .i64 err) (ptr b6) (ptr p) (ptr b8) v9 v10 (.int .i64 i) (.int .i64 st.2) (.map (some mb)) (ptr b14) (.int .i64 sh) (.int .i64 k.n) (.int .i64 i) f,[dC b6]⟩) ∧
       a.tmps[90]? = some (.int .i64 st.2)∧a.tmps[91]? = some (ptr p)∧a.tmps[92]? = some (.agg (stC (s.setLim i (nxLim s i err sh))).toArray))∧MapS w' mb (cnt+1) ((s.setLim i (nxLim s i err sh)).limAt i :: st.1)∧KpBut mb w1 w')
      (fun a w' τ d h=>⟨h.1,mapS_re h.2.1 τ d,kpb_re1 h.2.2 τ d⟩) (fun τ d=>?_) ?_
     ·refine (next3yes (w:=w1.re τ d) hX' hx err i hi mb b14 b16 cnt st.1 (mapS_re hmap1 τ d) hr16 sh hsh0 (by omega) _ _ _ _ _ _ f1 hf16 hN2.vin (by rw [hxl];exact hmet) hcan hcb hV'm).mono ?_
      rintro a w' ⟨h1,h2,h3⟩
      exact ⟨h1,h2,kpb_re0 h3⟩
     ·rintro a w2 ⟨⟨⟨f2,rfl⟩,h90,h91,h92⟩,hm2,hk2⟩ hh2
      rw [hxl] at hm2
      have hN3:=hN2.but hk2 hN.lm hN.m6 hV'm
      have e91:f2 91=ptr p:=Option.some.inj h91
      have e92:f2 92=.agg (stC (s.setLim i (nxLim s i err sh))).toArray:=Option.some.inj h92
      have e90:f2 90=.int .i64 st.2:=Option.some.inj h90
      refine toB_tot hX' hok hx hlo hhi hN3.vin hh2 hbk (o:=ops22[3]!) (y:=.tmp 91) (z:=.tmp 92) (d:=93) rfl rfl rfl rfl rfl e91 e92 fun w3 hk3 hh3=>?_
      have hN4:=hN3.step hk3
      have hb:=totalS_bd k hn6 (s.setLim i (nxLim s i err sh)) false hlo
      obtain ⟨tt,htt⟩:∃ tt,totalS k (s.setLim i (nxLim s i err sh)) false=tt:=⟨_,rfl⟩
      rw [htt] at hb ihc ⊢
      have eA:(Act.put ⟨tmN (.int .i64 err) (ptr b6) (ptr p) (ptr b8) v9 v10 (.int .i64 i) (.int .i64 st.2) (.map (some mb)) (ptr b14) (.int .i64 sh) (.int .i64 k.n) (.int .i64 i) f2,[dC b6]⟩ (some 93) (spanV tt)) =
        ⟨tmN (.int .i64 err) (ptr b6) (ptr p) (ptr b8) v9 v10 (.int .i64 i) (.int .i64 st.2) (.map (some mb)) (ptr b14) (.int .i64 sh) (.int .i64 k.n) (.int .i64 i) (fun j=>if j=93 then spanV tt else f2 j),[dC b6]⟩:=rfl
      rw [eA]
      refine toBN (tgt:=nhead2) hbf hbk (it_nat22 [4,5,6]) (okDC b6 rfl) hh3 (S:=fun a w'=>(∃ f,a=⟨tmN (.int .i64 err) (ptr b6) (ptr p) (ptr b8) v9 v10 (.int .i64 i) (.int .i64 (max st.2 (sizeS tt))) (.map (some mb)) (ptr b14) (.int .i64 (sh+1)) (.int .i64 k.n) (.int .i64 i) f,[dC b6]⟩)∧Kp w3 w')
       (fun a w' τ d h=>⟨h.1,kp_re1 h.2 τ d⟩) (fun τ d=>?_) ?_
      ·refine (next4 (w:=w3.re τ d) st.2 sh hsh0 (by omega) _ _ _ _ _ _ _ _ _ _ _ (fun j=>if j=93 then spanV tt else f2 j) tt (hb.mono (by omega)) (by simp) (by simp [e90]) hN4.vin).mono ?_
       rintro a w' ⟨h1,h2⟩
       exact ⟨h1,kp_re0 h2⟩
      ·rintro a w4 ⟨⟨f4,rfl⟩,hk4⟩ hh4
       have hm3:=hm2.of_heap (hk3.old mb hm2.lt)
       exact ihc w4 f4 (back (by omega) (hm3.of_heap (hk4.old mb hm3.lt)) (hN4.step hk4)) hh4
end
end Go.Proofs.YtjjmefieegcddaaDoor
namespace Go.Proofs.YtjjmefieegcddaaDoor
open Go.RowKit Go.Wg Go.Mm Go.Wk
open Go Go.Sr Go.Ph Go.Tm Go.Conc
section
variable {V:View} {w0 w:World} {p:Nat} {k:Wk} {D:List Nat} {b6 b8:Nat} {s:SS} {b:Frame} {cs:List Frame} {Q:Goroutine→World→Prop}
set_option maxHeartbeats 2000000 in
theorem outer (hX:NX V p k D b8 s) (hok:k.Ok) (hs:s.WF) (hlo:∀ i,0≤(s.losAt i).1) (hhi:∀ i,(s.losAt i).2≤1000) (err:Int) (he0:0≤err) (he9:err≤9) (hbf:b.fn=43) (hbk:b.kind=.normal)
  (hend:∀ w f v11 v12 v13 v14 v15,N1 w0 V b6 w→HeapOk OC w→ToB Tryd.prog (G (b.at ⟨tmN (.int .i64 err) (ptr b6) (ptr p) (ptr b8) (.int .i64 (nxBest k s err k.n).1) (.int .i64 (nxBest k s err k.n).2) v11 v12 v13 v14 v15 (.int .i64 k.n) (.int .i64 k.n) f,[dC b6]⟩ nhead1) cs) w Q) :
  ∀ (m i:Nat),i+m=k.n→∀ w f v11 v12 v13 v14 v15,N1 w0 V b6 w→HeapOk OC w →
   ToB Tryd.prog (G (b.at ⟨tmN (.int .i64 err) (ptr b6) (ptr p) (ptr b8) (.int .i64 (nxBest k s err i).1) (.int .i64 (nxBest k s err i).2) v11 v12 v13 v14 v15 (.int .i64 k.n) (.int .i64 i) f,[dC b6]⟩ nhead1) cs) w Q:=by
 have hn6:k.n≤6:=hok.le
 intro m
 induction m with
 | zero =>
  intro i hi w f v11 v12 v13 v14 v15 hN hh
  obtain rfl:i=k.n:=by omega
  exact hend w f v11 v12 v13 v14 v15 hN hh
 | succ m ih =>
  intro i hi w f v11 v12 v13 v14 v15 hN hh
  have hlt:i < k.n:=by omega
  have hwb:=weightTo_bd k s i 41 (Nat.le_refl _)
  rw [show weightTo k s i 41=weightS k s i from rfl] at hwb
  have ihc:=ih (i+1) (by omega)
  have hB:nxBest k s err (i+1)=if nxMost k s i err < (nxBest k s err i).2 then ((i:Int),nxMost k s i err) else nxBest k s err i:=rfl
  refine toBN (tgt:=nhead2) hbf hbk it_nhead1 (okDC b6 rfl) hh (S:=fun a w'=>∃ mb b14,(∃ f,a=⟨tmN (.int .i64 err) (ptr b6) (ptr p) (ptr b8) (.int .i64 (nxBest k s err i).1) (.int .i64 (nxBest k s err i).2) (.int .i64 i) (.int .i64 0) (.map (some mb)) (ptr b14) (.int .i64 ((weightS k s i).1 - err)) (.int .i64 k.n) (.int .i64 i) f,[dC b6]⟩) ∧
    Kp w w'∧MapS w' mb 0 []∧w.heap.size≤mb∧w.heap.size≤b14∧w'.heap[b14]? = some (.cells #[.int .i64 (weightS k s i).1,.int .i64 (weightS k s i).2] 27 (0,0)))
   (fun a w' τ d ⟨mb,b14,h1,h2,h3,h4⟩=>⟨mb,b14,h1,kp_re1 h2 τ d,mapS_re h3 τ d,h4⟩) (fun τ d=>?_) ?_
  ·refine (next2 (w:=w.re τ d) hX hs err he0 he9 i hlt (ptr b6) _ _ v11 v12 v13 v14 v15 f hN.vin).mono ?_
   rintro a w' ⟨mb,b14,h1,h2,h3,h4⟩
   exact ⟨mb,b14,h1,kp_re0 h2,h3,h4⟩
  ·rintro a w1 ⟨mb,b14,⟨f1,rfl⟩,hk1,hm1,lm,l14,h14⟩ hh1
   have hN1:=hN.step hk1
   have h6lt:=lt_of_heap hN.e6
   have hVn:∀ {j:Nat},w.heap.size≤j→V j=none:=fun {j} hj=>by
    cases hv:V j with
    | none=>rfl
    | some o =>
     have:=lt_of_heap (hN.vin j o hv)
     omega
   have hne:mb≠b14:=by
    rintro rfl
    obtain ⟨es,cl,ho⟩:=hm1.obj
    rw [h14] at ho
    cases ho
   obtain ⟨V2,hVV,hV14,hVo,hN2⟩:=hN1.more h14 (by omega) (hVn l14)
   have hr14:V2.Range b14 0 [.int .i64 (weightS k s i).1,.int .i64 (weightS k s i).2]:=fun j v hj=>⟨_,_,_,hV14,by rw [Nat.zero_add];simpa using hj⟩
   have hin:=inner (b:=b) (cs:=cs) (Q:=Q) (w0:=w0) (b6:=b6) (hX.mono hVV) hok hs hlo hhi err he0 he9 i hlt b14 mb hbf hbk (.int .i64 (nxBest k s err i).1) (.int .i64 (nxBest k s err i).2) (fun w2 f2 sh hN3 hr3 hsh hh2=>?_) (nxCnt (weightS k s i) err) 0 (by omega) w1 f1
    ⟨hN2,hr14,⟨0,Nat.le_refl _,hm1⟩,Nat.le_trans hN.kp.size lm,(hVo mb hne).trans (hVn lm),by omega⟩ hh1
   ·have e0:(weightS k s i).1 - err+((0:Nat):Int)=(weightS k s i).1 - err:=by omega
    rw [e0] at hin
    exact hin
   ·have hback:N1 w0 V b6 w2→N1 w0 V b6 w2:=id
    have hN4:N1 w0 V b6 w2:=⟨hN3.kp,fun j u hj=>hN3.vin j u (hVV j u hj),hN3.e6,hN3.n6,hN.off⟩
    by_cases hlt':nxMost k s i err < (nxBest k s err i).2
    ·rw [if_pos hlt'] at hB
     rw [hB] at ihc
     refine toBN (tgt:=nhead1) hbf hbk it_nhead2 (okDC b6 rfl) hh2 (S:=fun a w'=>(∃ f,a=⟨tmN (.int .i64 err) (ptr b6) (ptr p) (ptr b8) (.int .i64 i) (.int .i64 (nxMost k s i err)) (.int .i64 i) (.int .i64 (nxMost k s i err)) (.map (some mb)) (ptr b14) (.int .i64 sh) (.int .i64 k.n) (.int .i64 ((i:Int)+1)) f,[dC b6]⟩)∧Kp w2 w')
      (fun a w' τ d h=>⟨h.1,kp_re1 h.2 τ d⟩) (fun τ d=>?_) ?_
     ·refine (next5a (w:=w2.re τ d) err _ _ _ sh i k.n b14 _ hr3 hwb.2.2.1 hwb.2.2.2 he0 he9 hsh hlt hn6 hlt' _ _ _ _ f2 hN3.vin).mono ?_
      rintro a w' ⟨h1,h2⟩
      exact ⟨h1,kp_re0 h2⟩
     ·rintro a w3 ⟨⟨f3,rfl⟩,hk3⟩ hh3
      exact ihc w3 f3 _ _ _ _ _ (hN4.step hk3) hh3
    ·rw [if_neg hlt'] at hB
     rw [hB] at ihc
     refine toBN (tgt:=nhead1) hbf hbk it_nhead2 (okDC b6 rfl) hh2 (S:=fun a w'=>(∃ f,a=⟨tmN (.int .i64 err) (ptr b6) (ptr p) (ptr b8) (.int .i64 (nxBest k s err i).1) (.int .i64 (nxBest k s err i).2) (.int .i64 i) (.int .i64 (nxMost k s i err)) (.map (some mb)) (ptr b14) (.int .i64 sh) (.int .i64 k.n) (.int .i64 ((i:Int)+1)) f,[dC b6]⟩)∧Kp w2 w')
      (fun a w' τ d h=>⟨h.1,kp_re1 h.2 τ d⟩) (fun τ d=>?_) ?_
     ·refine (next5b (w:=w2.re τ d) err _ _ _ sh i k.n b14 _ hr3 hwb.2.2.1 hwb.2.2.2 he0 he9 hsh hlt hn6 hlt' _ _ _ _ f2 hN3.vin).mono ?_
      rintro a w' ⟨h1,h2⟩
      exact ⟨h1,kp_re0 h2⟩
     ·rintro a w3 ⟨⟨f3,rfl⟩,hk3⟩ hh3
      exact ihc w3 f3 _ _ _ _ _ (hN4.step hk3) hh3
theorem next_ret {a:Act} {x y e:Int} {k0:List Item} (hk0:k0.all itemO=true) (hbf:b.fn=43) (hbk:b.kind=.normal) (hh:HeapOk OC w) (h4:a.tmps[4]? = some (.int .i64 x)) (h5:a.tmps[5]? = some (.int .i64 y)) (h6:a.tmps[6]? = some (ptr b6)) (hd:a.defers=[dC b6])
  (hS:St w0 [] V [.blk b6 38 [.int .i64 e]] w) :
  ToB Tryd.prog (G (b.at a (.code .ret :: k0)) cs) w (fun a' w'=>∃ e' fr,a'=G fr cs∧(e'=.returned (.tuple #[.int .i64 x,.int .i64 y,.int .i64 e])∧Kp w0 w')∧fr.fn=43∧fr.leaving Tryd.prog w' e'∧e'≠.outgrown∧HeapOk OC w'):=by
 obtain ⟨tm,df⟩:=a
 simp only at h4 h5 h6 hd
 subst hd
 refine toB_ret ?_
 refine toB_leavesP (fr:={ b.at ⟨tm,[dC b6]⟩ (.code .ret :: k0) with mode:=.returning }) (R:=fun e' w'=>e'=.returned (.tuple #[.int .i64 x,.int .i64 y,.int .i64 e])∧Kp w0 w') sokAll ins_kp (fun w h=>nomatch h.1) (fn:=Tryd.f43) ⟨⟨fun z hz=>?_,okDC b6 (a:=⟨tm,[dC b6]⟩) rfl,.inl hbk⟩,rfl,hbk,hbf⟩ Tryd.func43 hh rfl (fun τ d=>?_) cs
 ·rcases List.mem_cons.1 (show z∈Item.code .ret :: k0 from hz) with rfl | hz
  ·exact (show okCode true .ret=true from rfl)
  ·exact itemsO_of hk0 z hz
 ·have g:∀ {j:Nat} {v:Value},tm[j]? = some v→tm.getD j undef=v:=fun h=>by
   rw [Array.getD_eq_getD_getElem?,h]
   rfl
  exact door_idle (R:=fun e' w'=>e'=.returned (.tuple #[.int .i64 x,.int .i64 y,.int .i64 e])∧Kp w0 w') (hS.re1 τ d) fun w3 hS3=>⟨_,results3 (r1:=.tmp 4) (r2:=.tmp 5) (r3:=.cell 6 38) (by kernel_rfl) (res_tmp (g h4)) (res_tmp (g h5)) (res_cell1 hS3 0 (g h6) rfl (by kernel_rfl) rfl),rfl,hS3.toKp⟩
end
end Go.Proofs.YtjjmefieegcddaaDoor
