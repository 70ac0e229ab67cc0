/- A part of the proof: W46, W47, W48, W49, W50, W51, W52, W53. -/
import Derived.Test.YtjjmefieegcddaaDoorC26
import Derived.Maps.OwnOps
set_option linter.unusedVariables false
set_option linter.unusedSimpArgs false
set_option maxHeartbeats 8000000
namespace Go.Proofs.YtjjmefieegcddaaDoor
open Go.RowKit Go.Wg Go.Mm Go.Wk
open Go Go.Sr Go.Ph Go.Tm Go.Conc
variable {w:World} {V:View} {DS:List Deferred}
set_option maxRecDepth 20000 in
theorem GK {p:Nat} {k:Wk} {D:List Nat} {b8:Nat} {s:SS} (hX:NX V p k D b8 s) (hs:s.WF) (err:Int) (he0:0≤err) (he9:err≤9) (i:Nat) (hi:i < k.n) (v6 v9 v10 v11 v12 v13 v14 v15:Value) (f:Nat→Value) (hV:V.In w) :
  fA Tryd.prog iH (fun a w'=>∃ mb b14,(∃ f,a=⟨kH (.int .i64 err) v6 (ptr p) (ptr b8) v9 v10 (.int .i64 i) (.int .i64 0) (.map (some mb)) (ptr b14) (.int .i64 ((aO k s i).1 - err)) (.int .i64 k.n) (.int .i64 i) f,DS⟩) ∧
    Kp w w'∧jk w' mb 0 []∧w.heap.size≤mb∧w.heap.size≤b14∧w'.heap[b14]? = some (.cells #[.int .i64 (aO k s i).1,.int .i64 (aO k s i).2] 27 (0,0)))
   jO ⟨kH (.int .i64 err) v6 (ptr p) (ptr b8) v9 v10 v11 v12 v13 v14 v15 (.int .i64 k.n) (.int .i64 i) f,DS⟩ w:=by
 have hn6:k.n≤6:=by obtain ⟨ts,x,y,hc⟩:=hX.cel;exact hc.le
 have HL:(dJ s).length=18:=dG hs
 have h0:(0:Int)≤i:=by omega
 have h1:(i:Int) < k.n:=by omega
 have h6:i < 6:=by omega
 have hr8:=hX.s8
 have hwb:=qE k s i 41 (Nat.le_refl _)
 have hwk:=fun (w1:World) (hV1:V.In w1)=>Af V p k hX.cel hX.gv s hs i h6 w1 hV1
 rw [show bZ k s i 41=aO k s i from rfl] at hwb
 generalize aO k s i=r at hwb hwk ⊢
 have hS:=St.start w V hV
 rw [show kH (.int .i64 err) v6 (ptr p) (ptr b8) v9 v10 v11 v12 v13 v14 v15 (.int .i64 k.n) (.int .i64 i) f=#[f 0,.int .i64 err,f 2,f 3,f 4,f 5,v6,.pointer (some ⟨p,0,none⟩),.pointer (some ⟨b8,0,none⟩),v9,v10,v11,v12,v13,v14,v15,f 16,f 17,f 18,f 19,f 20,f 21,f 22,f 23,f 24,f 25,f 26,f 27,f 28,f 29,f 30,f 31,f 32,f 33,f 34,f 35,f 36,.int .i64 k.n,.int .i64 i,f 39,f 40,f 41,f 42,f 43,f 44,f 45,f 46,f 47,f 48,f 49,f 50,f 51,f 52,f 53,f 54,f 55,f 56,f 57,f 58,f 59,f 60,f 61,f 62,f 63,f 64,f 65,f 66,f 67,f 68,f 69,f 70,f 71,f 72,f 73,f 74,f 75,f 76,f 77,f 78,f 79,f 80,f 81,f 82,f 83,f 84,f 85,f 86,f 87,f 88,f 89,f 90,f 91,f 92,f 93,f 94,f 95,f 96,f 97,f 98,f 99,f 100,f 101,f 102,f 103,f 104,f 105] from by unfold kH ptr;rfl]
 refine au (aA ?_)
 go_wp2_with (fail)
 refine au (dZ (t:=true) rfl (lu ?_))
 refine au (jg (au (aA ?_)))
 go_wp2_with (fail)
 refine au (aA ?_)
 go_wp2_with (fail)
 refine au (ig ?_)
 refine cO (i:=0) rfl rfl (DX rfl w) ?_
 refine cO (i:=1) (v:=.map (some w.heap.size)) rfl rfl rfl (dH ?_)
 have hk1:Kp w (w.alloc (.map #[] 0)):=⟨rfl,rfl,by show _≤(w.heap.push _).size;simp,fun k hk=>heap_alloc_old w _ hk⟩
 have hm1:=jk.made w
 have hlm:w.heap.size≤w.heap.size:=Nat.le_refl _
 have hin:=(hS.kp hk1).view
 clear hS
 generalize w.alloc (.map #[] 0)=w1 at *
 obtain ⟨mb,hmb⟩:∃ mb,w.heap.size=mb:=⟨_,rfl⟩
 rw [hmb] at hm1
 have hlm:w.heap.size≤mb:=by omega
 rw [hmb]
 have hS:=St.start w1 V hin
 show fA Tryd.prog iH _ _ ⟨#[f 0,.int .i64 err,f 2,f 3,f 4,f 5,v6,.pointer (some ⟨p,0,none⟩),.pointer (some ⟨b8,0,none⟩),v9,v10,.int .i64 i,.int .i64 0,.map (some mb),v14,v15,f 16,f 17,f 18,f 19,f 20,f 21,f 22,f 23,f 24,f 25,f 26,f 27,f 28,f 29,f 30,f 31,f 32,f 33,f 34,f 35,f 36,.int .i64 k.n,.int .i64 i,.bool true,.int .i64 i,.map (some mb),f 42,f 43,f 44,f 45,f 46,f 47,f 48,f 49,f 50,f 51,f 52,f 53,f 54,f 55,f 56,f 57,f 58,f 59,f 60,f 61,f 62,f 63,f 64,f 65,f 66,f 67,f 68,f 69,f 70,f 71,f 72,f 73,f 74,f 75,f 76,f 77,f 78,f 79,f 80,f 81,f 82,f 83,f 84,f 85,f 86,f 87,f 88,f 89,f 90,f 91,f 92,f 93,f 94,f 95,f 96,f 97,f 98,f 99,f 100,f 101,f 102,f 103,f 104,f 105],DS⟩ w1
 refine au (aA ?_)
 go_wp2_with (first | (first | ((first | ((with_reducible refine gL ?_);refine zQ hS rfl rfl rfl ?_) | ((with_reducible refine gS ?_);refine bQ hS rfl rfl rfl ?_));refine ⟨_,zd,?_⟩;clear hS;(try clear w');intro a' hp;(try simp only [fr] at hp);subst hp;intro w' hS;(try simp only [sE] at hS)) | ((with_reducible refine gA ?_);refine aT 14 rfl hS rfl rfl ?_;clear hS;(try clear w');intro b14;intro a' hp;(try simp only [fr] at hp);subst hp;intro w' hS)) | (go_at_call 99;refine aH hS ⟨_,hwk _ (St.view hS),?_⟩;clear hS;(try clear w');intro w' hS))
 obtain ⟨q1,q2,q3,q4⟩:=hwb
 refine au (au (aA ?_))
 go_wp2_with (((with_reducible refine gL ?_);refine gY hS rfl rfl rfl ?_);refine ⟨_,zd,?_⟩;clear hS;(try clear w');intro a' hp;(try simp only [fr] at hp);subst hp;intro w' hS;(try simp only [sE] at hS))
 refine jg (zh ?_)
 have hm2:jk w' mb 0 []:=hm1.of_heap (hS.bM.old mb hm1.lt)
 have hl14:=(hS.new (.blk b14 27 [.int .i64 r.1,.int .i64 r.2]) (by simp) b14 rfl).elim id (fun h=>nomatch h)
 have hsz:=hk1.size
 exact bG (tgt:=iH) ⟨mb,b14,qO rfl,hk1.trans hS.bM,hm2,Nat.le_refl _,by omega,hS.dR⟩
noncomputable def N20:Code:=match YN with | .seq _ (.seq (.block _ (.seq _ (.seq _ c))) _)=>c | _=>.skip
noncomputable def OM:List Item:=.code N20 :: .inBlock 3 :: .code aa1 :: .inLoop YN :: U4
set_option maxRecDepth 20000 in
theorem Z5 {p:Nat} {k:Wk} {D:List Nat} {b8:Nat} {s:SS} (hX:NX V p k D b8 s) (hs:s.WF) (err:Int) (he0:0≤err) (he9:err≤9) (i:Nat) (hi:i < k.n) (mb b14:Nat) (r:Int × Int) (hr:V.Range b14 0 [.int .i64 r.1,.int .i64 r.2]) (hr0:0≤r.2) (hr4:r.2≤40)
  (sh:Int) (hsh0:-9≤sh) (hsh:sh≤r.2+err) (v6 v9 v10 v12 v37 v38:Value) (f:Nat→Value) (hV:V.In w) :
  fA Tryd.prog OM (fun a w'=>∃ b16,((∃ f,a=⟨kH (.int .i64 err) v6 (ptr p) (ptr b8) v9 v10 (.int .i64 i) v12 (.map (some mb)) (ptr b14) (.int .i64 sh) v37 v38 f,DS⟩)∧a.tmps[16]? = some (ptr b16))∧St w [] V [.blk b16 100 (dJ (s.cu i (jA s i err sh)))] w')
   iH ⟨kH (.int .i64 err) v6 (ptr p) (ptr b8) v9 v10 (.int .i64 i) v12 (.map (some mb)) (ptr b14) (.int .i64 sh) v37 v38 f,DS⟩ w:=by
 have hn6:k.n≤6:=by obtain ⟨ts,x,y,hc⟩:=hX.cel;exact hc.le
 have HL:(dJ s).length=18:=dG hs
 have h0:(0:Int)≤i:=by omega
 have h6:i < 6:=by omega
 have h7:(i:Int) < 6:=by omega
 have hr8:=hX.s8
 have hl8:(dJ s)[i]? = some (.int .u64 (s.aK i:Nat)):=oh hs h6
 have HB:=rJ (s.aK i) (dO (sh - err) (sh+err)) (by have:=hs.fZ i;omega) (by have:=rG (sh - err) (sh+err);omega)
 have HS:=pO hs h6 (s.aK i &&& dO (sh - err) (sh+err))
 have HN:jA s i err sh=s.aK i &&& dO (sh - err) (sh+err):=rfl
 rw [HN]
 clear HN
 replace HB:=aj HB;replace HS:=aj HS
 have hc14:V.Cell b14 1 (.int .i64 r.2):=hr 1 _ rfl
 have hS:=St.start w V hV
 rw [show kH (.int .i64 err) v6 (ptr p) (ptr b8) v9 v10 (.int .i64 i) v12 (.map (some mb)) (ptr b14) (.int .i64 sh) v37 v38 f=#[f 0,.int .i64 err,f 2,f 3,f 4,f 5,v6,.pointer (some ⟨p,0,none⟩),.pointer (some ⟨b8,0,none⟩),v9,v10,.int .i64 i,v12,.map (some mb),.pointer (some ⟨b14,0,none⟩),.int .i64 sh,f 16,f 17,f 18,f 19,f 20,f 21,f 22,f 23,f 24,f 25,f 26,f 27,f 28,f 29,f 30,f 31,f 32,f 33,f 34,f 35,f 36,v37,v38,f 39,f 40,f 41,f 42,f 43,f 44,f 45,f 46,f 47,f 48,f 49,f 50,f 51,f 52,f 53,f 54,f 55,f 56,f 57,f 58,f 59,f 60,f 61,f 62,f 63,f 64,f 65,f 66,f 67,f 68,f 69,f 70,f 71,f 72,f 73,f 74,f 75,f 76,f 77,f 78,f 79,f 80,f 81,f 82,f 83,f 84,f 85,f 86,f 87,f 88,f 89,f 90,f 91,f 92,f 93,f 94,f 95,f 96,f 97,f 98,f 99,f 100,f 101,f 102,f 103,f 104,f 105] from by unfold kH ptr;rfl]
 refine au (aA ?_)
 go_wp2_with (((with_reducible refine gL ?_);refine nC hS rfl rfl rfl ?_);refine ⟨_,zd,?_⟩;clear hS;(try clear w');intro a' hp;(try simp only [fr] at hp);subst hp;intro w' hS;(try simp only [sE] at hS))
 refine au (jg (au (aA ?_)))
 go_wp2_with (first | ((first | ((with_reducible refine gL ?_);refine zQ hS rfl rfl rfl ?_) | ((with_reducible refine gS ?_);refine bQ hS rfl rfl rfl ?_));refine ⟨_,zd,?_⟩;clear hS;(try clear w');intro a' hp;(try simp only [fr] at hp);subst hp;intro w' hS;(try simp only [sE] at hS)) | ((with_reducible refine gA ?_);refine aT 16 rfl hS rfl rfl ?_;clear hS;(try clear w');intro b16;intro a' hp;(try simp only [fr] at hp);subst hp;intro w' hS))
 refine au (aA ?_)
 (refine aY 14 (by kernel_rfl) (by kernel_rfl) (St.eY hS) ?_;simp only [List.take_succ_cons,List.take_zero,List.drop_succ_cons,List.drop_zero];clear hS;(repeat ((go_big_quiet_want;(first | ((with_reducible refine Xf ?_);refine jW rfl rfl ?_;intro a' hp;(try simp only [fr] at hp);subst hp) | ((with_reducible refine Uj ?_);(refine pq rfl rfl ?_);refine ⟨_,zd,?_⟩;intro a' hp;(try simp only [fr] at hp);subst hp) | ((with_reducible refine YW ?_);refine mF ?_;refine ⟨_,_,by (intro _;go_simp;exact ⟨rfl,rfl⟩),?_⟩;refine ⟨_,by (intro w' hS;((go_at_call 100;exact yH _ _ _))),?_⟩;intro a' hp;(try simp only [fr] at hp);subst hp) | (refine gu ?_;refine ⟨_,zp,?_⟩;intro a' hp;(try simp only [fr] at hp);subst hp));go_big_quiet_on)));refine wpQuiet_nil ?_;(try clear w');intro w' hS)
 go_wp2_with ((((with_reducible refine gS ?_);refine pX hS rfl rfl rfl ?_);refine ⟨_,zd,?_⟩;clear hS;(try clear w');intro a' hp;(try simp only [fr] at hp);subst hp;intro w' hS;(try simp only [sE] at hS));try (simp only [HB.out,HS.out] at hS))
 exact bG (tgt:=OM) ⟨b16,⟨qO rfl,rfl⟩,hS⟩
theorem wz {o:Oper} {ρ:Operand→Value} {m x:Operand} {b n key:Nat} {l:List Nat} (ho:o.op=.lookup 134 m x false) (hm:ρ m=.map (some b)) (hx:ρ x=.int .u64 (key:Int)) (h:jk w b n l) (hk:key < 18446744073709551616) :
  (execOp ρ o).run Tryd.prog w=.ok (.value (.bool (l.contains key))) w:=by
 have hl:=h.look hk
 unfold execOp
 simp only [ho,hm,hx,Sem.run_bind,hl]
 rfl
set_option maxRecDepth 20000 in
theorem UD {p:Nat} {k:Wk} {D:List Nat} {b8:Nat} {s x:SS} (hX:NX V p k D b8 s) (hx:x.WF) (err:Int) (i:Nat) (hi:i < k.n) (mb b14 b16 cnt:Nat) (l:List Nat) (hmap:jk w mb cnt l) (h16:V.Range b16 0 (dJ x))
  (sh:Int) (hsh0:-9≤sh) (hsh:sh≤49) (v6 v9 v10 v12 v37 v38:Value) (f:Nat→Value) (hf16:f 16=ptr b16) (hV:V.In w) (hmet:l.contains (x.aK i)=true) :
  fA Tryd.prog iH (fun a w'=>(∃ f,a=⟨kH (.int .i64 err) v6 (ptr p) (ptr b8) v9 v10 (.int .i64 i) v12 (.map (some mb)) (ptr b14) (.int .i64 (sh+1)) v37 v38 f,DS⟩)∧Kp w w') OM ⟨kH (.int .i64 err) v6 (ptr p) (ptr b8) v9 v10 (.int .i64 i) v12 (.map (some mb)) (ptr b14) (.int .i64 sh) v37 v38 f,DS⟩ w:=by
 have hn6:k.n≤6:=by obtain ⟨ts,y,z,hc⟩:=hX.cel;exact hc.le
 have HL:(dJ x).length=18:=dG hx
 have h0:(0:Int)≤i:=by omega
 have h6:i < 6:=by omega
 have h7:(i:Int) < 6:=by omega
 have hl8:(dJ x)[i]? = some (.int .u64 (x.aK i:Nat)):=oh hx h6
 have hc16:V.Cell b16 i (.int .u64 (x.aK i:Nat)):=by
  have:=h16 i _ hl8
  rwa [Nat.zero_add] at this
 have hm64:x.aK i < 18446744073709551616:=by have:=hx.fZ i;omega
 have hS:=St.start w V hV
 rw [show kH (.int .i64 err) v6 (ptr p) (ptr b8) v9 v10 (.int .i64 i) v12 (.map (some mb)) (ptr b14) (.int .i64 sh) v37 v38 f=#[f 0,.int .i64 err,f 2,f 3,f 4,f 5,v6,.pointer (some ⟨p,0,none⟩),.pointer (some ⟨b8,0,none⟩),v9,v10,.int .i64 i,v12,.map (some mb),.pointer (some ⟨b14,0,none⟩),.int .i64 sh,.pointer (some ⟨b16,0,none⟩),f 17,f 18,f 19,f 20,f 21,f 22,f 23,f 24,f 25,f 26,f 27,f 28,f 29,f 30,f 31,f 32,f 33,f 34,f 35,f 36,v37,v38,f 39,f 40,f 41,f 42,f 43,f 44,f 45,f 46,f 47,f 48,f 49,f 50,f 51,f 52,f 53,f 54,f 55,f 56,f 57,f 58,f 59,f 60,f 61,f 62,f 63,f 64,f 65,f 66,f 67,f 68,f 69,f 70,f 71,f 72,f 73,f 74,f 75,f 76,f 77,f 78,f 79,f 80,f 81,f 82,f 83,f 84,f 85,f 86,f 87,f 88,f 89,f 90,f 91,f 92,f 93,f 94,f 95,f 96,f 97,f 98,f 99,f 100,f 101,f 102,f 103,f 104,f 105] from by unfold kH;simp only [hf16,ptr]]
 refine au (au (aA ?_))
 go_wp2_with (first | (((with_reducible refine gL ?_);refine nC hS rfl rfl rfl ?_);refine ⟨_,zd,?_⟩;clear hS;(try clear w');intro a' hp;(try simp only [fr] at hp);subst hp;intro w' hS;(try simp only [sE] at hS)) | (at_lookup;refine dU rfl (wz rfl rfl rfl (jk.of_heap hmap (hS.bM.old mb (jk.lt hmap))) hm64) ?_;rw [hmet]))
 refine dZ (t:=true) rfl (lG rfl ?_)
 refine aA ?_
 conv=>enter [2];whnf
 go_wp2_with (fail)
 refine jr ?_
 exact bG (tgt:=iH) ⟨qO rfl,hS.bM⟩
set_option maxRecDepth 20000 in
theorem XY {p:Nat} {k:Wk} {D:List Nat} {b8:Nat} {s x:SS} (hX:NX V p k D b8 s) (hx:x.WF) (err:Int) (i:Nat) (hi:i < k.n) (mb b14 b16 cnt:Nat) (l:List Nat) (hmap:jk w mb cnt l) (h16:V.Range b16 0 (dJ x))
  (sh:Int) (hsh0:-9≤sh) (hsh:sh≤49) (v6 v9 v10 v12 v37 v38:Value) (f:Nat→Value) (hf16:f 16=ptr b16) (hV:V.In w) (hmet:l.contains (x.aK i)=false) (hcan:can k x=false) :
  fA Tryd.prog iH (fun a w'=>(∃ f,a=⟨kH (.int .i64 err) v6 (ptr p) (ptr b8) v9 v10 (.int .i64 i) v12 (.map (some mb)) (ptr b14) (.int .i64 (sh+1)) v37 v38 f,DS⟩)∧Kp w w') OM ⟨kH (.int .i64 err) v6 (ptr p) (ptr b8) v9 v10 (.int .i64 i) v12 (.map (some mb)) (ptr b14) (.int .i64 sh) v37 v38 f,DS⟩ w:=by
 have hn6:k.n≤6:=by obtain ⟨ts,y,z,hc⟩:=hX.cel;exact hc.le
 have HL:(dJ x).length=18:=dG hx
 have h0:(0:Int)≤i:=by omega
 have h6:i < 6:=by omega
 have h7:(i:Int) < 6:=by omega
 have hl8:(dJ x)[i]? = some (.int .u64 (x.aK i:Nat)):=oh hx h6
 have hc16:V.Cell b16 i (.int .u64 (x.aK i:Nat)):=by
  have:=h16 i _ hl8
  rwa [Nat.zero_add] at this
 have hm64:x.aK i < 18446744073709551616:=by have:=hx.fZ i;omega
 have hS:=St.start w V hV
 rw [show kH (.int .i64 err) v6 (ptr p) (ptr b8) v9 v10 (.int .i64 i) v12 (.map (some mb)) (ptr b14) (.int .i64 sh) v37 v38 f=#[f 0,.int .i64 err,f 2,f 3,f 4,f 5,v6,.pointer (some ⟨p,0,none⟩),.pointer (some ⟨b8,0,none⟩),v9,v10,.int .i64 i,v12,.map (some mb),.pointer (some ⟨b14,0,none⟩),.int .i64 sh,.pointer (some ⟨b16,0,none⟩),f 17,f 18,f 19,f 20,f 21,f 22,f 23,f 24,f 25,f 26,f 27,f 28,f 29,f 30,f 31,f 32,f 33,f 34,f 35,f 36,v37,v38,f 39,f 40,f 41,f 42,f 43,f 44,f 45,f 46,f 47,f 48,f 49,f 50,f 51,f 52,f 53,f 54,f 55,f 56,f 57,f 58,f 59,f 60,f 61,f 62,f 63,f 64,f 65,f 66,f 67,f 68,f 69,f 70,f 71,f 72,f 73,f 74,f 75,f 76,f 77,f 78,f 79,f 80,f 81,f 82,f 83,f 84,f 85,f 86,f 87,f 88,f 89,f 90,f 91,f 92,f 93,f 94,f 95,f 96,f 97,f 98,f 99,f 100,f 101,f 102,f 103,f 104,f 105] from by unfold kH;simp only [hf16,ptr]]
 refine au (au (aA ?_))
 go_wp2_with (first | (((with_reducible refine gL ?_);first | refine nC hS rfl rfl rfl ?_ | refine zQ hS rfl rfl rfl ?_);refine ⟨_,zd,?_⟩;clear hS;(try clear w');intro a' hp;(try simp only [fr] at hp);subst hp;intro w' hS;(try simp only [sE] at hS)) | (at_lookup;refine dU rfl (wz rfl rfl rfl (jk.of_heap hmap (hS.bM.old mb (jk.lt hmap))) hm64) ?_;rw [hmet]) | (go_at_call 78;refine aH hS ⟨_,Dx V p k hX.cel hX.gv x hx _ (St.view hS),?_⟩;rw [hcan];clear hS;(try clear w');intro w' hS))
 refine dZ (t:=true) rfl (lG rfl ?_)
 refine aA ?_
 conv=>enter [2];whnf
 go_wp2_with (fail)
 refine jr ?_
 exact bG (tgt:=iH) ⟨qO rfl,hS.bM⟩
theorem PD {o:Oper} {ρ:Operand→Value} {m x y:Operand} {b:Nat} {key:Nat} {w w':World} (ho:o.op=.mapUpdate 134 m x y) (hm:ρ m=.map (some b)) (hx:ρ x=.int .u64 (key:Int)) (hy:ρ y=.bool true)
  (h:(Instr.mapUpdate 134 (.map (some b)) (.int .u64 (key:Int)) (.bool true)).run Tryd.prog w=.ok () w'):(execOp ρ o).run Tryd.prog w=.ok .skip w':=by
 unfold execOp
 simp only [ho,hm,hx,hy,Sem.run_bind,h]
 rfl
set_option maxRecDepth 20000 in
theorem U8 {p:Nat} {k:Wk} {D:List Nat} {b8:Nat} {s x:SS} (hX:NX V p k D b8 s) (hx:x.WF) (err:Int) (i:Nat) (hi:i < k.n) (mb b14 b16 cnt:Nat) (l:List Nat) (hmap:jk w mb cnt l) (h16:V.Range b16 0 (dJ x))
  (sh:Int) (hsh0:-9≤sh) (hsh:sh≤49) (v6 v9 v10 v12 v37 v38:Value) (f:Nat→Value) (hf16:f 16=ptr b16) (hV:V.In w) (hmet:l.contains (x.aK i)=false) (hcan:can k x=true) (hcnt:cnt < 1000000) (hVm:V mb=none) :
  fA Tryd.prog (Ep [3,4,5,6]) (fun a w'=>((∃ f,a=⟨kH (.int .i64 err) v6 (ptr p) (ptr b8) v9 v10 (.int .i64 i) v12 (.map (some mb)) (ptr b14) (.int .i64 sh) v37 v38 f,DS⟩)∧a.tmps[90]? = some v12∧a.tmps[91]? = some (ptr p)∧a.tmps[92]? = some (.agg (dJ x).toArray))∧jk w' mb (cnt+1) (x.aK i :: l)∧ni mb w w')
   OM ⟨kH (.int .i64 err) v6 (ptr p) (ptr b8) v9 v10 (.int .i64 i) v12 (.map (some mb)) (ptr b14) (.int .i64 sh) v37 v38 f,DS⟩ w:=by
 have hn6:k.n≤6:=by obtain ⟨ts,y,z,hc⟩:=hX.cel;exact hc.le
 have HL:(dJ x).length=18:=dG hx
 have h0:(0:Int)≤i:=by omega
 have h6:i < 6:=by omega
 have h7:(i:Int) < 6:=by omega
 have hl8:(dJ x)[i]? = some (.int .u64 (x.aK i:Nat)):=oh hx h6
 have hc16:V.Cell b16 i (.int .u64 (x.aK i:Nat)):=by
  have:=h16 i _ hl8
  rwa [Nat.zero_add] at this
 have hm64:x.aK i < 18446744073709551616:=by have:=hx.fZ i;omega
 have hS:=St.start w V hV
 rw [show kH (.int .i64 err) v6 (ptr p) (ptr b8) v9 v10 (.int .i64 i) v12 (.map (some mb)) (ptr b14) (.int .i64 sh) v37 v38 f=#[f 0,.int .i64 err,f 2,f 3,f 4,f 5,v6,.pointer (some ⟨p,0,none⟩),.pointer (some ⟨b8,0,none⟩),v9,v10,.int .i64 i,v12,.map (some mb),.pointer (some ⟨b14,0,none⟩),.int .i64 sh,.pointer (some ⟨b16,0,none⟩),f 17,f 18,f 19,f 20,f 21,f 22,f 23,f 24,f 25,f 26,f 27,f 28,f 29,f 30,f 31,f 32,f 33,f 34,f 35,f 36,v37,v38,f 39,f 40,f 41,f 42,f 43,f 44,f 45,f 46,f 47,f 48,f 49,f 50,f 51,f 52,f 53,f 54,f 55,f 56,f 57,f 58,f 59,f 60,f 61,f 62,f 63,f 64,f 65,f 66,f 67,f 68,f 69,f 70,f 71,f 72,f 73,f 74,f 75,f 76,f 77,f 78,f 79,f 80,f 81,f 82,f 83,f 84,f 85,f 86,f 87,f 88,f 89,f 90,f 91,f 92,f 93,f 94,f 95,f 96,f 97,f 98,f 99,f 100,f 101,f 102,f 103,f 104,f 105] from by unfold kH;simp only [hf16,ptr]]
 refine au (au (aA ?_))
 go_wp2_with (first | (((with_reducible refine gL ?_);first | refine nC hS rfl rfl rfl ?_ | refine zQ hS rfl rfl rfl ?_);refine ⟨_,zd,?_⟩;clear hS;(try clear w');intro a' hp;(try simp only [fr] at hp);subst hp;intro w' hS;(try simp only [sE] at hS)) | (at_lookup;refine dU rfl (wz rfl rfl rfl (jk.of_heap hmap (hS.bM.old mb (jk.lt hmap))) hm64) ?_;rw [hmet]) | (go_at_call 78;refine aH hS ⟨_,Dx V p k hX.cel hX.gv x hx _ (St.view hS),?_⟩;rw [hcan];clear hS;(try clear w');intro w' hS))
 refine dZ (t:=false) rfl (lu ?_)
 refine au (aA ?_)
 go_wp2_with (first | (((with_reducible refine gL ?_);refine nC hS rfl rfl rfl ?_);refine ⟨_,zd,?_⟩;clear hS;(try clear w');intro a' hp;(try simp only [fr] at hp);subst hp;intro w' hS;(try simp only [sE] at hS)) | (at_mapUpdate;obtain ⟨w2,hr2,hm2,hg2⟩:=(jk.of_heap hmap (hS.bM.old mb (jk.lt hmap))).put hm64 hcnt;refine ES rfl (PD rfl rfl rfl rfl hr2) ?_))
 have hkb:ni mb w w2:=⟨hg2.os.trans hS.os,hg2.output.trans hS.output,Nat.le_trans hS.size hg2.size,fun j hj hn=>(hg2.block j (Nat.lt_of_lt_of_le hj hS.size) (fun h=>hn (Option.some.inj h))).trans (hS.bM.old j hj)⟩
 have hin2:V.In w2:=fun j o h=>by
  have hj:=hV j o h
  rw [hkb.old j (lt_of_heap hj) (by rintro rfl;rw [hVm] at h;cases h)]
  exact hj
 refine ig ?_
 refine cO (i:=0) (v:=v12) (w':=w2) rfl rfl rfl ?_
 refine cO (i:=1) (v:=.pointer (some ⟨p,0,none⟩)) (w':=w2) rfl rfl rfl ?_
 refine cO (i:=2) rfl rfl (iy (n:=18) rfl rfl jS.ok HL (h16.range hin2)) ?_
 show fA Tryd.prog (Ep [3,4,5,6]) _ _ ⟨#[f 0,.int .i64 err,f 2,f 3,f 4,f 5,v6,.pointer (some ⟨p,0,none⟩),.pointer (some ⟨b8,0,none⟩),v9,v10,.int .i64 i,v12,.map (some mb),.pointer (some ⟨b14,0,none⟩),.int .i64 sh,.pointer (some ⟨b16,0,none⟩),f 17,f 18,f 19,f 20,f 21,f 22,f 23,f 24,f 25,f 26,f 27,f 28,f 29,f 30,f 31,f 32,f 33,f 34,f 35,f 36,v37,v38,f 39,f 40,f 41,f 42,f 43,f 44,f 45,f 46,f 47,f 48,f 49,f 50,f 51,f 52,f 53,f 54,f 55,f 56,f 57,f 58,f 59,f 60,f 61,f 62,f 63,f 64,f 65,f 66,f 67,f 68,f 69,f 70,f 71,f 72,.map (some mb),.int .i64 i,.pointer (some ⟨b16,0,none⟩),.pointer (some ⟨b16,i,none⟩),.int .u64 (x.aK i:Nat),.bool false,.bool false,.pointer (some ⟨p,0,none⟩),.agg (dJ x).toArray,.bool true,.bool false,.bool false,.map (some mb),.int .i64 i,.pointer (some ⟨b16,0,none⟩),.pointer (some ⟨b16,i,none⟩),.int .u64 (x.aK i:Nat),v12,.pointer (some ⟨p,0,none⟩),.agg (dJ x).toArray,f 93,f 94,f 95,f 96,f 97,f 98,f 99,f 100,f 101,f 102,f 103,f 104,f 105],DS⟩ w2
 exact bG (tgt:=Ep [3,4,5,6]) ⟨⟨qO rfl,rfl,rfl,rfl⟩,hm2,hkb⟩
theorem Ul {o:Oper} {ρ:Operand→Value} {x y:Operand} {ats:Array TypeId} {a b:Int} (ho:o.op=.call { callee:=.builtin .max,args:=#[x,y],argTypes:=ats }) (hx:ρ x=.int .i64 a) (hy:ρ y=.int .i64 b) (w:World) :
  (execOp ρ o).run Tryd.prog w=.ok (.value (.int .i64 (max a b))) w:=by
 have e:(if b > a then b else a)=max a b:=by
  split <;> omega
 unfold execOp
 simp [ho,resolve,invoke,builtin,hx,hy,go_sem,e]
set_option maxRecDepth 20000 in
theorem aat (most sh:Int) (hsh0:-9≤sh) (hsh:sh≤49) (v1 v6 v7 v8 v9 v10 v11 v13 v14 v37 v38:Value) (f:Nat→Value) (r:Int × Int) (hr:Pb 100000000000 r) (h93:f 93=aJ r) (h90:f 90=.int .i64 most) (hV:V.In w) :
  fA Tryd.prog iH (fun a w'=>(∃ f,a=⟨kH v1 v6 v7 v8 v9 v10 v11 (.int .i64 (max most (oQ r))) v13 v14 (.int .i64 (sh+1)) v37 v38 f,DS⟩)∧Kp w w')
   (Ep [4,5,6]) ⟨kH v1 v6 v7 v8 v9 v10 v11 (.int .i64 most) v13 v14 (.int .i64 sh) v37 v38 f,DS⟩ w:=by
 have hS:=St.start w V hV
 rw [show kH v1 v6 v7 v8 v9 v10 v11 (.int .i64 most) v13 v14 (.int .i64 sh) v37 v38 f=#[f 0,v1,f 2,f 3,f 4,f 5,v6,v7,v8,v9,v10,v11,.int .i64 most,v13,v14,.int .i64 sh,f 16,f 17,f 18,f 19,f 20,f 21,f 22,f 23,f 24,f 25,f 26,f 27,f 28,f 29,f 30,f 31,f 32,f 33,f 34,f 35,f 36,v37,v38,f 39,f 40,f 41,f 42,f 43,f 44,f 45,f 46,f 47,f 48,f 49,f 50,f 51,f 52,f 53,f 54,f 55,f 56,f 57,f 58,f 59,f 60,f 61,f 62,f 63,f 64,f 65,f 66,f 67,f 68,f 69,f 70,f 71,f 72,f 73,f 74,f 75,f 76,f 77,f 78,f 79,f 80,f 81,f 82,f 83,f 84,f 85,f 86,f 87,f 88,f 89,.int .i64 most,f 91,f 92,aJ r,f 94,f 95,f 96,f 97,f 98,f 99,f 100,f 101,f 102,f 103,f 104,f 105] from by unfold kH;rw [h93,h90]]
 refine rZ (i:=4) rfl rfl (run_call_body rfl Tryd.func98 (by kernel_rfl) rfl) ?_
 simp only [List.map_toArray,List.map_cons,List.map_nil]
 show Calls Tryd.prog 98 #[aJ r] w _
 refine (Nl r hr w).mono ?_
 rintro e w2 ⟨rfl,hkp⟩
 refine ⟨_,rfl,?_⟩
 replace hS:=hS.kp hkp
 generalize oQ r=sz
 generalize aJ r=sv
 clear hkp
 refine cO (i:=5) (v:=.int .i64 (max most sz)) (w':=w2) rfl rfl (Ul rfl rfl rfl w2) ?_
 refine cO (i:=6) (v:=.int .i64 (max most sz)) (w':=w2) rfl rfl rfl ?_
 refine dH (jE ?_)
 show fA Tryd.prog iH _ _ ⟨#[f 0,v1,f 2,f 3,f 4,f 5,v6,v7,v8,v9,v10,v11,.int .i64 (max most sz),v13,v14,.int .i64 sh,f 16,f 17,f 18,f 19,f 20,f 21,f 22,f 23,f 24,f 25,f 26,f 27,f 28,f 29,f 30,f 31,f 32,f 33,f 34,f 35,f 36,v37,v38,f 39,f 40,f 41,f 42,f 43,f 44,f 45,f 46,f 47,f 48,f 49,f 50,f 51,f 52,f 53,f 54,f 55,f 56,f 57,f 58,f 59,f 60,f 61,f 62,f 63,f 64,f 65,f 66,f 67,f 68,f 69,f 70,f 71,f 72,f 73,f 74,f 75,f 76,f 77,f 78,f 79,f 80,f 81,f 82,f 83,f 84,f 85,f 86,f 87,f 88,f 89,.int .i64 most,f 91,f 92,sv,.int .i64 sz,.int .i64 (max most sz),f 96,f 97,f 98,f 99,f 100,f 101,f 102,f 103,f 104,f 105],DS⟩ w2
 generalize max most sz=mx
 refine aA ?_
 conv=>enter [2];whnf
 go_wp2_with (fail)
 refine jr ?_
 exact bG (tgt:=iH) ⟨qO rfl,hS.bM⟩
noncomputable def N28:Code:=match NK with | .seq _ r=>r | _=>.skip
set_option maxRecDepth 20000 in
theorem YP (err best least most sh:Int) (i n b14:Nat) (r:Int × Int) (hr:V.Range b14 0 [.int .i64 r.1,.int .i64 r.2]) (hr0:0≤r.2) (hr4:r.2≤40) (he0:0≤err) (he9:err≤9) (hsh:r.2+err < sh) (hi:i < n) (hn:n≤6) (hlt:most < least)
  (v6 v7 v8 v13:Value) (f:Nat→Value) (hV:V.In w) :
  fA Tryd.prog jO (fun a w'=>(∃ f,a=⟨kH (.int .i64 err) v6 v7 v8 (.int .i64 i) (.int .i64 most) (.int .i64 i) (.int .i64 most) v13 (ptr b14) (.int .i64 sh) (.int .i64 n) (.int .i64 ((i:Int)+1)) f,DS⟩)∧Kp w w')
   iH ⟨kH (.int .i64 err) v6 v7 v8 (.int .i64 best) (.int .i64 least) (.int .i64 i) (.int .i64 most) v13 (ptr b14) (.int .i64 sh) (.int .i64 n) (.int .i64 i) f,DS⟩ w:=by
 have h0:(0:Int)≤i:=by omega
 have hsh':¬ sh≤r.2+err:=by omega
 have hd:decide (sh≤r.2+err)=false:=decide_eq_false hsh'
 have hc14:V.Cell b14 1 (.int .i64 r.2):=hr 1 _ rfl
 have hS:=St.start w V hV
 rw [show kH (.int .i64 err) v6 v7 v8 (.int .i64 best) (.int .i64 least) (.int .i64 i) (.int .i64 most) v13 (ptr b14) (.int .i64 sh) (.int .i64 n) (.int .i64 i) f=#[f 0,.int .i64 err,f 2,f 3,f 4,f 5,v6,v7,v8,.int .i64 best,.int .i64 least,.int .i64 i,.int .i64 most,v13,.pointer (some ⟨b14,0,none⟩),.int .i64 sh,f 16,f 17,f 18,f 19,f 20,f 21,f 22,f 23,f 24,f 25,f 26,f 27,f 28,f 29,f 30,f 31,f 32,f 33,f 34,f 35,f 36,.int .i64 n,.int .i64 i,f 39,f 40,f 41,f 42,f 43,f 44,f 45,f 46,f 47,f 48,f 49,f 50,f 51,f 52,f 53,f 54,f 55,f 56,f 57,f 58,f 59,f 60,f 61,f 62,f 63,f 64,f 65,f 66,f 67,f 68,f 69,f 70,f 71,f 72,f 73,f 74,f 75,f 76,f 77,f 78,f 79,f 80,f 81,f 82,f 83,f 84,f 85,f 86,f 87,f 88,f 89,f 90,f 91,f 92,f 93,f 94,f 95,f 96,f 97,f 98,f 99,f 100,f 101,f 102,f 103,f 104,f 105] from by unfold kH ptr;rfl]
 refine au (au (aA ?_))
 go_wp2_with (((with_reducible refine gL ?_);refine nC hS rfl rfl rfl ?_);refine ⟨_,zd,?_⟩;clear hS;(try clear w');intro a' hp;(try simp only [fr] at hp);subst hp;intro w' hS;(try simp only [sE] at hS))
 refine dZ (t:=false) rfl (lG rfl ?_)
 refine aA ?_
 conv=>enter [2];whnf
 go_wp2_with (fail)
 refine jE (aA ?_)
 conv=>enter [2];whnf
 go_wp2_with (fail)
 refine jr ?_
 exact bG (tgt:=jO) ⟨qO rfl,hS.bM⟩
set_option maxRecDepth 20000 in
theorem ZK (err best least most sh:Int) (i n b14:Nat) (r:Int × Int) (hr:V.Range b14 0 [.int .i64 r.1,.int .i64 r.2]) (hr0:0≤r.2) (hr4:r.2≤40) (he0:0≤err) (he9:err≤9) (hsh:r.2+err < sh) (hi:i < n) (hn:n≤6) (hlt:¬ most < least)
  (v6 v7 v8 v13:Value) (f:Nat→Value) (hV:V.In w) :
  fA Tryd.prog jO (fun a w'=>(∃ f,a=⟨kH (.int .i64 err) v6 v7 v8 (.int .i64 best) (.int .i64 least) (.int .i64 i) (.int .i64 most) v13 (ptr b14) (.int .i64 sh) (.int .i64 n) (.int .i64 ((i:Int)+1)) f,DS⟩)∧Kp w w')
   iH ⟨kH (.int .i64 err) v6 v7 v8 (.int .i64 best) (.int .i64 least) (.int .i64 i) (.int .i64 most) v13 (ptr b14) (.int .i64 sh) (.int .i64 n) (.int .i64 i) f,DS⟩ w:=by
 have h0:(0:Int)≤i:=by omega
 have hsh':¬ sh≤r.2+err:=by omega
 have hd:decide (sh≤r.2+err)=false:=decide_eq_false hsh'
 have hc14:V.Cell b14 1 (.int .i64 r.2):=hr 1 _ rfl
 have hS:=St.start w V hV
 rw [show kH (.int .i64 err) v6 v7 v8 (.int .i64 best) (.int .i64 least) (.int .i64 i) (.int .i64 most) v13 (ptr b14) (.int .i64 sh) (.int .i64 n) (.int .i64 i) f=#[f 0,.int .i64 err,f 2,f 3,f 4,f 5,v6,v7,v8,.int .i64 best,.int .i64 least,.int .i64 i,.int .i64 most,v13,.pointer (some ⟨b14,0,none⟩),.int .i64 sh,f 16,f 17,f 18,f 19,f 20,f 21,f 22,f 23,f 24,f 25,f 26,f 27,f 28,f 29,f 30,f 31,f 32,f 33,f 34,f 35,f 36,.int .i64 n,.int .i64 i,f 39,f 40,f 41,f 42,f 43,f 44,f 45,f 46,f 47,f 48,f 49,f 50,f 51,f 52,f 53,f 54,f 55,f 56,f 57,f 58,f 59,f 60,f 61,f 62,f 63,f 64,f 65,f 66,f 67,f 68,f 69,f 70,f 71,f 72,f 73,f 74,f 75,f 76,f 77,f 78,f 79,f 80,f 81,f 82,f 83,f 84,f 85,f 86,f 87,f 88,f 89,f 90,f 91,f 92,f 93,f 94,f 95,f 96,f 97,f 98,f 99,f 100,f 101,f 102,f 103,f 104,f 105] from by unfold kH ptr;rfl]
 refine au (au (aA ?_))
 go_wp2_with (((with_reducible refine gL ?_);refine nC hS rfl rfl rfl ?_);refine ⟨_,zd,?_⟩;clear hS;(try clear w');intro a' hp;(try simp only [fr] at hp);subst hp;intro w' hS;(try simp only [sE] at hS))
 refine dZ (t:=false) rfl (lG rfl ?_)
 refine aA ?_
 conv=>enter [2];whnf
 go_wp2_with (fail)
 refine jE (aA ?_)
 conv=>enter [2];whnf
 go_wp2_with (fail)
 refine jr ?_
 exact bG (tgt:=jO) ⟨qO rfl,hS.bM⟩
set_option maxRecDepth 20000 in
theorem Zb {w0:World} (best least:Int) (n b6:Nat) (hn:n≤6) (hb:best < 0)
  (v1 v7 v8 v11 v12 v13 v14 v15:Value) (f:Nat→Value) (hS:St w0 [] V [.blk b6 38 [.int .i64 0]] w) :
  fA Tryd.prog [.code .ret,.code N28] (fun a w'=>(a.tmps[4]? = some (.int .i64 0)∧a.tmps[5]? = some (.int .i64 0)∧a.tmps[6]? = some (ptr b6)∧a.defers=DS)∧St w0 [] V [.blk b6 38 [.int .i64 11]] w')
   jO ⟨kH v1 (ptr b6) v7 v8 (.int .i64 best) (.int .i64 least) v11 v12 v13 v14 v15 (.int .i64 n) (.int .i64 n) f,DS⟩ w:=by
 rw [show kH v1 (ptr b6) v7 v8 (.int .i64 best) (.int .i64 least) v11 v12 v13 v14 v15 (.int .i64 n) (.int .i64 n) f=#[f 0,v1,f 2,f 3,f 4,f 5,.pointer (some ⟨b6,0,none⟩),v7,v8,.int .i64 best,.int .i64 least,v11,v12,v13,v14,v15,f 16,f 17,f 18,f 19,f 20,f 21,f 22,f 23,f 24,f 25,f 26,f 27,f 28,f 29,f 30,f 31,f 32,f 33,f 34,f 35,f 36,.int .i64 n,.int .i64 n,f 39,f 40,f 41,f 42,f 43,f 44,f 45,f 46,f 47,f 48,f 49,f 50,f 51,f 52,f 53,f 54,f 55,f 56,f 57,f 58,f 59,f 60,f 61,f 62,f 63,f 64,f 65,f 66,f 67,f 68,f 69,f 70,f 71,f 72,f 73,f 74,f 75,f 76,f 77,f 78,f 79,f 80,f 81,f 82,f 83,f 84,f 85,f 86,f 87,f 88,f 89,f 90,f 91,f 92,f 93,f 94,f 95,f 96,f 97,f 98,f 99,f 100,f 101,f 102,f 103,f 104,f 105] from by unfold kH ptr;rfl]
 refine au (aA ?_)
 go_wp2_with (fail)
 refine au (dZ (t:=false) rfl (lG rfl ?_))
 refine au (au (aA ?_))
 go_wp2_with (fail)
 refine dZ (t:=true) rfl (au (aA ?_))
 go_wp2_with (((with_reducible refine gS ?_);refine pX hS rfl rfl rfl ?_);refine ⟨_,zd,?_⟩;clear hS;(try clear w');intro a' hp;(try simp only [fr] at hp);subst hp;intro w' hS;(try simp only [sE] at hS))
 exact bG (tgt:=[.code .ret,.code N28]) ⟨⟨rfl,rfl,rfl,rfl⟩,hS⟩
set_option maxRecDepth 20000 in
theorem YQ {w0:World} (best least:Int) (n b6:Nat) (hn:n≤6) (hb:¬ best < 0)
  (v1 v7 v8 v11 v12 v13 v14 v15:Value) (f:Nat→Value) (hS:St w0 [] V [.blk b6 38 [.int .i64 0]] w) :
  fA Tryd.prog [.code .ret] (fun a w'=>(a.tmps[4]? = some (.int .i64 best)∧a.tmps[5]? = some (.int .i64 least)∧a.tmps[6]? = some (ptr b6)∧a.defers=DS)∧St w0 [] V [.blk b6 38 [.int .i64 0]] w')
   jO ⟨kH v1 (ptr b6) v7 v8 (.int .i64 best) (.int .i64 least) v11 v12 v13 v14 v15 (.int .i64 n) (.int .i64 n) f,DS⟩ w:=by
 rw [show kH v1 (ptr b6) v7 v8 (.int .i64 best) (.int .i64 least) v11 v12 v13 v14 v15 (.int .i64 n) (.int .i64 n) f=#[f 0,v1,f 2,f 3,f 4,f 5,.pointer (some ⟨b6,0,none⟩),v7,v8,.int .i64 best,.int .i64 least,v11,v12,v13,v14,v15,f 16,f 17,f 18,f 19,f 20,f 21,f 22,f 23,f 24,f 25,f 26,f 27,f 28,f 29,f 30,f 31,f 32,f 33,f 34,f 35,f 36,.int .i64 n,.int .i64 n,f 39,f 40,f 41,f 42,f 43,f 44,f 45,f 46,f 47,f 48,f 49,f 50,f 51,f 52,f 53,f 54,f 55,f 56,f 57,f 58,f 59,f 60,f 61,f 62,f 63,f 64,f 65,f 66,f 67,f 68,f 69,f 70,f 71,f 72,f 73,f 74,f 75,f 76,f 77,f 78,f 79,f 80,f 81,f 82,f 83,f 84,f 85,f 86,f 87,f 88,f 89,f 90,f 91,f 92,f 93,f 94,f 95,f 96,f 97,f 98,f 99,f 100,f 101,f 102,f 103,f 104,f 105] from by unfold kH ptr;rfl]
 have hd:decide (best < 0)=false:=decide_eq_false hb
 refine au (aA ?_)
 go_wp2_with (fail)
 refine au (dZ (t:=false) rfl (lG rfl ?_))
 refine au (au (aA ?_))
 go_wp2_with (fail)
 refine dZ (t:=false) rfl (lu (au (aA ?_)))
 go_wp2_with (((with_reducible refine gS ?_);refine pX hS rfl rfl rfl ?_);refine ⟨_,zd,?_⟩;clear hS;(try clear w');intro a' hp;(try simp only [fr] at hp);subst hp;intro w' hS;(try simp only [sE] at hS))
 exact bG (tgt:=[.code .ret]) ⟨⟨rfl,rfl,rfl,rfl⟩,hS⟩
theorem uq {w w':World} {τ:Nat→Question→Nat} {d:Nat} (h:Kp (w.re τ d) w'):Kp w w':=⟨h.os,h.output,h.size,h.old⟩
theorem aaw {w w':World} (h:Kp w w') (τ:Nat→Question→Nat) (d:Nat):Kp w (w'.re τ d):=⟨h.os,h.output,h.size,h.old⟩
noncomputable def qy (x:Item):Bool :=
 match x with
 | .code c | .inLoop c=>bY true c
 | .inRegion ops _=>ops.all fun o=>qj true o.op
 | .inBlock _=>true
 | _=>false
theorem Gz {todo:List Item} (h:todo.all qy=true):∀ x∈todo,iC true x:=fun x hx=>by
 have:=List.all_eq_true.1 h x hx
 match x,this with
 | .code c,h=>exact h
 | .inLoop c,h=>exact h
 | .inRegion ops l,h=>exact h
 | .inBlock id,h=>trivial
section
variable {V:View} {w0 w:World} {p:Nat} {k:Wk} {D:List Nat} {b6 b8:Nat} {s:SS} {b:Frame} {cs:List Frame} {Q:Goroutine→World→Prop}
theorem CB (b6:Nat) {a:Act} (h:a.defers=[dC b6]):∀ d∈a.defers,iZ d:=fun d hd=>by
 rw [h] at hd
 simp only [List.mem_singleton] at hd
 subst hd
 simp [iZ,dC]
theorem vI {f0:FuncId} {a:Act} {todo tgt:List Item} (hbf:b.fn=f0) (hbk:b.kind=.normal) (hit:todo.all qy=true) (hd:∀ d∈a.defers,iZ d) (hh:ay OC w)
  {S:Act→World→Prop} (hre:∀ a w τ d,S a w→S a (w.re τ d)) (hrun:∀ τ d,fA Tryd.prog tgt S todo a (w.re τ d)) (hk:∀ a' w',S a' w'→ay OC w'→kU Tryd.prog (G (b.at a' tgt) cs) w' Q):kU Tryd.prog (G (b.at a todo) cs) w Q :=
 yE lT (f0:=f0) ⟨⟨Gz hit,hd,.inl hbk⟩,rfl,hbk,hbf⟩ hh hre hrun fun a' w' h1 h2 _=>hk a' w' h1 h2
theorem Qn (hX:NX V p k D b8 s) {x:SS} (hok:k.Ok) (hx:x.WF) (hlo:∀ i,0≤(x.aP i).1) (hhi:∀ i,(x.aP i).2≤1000) (hV:V.In w) (hh:ay OC w) (hbk:b.kind=.normal)
  {ops:Array Oper} {l:List Nat} {k0:List Item} {i d:Nat} {o:Oper} {y z:Operand} {ats:Array TypeId} {a:Act} (ho:ops[i]? = some o) (hop:o.op=.call { callee:=.value (.func 97),args:=#[y,z,.const (.bool false)],argTypes:=ats }) (hdst:o.dst=some d)
  (hw:Region.wanted o (yielded ops a.tmps)=true) (hok':qj true o.op=true) (hy:a.eval y=ptr p) (hz:a.eval z=.agg (dJ x).toArray)
  (hk:∀ w',Kp w w'→ay OC w'→kU Tryd.prog (G (b.at (a.put (some d) (aJ (dW k x false))) (.inRegion ops l :: k0)) cs) w' Q):kU Tryd.prog (G (b.at a (.inRegion ops (i :: l) :: k0)) cs) w Q:=by
 obtain ⟨ts,vv,rv,hC⟩:=hX.cel
 have htot:=QA hC hok x hx hlo hhi false hX.cl hX.pD hV hh
 refine Ou lT ho hw (by rw [hbk];decide) hok' hh (fun _ _ _=>trivial) fun d=>?_
 rw [run_call_body hop Tryd.func97 (by kernel_rfl) rfl]
 intro hhd
 have e:Array.map a.eval #[y,z,.const (.bool false)]=#[ptr p,.agg (dJ x).toArray,.bool false]:=by
  simp only [List.map_toArray,List.map_cons,List.map_nil,hy,hz]
  rfl
 rw [e]
 have hat:∀ {Q:Goroutine→World→Prop} {g:Goroutine},kU Tryd.prog g w Q→kU Tryd.prog g (w.at d) Q:=fun h=>h.at
 refine hat (xI ho htot (fun v w1 ⟨hv,hk1⟩ hh1=>?_) fun ch w1 ⟨hv,_⟩ _=>nomatch hv)
 cases hv
 rw [hdst]
 exact hk w1 hk1 hh1
structure N1 (w0:World) (V:View) (b6:Nat) (w:World):Prop where
 kp:Kp w0 w
 vin:V.In w
 e6:w.heap[b6]? = some (.cells #[.int .i64 0] 38 (0,0))
 n6:w0.heap.size≤b6
 off:V b6=none
theorem N1.st (h:N1 w0 V b6 w):St w0 [] V [.blk b6 38 [.int .i64 0]] w :=
 ⟨h.kp.os,h.kp.output,h.kp.size,fun i hi _=>h.kp.old i hi,h.vin,fun e he=>by
  simp only [List.mem_singleton] at he
  subst he
  exact h.e6,fun e he b hb=>by
  simp only [List.mem_singleton] at he
  subst he
  cases hb
  exact .inl h.n6,fun e he b hb=>by
  simp only [List.mem_singleton] at he
  subst he
  cases hb
  exact h.off,by simp [dF.foot]⟩
theorem N1.aaO (h:St w0 [] V [.blk b6 38 [.int .i64 0]] w):N1 w0 V b6 w :=
 ⟨h.bM,h.view,h.dR,(h.new (.blk b6 38 [.int .i64 0]) (by simp) b6 rfl).elim id (fun h=>nomatch h),h.off _ (List.mem_cons_self ..) b6 rfl⟩
theorem N1.step {w':World} (h:N1 w0 V b6 w) (hk:Kp w w'):N1 w0 V b6 w':=⟨h.kp.trans hk,h.vin.kp hk,(hk.old b6 (lt_of_heap h.e6)).trans h.e6,h.n6,h.off⟩
theorem N1.but {w':World} {mb:Nat} (h:N1 w0 V b6 w) (hk:ni mb w w') (hm:w0.heap.size≤mb) (hn:mb≠b6) (hV:V mb=none):N1 w0 V b6 w' :=
 ⟨⟨hk.os.trans h.kp.os,hk.output.trans h.kp.output,Nat.le_trans h.kp.size hk.size,fun i hi=>(hk.old i (Nat.lt_of_lt_of_le hi h.kp.size) (by omega)).trans (h.kp.old i hi)⟩,
  fun j o hj=>by
   have:=h.vin j o hj
   rw [hk.old j (lt_of_heap this) (by rintro rfl;rw [hV] at hj;cases hj)]
   exact this,(hk.old b6 (lt_of_heap h.e6) (Ne.symm hn)).trans h.e6,h.n6,h.off⟩
theorem N1.more {b14:Nat} {o:Obj} (h:N1 w0 V b6 w) (hb:w.heap[b14]? = some o) (hn:b14≠b6) (hV:V b14=none) :
  ∃ V',(∀ j u,V j=some u→V' j=some u)∧V' b14=some o∧(∀ j,j≠b14→V' j=V j)∧N1 w0 V' b6 w:=by
 refine ⟨fun j=>if j=b14 then some o else V j,fun j u hj=>?_,by simp,fun j hj=>by simp [hj],⟨h.kp,fun j u hj=>?_,h.e6,h.n6,by simp [Ne.symm hn,h.off]⟩⟩
 ·have:j≠b14:=by rintro rfl;rw [hV] at hj;cases hj
  simp [this,hj]
 ·split at hj
  ·rename_i e
   subst e
   cases hj
   exact hb
  ·exact h.vin j u hj
theorem NX.mono {V':View} (h:NX V p k D b8 s) (hV:∀ j u,V j=some u→V' j=some u):NX V' p k D b8 s :=
 ⟨by obtain ⟨ts,x,y,hc⟩:=h.cel;exact ⟨ts,x,y,hc.mono hV⟩,h.gv.mono hV,kM h.cl hV,h.pD,h.s8.mono hV⟩
theorem Az:iH.all qy=true:=by kernel_rfl
theorem IK:OM.all qy=true:=by kernel_rfl
theorem U7 (l:List Nat):(Ep l).all qy=true:=(show (Ep []).all qy=true by kernel_rfl)
theorem Ah:jO.all qy=true:=by kernel_rfl
theorem Yl (l:List Nat):(TT l).all qy=true:=(show (TT []).all qy=true by kernel_rfl)
end
theorem yJ {w:World} {b n:Nat} {l:List Nat} (h:jk w b n l) (τ:Nat→Question→Nat) (d:Nat):jk (w.re τ d) b n l:=h.of_heap rfl
theorem Yn {w w':World} {b:Nat} {τ:Nat→Question→Nat} {d:Nat} (h:ni b (w.re τ d) w'):ni b w w':=⟨h.os,h.output,h.size,h.old⟩
theorem Yb {w w':World} {b:Nat} (h:ni b w w') (τ:Nat→Question→Nat) (d:Nat):ni b w (w'.re τ d):=⟨h.os,h.output,h.size,h.old⟩
section
variable {V:View} {w0 w:World} {p:Nat} {k:Wk} {D:List Nat} {b6 b8:Nat} {s:SS} {b:Frame} {cs:List Frame} {Q:Goroutine→World→Prop}
structure N2 (w0:World) (V:View) (b6 b14 mb c:Nat) (r:Int × Int) (l:List Nat) (w:World):Prop where
 n:N1 w0 V b6 w
 r:V.Range b14 0 [.int .i64 r.1,.int .i64 r.2]
 m:∃ cnt,cnt≤c∧jk w mb cnt l
 lm:w0.heap.size≤mb
 vm:V mb=none
 m6:mb≠b6
theorem inner (hX:NX V p k D b8 s) (hok:k.Ok) (hs:s.WF) (hlo:∀ i,0≤(s.aP i).1) (hhi:∀ i,(s.aP i).2≤1000) (err:Int) (he0:0≤err) (he9:err≤9) (i:Nat) (hi:i < k.n) (b14 mb:Nat) (hbf:b.fn=43) (hbk:b.kind=.normal) (v9 v10:Value)
  (hend:∀ w f sh,N1 w0 V b6 w→V.Range b14 0 [.int .i64 (aO k s i).1,.int .i64 (aO k s i).2]→(aO k s i).2+err < sh→ay OC w →
   kU Tryd.prog (G (b.at ⟨kH (.int .i64 err) (ptr b6) (ptr p) (ptr b8) v9 v10 (.int .i64 i) (.int .i64 (qK k s i err)) (.map (some mb)) (ptr b14) (.int .i64 sh) (.int .i64 k.n) (.int .i64 i) f,[dC b6]⟩ iH) cs) w Q) :
  ∀ (m c:Nat),c+m=Ia (aO k s i) err→∀ w f,N2 w0 V b6 b14 mb c (aO k s i) (Kw k s i err ((aO k s i).1 - err) c).1 w→ay OC w →
   kU Tryd.prog (G (b.at ⟨kH (.int .i64 err) (ptr b6) (ptr p) (ptr b8) v9 v10 (.int .i64 i) (.int .i64 (Kw k s i err ((aO k s i).1 - err) c).2) (.map (some mb)) (ptr b14) (.int .i64 ((aO k s i).1 - err+c)) (.int .i64 k.n) (.int .i64 i) f,[dC b6]⟩ iH) cs) w Q:=by
 have hn6:k.n≤6:=hok.le
 obtain ⟨q1,q2,q3,q4⟩:=qE k s i 41 (Nat.le_refl _)
 rw [show bZ k s i 41=aO k s i from rfl] at q1 q2 q3 q4
 have hM:qK k s i err=(Kw k s i err ((aO k s i).1 - err) (Ia (aO k s i) err)).2:=rfl
 have hNx:∀ c:Nat,Kw k s i err ((aO k s i).1 - err) (c+1)=PL k s i err (Kw k s i err ((aO k s i).1 - err) c) ((aO k s i).1 - err+c):=fun c=>rfl
 rw [hM] at hend
 clear hM
 have hCnt:Ia (aO k s i) err=((aO k s i).2+err - ((aO k s i).1 - err)+1).toNat:=rfl
 generalize aO k s i=r at *
 intro m
 induction m with
 | zero =>
  intro c hc w f hN hh
  obtain rfl:c=Ia r err:=by omega
  refine hend w f _ hN.n hN.r ?_ hh
  rw [hCnt]
  omega
 | succ m ih =>
  intro c hc w f hN hh
  have hsh0:-9≤r.1 - err+(c:Int):=by omega
  have hsh:r.1 - err+(c:Int)≤r.2+err:=by omega
  have hnx:=hNx c
  obtain ⟨st,hst⟩:∃ st,Kw k s i err (r.1 - err) c=st:=⟨_,rfl⟩
  rw [hst] at hN hnx ⊢
  generalize he1:r.1 - err+(c:Int)=sh at *
  have he2:r.1 - err+((c+1:Nat):Int)=sh+1:=by omega
  have hx:(s.cu i (jA s i err sh)).WF:=hs.cu (Nat.lt_of_le_of_lt Nat.and_le_right (rG _ _))
  have hxl:(s.cu i (jA s i err sh)).aK i=jA s i err sh:=by
   unfold SS.cu SS.aK
   have:i < s.lim.length:=by rw [hs.lim];omega
   simp [List.getD_eq_getElem?_getD,this]
  refine vI (tgt:=OM) hbf hbk Az (CB b6 rfl) hh (S:=fun a w'=>∃ b16,((∃ f,a=⟨kH (.int .i64 err) (ptr b6) (ptr p) (ptr b8) v9 v10 (.int .i64 i) (.int .i64 st.2) (.map (some mb)) (ptr b14) (.int .i64 sh) (.int .i64 k.n) (.int .i64 i) f,[dC b6]⟩)∧a.tmps[16]? = some (ptr b16))∧St w [] V [.blk b16 100 (dJ (s.cu i (jA s i err sh)))] w')
   (fun a w' τ d ⟨b16,h1,h2⟩=>⟨b16,h1,h2.re1 τ d⟩) (fun τ d=>?_) ?_
  ·refine (Z5 (w:=w.re τ d) hX hs err he0 he9 i hi mb b14 r hN.r q3 q4 sh hsh0 hsh (ptr b6) v9 v10 (.int .i64 st.2) (.int .i64 k.n) (.int .i64 i) f hN.n.vin).mono ?_
   rintro a w' ⟨b16,h1,h2⟩
   exact ⟨b16,h1,h2.re0⟩
  ·rintro a w1 ⟨b16,⟨⟨f1,rfl⟩,h16⟩,hS1⟩ hh1
   have hf16:f1 16=ptr b16:=Option.some.inj h16
   have hkp1:=hS1.bM
   have hN1:=hN.n.step hkp1
   have hb16:=hS1.dR (b:=b16)
   have hl16:w.heap.size≤b16:=(hS1.new (.blk b16 100 (dJ (s.cu i (jA s i err sh)))) (by simp) b16 rfl).elim id (fun h=>nomatch h)
   have h16b6:b16≠b6:=by
    have:=lt_of_heap hN.n.e6
    omega
   obtain ⟨cnt,hcnt,hmap⟩:=hN.m
   have hmap1:jk w1 mb cnt st.1:=hmap.of_heap (hkp1.old mb hmap.lt)
   have h16m:b16≠mb:=by
    have:=hmap.lt
    omega
   obtain ⟨V',hVV,hV16,hVo,hN2⟩:=hN1.more hb16 h16b6 (hS1.off _ (List.mem_cons_self ..) b16 rfl)
   have hX':=hX.mono hVV
   have hr16:V'.Range b16 0 (dJ (s.cu i (jA s i err sh))):=fun j v hj=>⟨_,_,_,hV16,by rw [Nat.zero_add];simpa using hj⟩
   have hV'm:V' mb=none:=(hVo mb (Ne.symm h16m)).trans hN.vm
   have back:∀ {w2:World} {l2:List Nat} {n2:Nat},n2≤c+1→jk w2 mb n2 l2→N1 w0 V' b6 w2→N2 w0 V b6 b14 mb (c+1) r l2 w2:=fun h1 h2 h3 =>
    ⟨⟨h3.kp,fun j u hj=>h3.vin j u (hVV j u hj),h3.e6,h3.n6,hN.n.off⟩,hN.r,⟨_,h1,h2⟩,hN.lm,hN.vm,hN.m6⟩
   have ihc:=ih (c+1) (by omega)
   rw [hnx,he2] at ihc
   have hcase:PL k s i err st sh=if st.1.contains (jA s i err sh) || !can k (s.cu i (jA s i err sh)) then st else (jA s i err sh :: st.1,max st.2 (oQ (dW k (s.cu i (jA s i err sh)) false))):=rfl
   cases hmet:st.1.contains (jA s i err sh) with
   | true =>
    rw [hmet] at hcase
    simp only [Bool.true_or,if_true] at hcase
    rw [hcase] at ihc
    refine vI (tgt:=iH) hbf hbk IK (CB b6 rfl) hh1 (S:=fun a w'=>(∃ f,a=⟨kH (.int .i64 err) (ptr b6) (ptr p) (ptr b8) v9 v10 (.int .i64 i) (.int .i64 st.2) (.map (some mb)) (ptr b14) (.int .i64 (sh+1)) (.int .i64 k.n) (.int .i64 i) f,[dC b6]⟩)∧Kp w1 w')
     (fun a w' τ d h=>⟨h.1,aaw h.2 τ d⟩) (fun τ d=>?_) ?_
    ·refine (UD (w:=w1.re τ d) hX' hx err i hi mb b14 b16 cnt st.1 (yJ hmap1 τ d) hr16 sh hsh0 (by omega) _ _ _ _ _ _ f1 hf16 hN2.vin (by rw [hxl];exact hmet)).mono ?_
     rintro a w' ⟨h1,h2⟩
     exact ⟨h1,uq h2⟩
    ·rintro a w2 ⟨⟨f2,rfl⟩,hk2⟩ hh2
     exact ihc w2 f2 (back (by omega) (hmap1.of_heap (hk2.old mb hmap1.lt)) (hN2.step hk2)) hh2
   | false =>
    cases hcan:can k (s.cu i (jA s i err sh)) with
    | false =>
     rw [hmet,hcan] at hcase
     simp only [Bool.false_or,Bool.not_false,if_true] at hcase
     rw [hcase] at ihc
     refine vI (tgt:=iH) hbf hbk IK (CB b6 rfl) hh1 (S:=fun a w'=>(∃ f,a=⟨kH (.int .i64 err) (ptr b6) (ptr p) (ptr b8) v9 v10 (.int .i64 i) (.int .i64 st.2) (.map (some mb)) (ptr b14) (.int .i64 (sh+1)) (.int .i64 k.n) (.int .i64 i) f,[dC b6]⟩)∧Kp w1 w')
      (fun a w' τ d h=>⟨h.1,aaw h.2 τ d⟩) (fun τ d=>?_) ?_
     ·refine (XY (w:=w1.re τ d) hX' hx err i hi mb b14 b16 cnt st.1 (yJ hmap1 τ d) hr16 sh hsh0 (by omega) _ _ _ _ _ _ f1 hf16 hN2.vin (by rw [hxl];exact hmet) hcan).mono ?_
      rintro a w' ⟨h1,h2⟩
      exact ⟨h1,uq h2⟩
     ·rintro a w2 ⟨⟨f2,rfl⟩,hk2⟩ hh2
      exact ihc w2 f2 (back (by omega) (hmap1.of_heap (hk2.old mb hmap1.lt)) (hN2.step hk2)) hh2
    | true =>
     rw [hmet,hcan] at hcase
     simp only [Bool.false_or,Bool.not_true,Bool.false_eq_true,if_false] at hcase
     rw [hcase] at ihc
     simp only at ihc
     have hcb:cnt < 1000000:=by omega
     refine vI (tgt:=Ep [3,4,5,6]) hbf hbk IK (CB b6 rfl) hh1 (S:=fun a w'=>((∃ f,a=⟨kH (.int .i64 err) (ptr b6) (ptr p) (ptr b8) v9 v10 (.int .i64 i) (.int .i64 st.2) (.map (some mb)) (ptr b14) (.int .i64 sh) (.int .i64 k.n) (.int .i64 i) f,[dC b6]⟩) ∧
       a.tmps[90]? = some (.int .i64 st.2)∧a.tmps[91]? = some (ptr p)∧a.tmps[92]? = some (.agg (dJ (s.cu i (jA s i err sh))).toArray))∧jk w' mb (cnt+1) ((s.cu i (jA s i err sh)).aK i :: st.1)∧ni mb w1 w')
      (fun a w' τ d h=>⟨h.1,yJ h.2.1 τ d,Yb h.2.2 τ d⟩) (fun τ d=>?_) ?_
     ·refine (U8 (w:=w1.re τ d) hX' hx err i hi mb b14 b16 cnt st.1 (yJ hmap1 τ d) hr16 sh hsh0 (by omega) _ _ _ _ _ _ f1 hf16 hN2.vin (by rw [hxl];exact hmet) hcan hcb hV'm).mono ?_
      rintro a w' ⟨h1,h2,h3⟩
      exact ⟨h1,h2,Yn h3⟩
     ·rintro a w2 ⟨⟨⟨f2,rfl⟩,h90,h91,h92⟩,hm2,hk2⟩ hh2
      rw [hxl] at hm2
      have hN3:=hN2.but hk2 hN.lm hN.m6 hV'm
      have e91:f2 91=ptr p:=Option.some.inj h91
      have e92:f2 92=.agg (dJ (s.cu i (jA s i err sh))).toArray:=Option.some.inj h92
      have e90:f2 90=.int .i64 st.2:=Option.some.inj h90
      refine Qn hX' hok hx hlo hhi hN3.vin hh2 hbk (o:=YE[3]!) (y:=.tmp 91) (z:=.tmp 92) (d:=93) rfl rfl rfl rfl rfl e91 e92 fun w3 hk3 hh3=>?_
      have hN4:=hN3.step hk3
      have hb:=GH k hn6 (s.cu i (jA s i err sh)) false hlo
      obtain ⟨tt,htt⟩:∃ tt,dW k (s.cu i (jA s i err sh)) false=tt:=⟨_,rfl⟩
      rw [htt] at hb ihc ⊢
      have eA:(Act.put ⟨kH (.int .i64 err) (ptr b6) (ptr p) (ptr b8) v9 v10 (.int .i64 i) (.int .i64 st.2) (.map (some mb)) (ptr b14) (.int .i64 sh) (.int .i64 k.n) (.int .i64 i) f2,[dC b6]⟩ (some 93) (aJ tt)) =
        ⟨kH (.int .i64 err) (ptr b6) (ptr p) (ptr b8) v9 v10 (.int .i64 i) (.int .i64 st.2) (.map (some mb)) (ptr b14) (.int .i64 sh) (.int .i64 k.n) (.int .i64 i) (fun j=>if j=93 then aJ tt else f2 j),[dC b6]⟩:=rfl
      rw [eA]
      refine vI (tgt:=iH) hbf hbk (U7 [4,5,6]) (CB b6 rfl) hh3 (S:=fun a w'=>(∃ f,a=⟨kH (.int .i64 err) (ptr b6) (ptr p) (ptr b8) v9 v10 (.int .i64 i) (.int .i64 (max st.2 (oQ tt))) (.map (some mb)) (ptr b14) (.int .i64 (sh+1)) (.int .i64 k.n) (.int .i64 i) f,[dC b6]⟩)∧Kp w3 w')
       (fun a w' τ d h=>⟨h.1,aaw h.2 τ d⟩) (fun τ d=>?_) ?_
      ·refine (aat (w:=w3.re τ d) st.2 sh hsh0 (by omega) _ _ _ _ _ _ _ _ _ _ _ (fun j=>if j=93 then aJ tt else f2 j) tt (hb.mono (by omega)) (by simp) (by simp [e90]) hN4.vin).mono ?_
       rintro a w' ⟨h1,h2⟩
       exact ⟨h1,uq h2⟩
      ·rintro a w4 ⟨⟨f4,rfl⟩,hk4⟩ hh4
       have hm3:=hm2.of_heap (hk3.old mb hm2.lt)
       exact ihc w4 f4 (back (by omega) (hm3.of_heap (hk4.old mb hm3.lt)) (hN4.step hk4)) hh4
end
section
variable {V:View} {w0 w:World} {p:Nat} {k:Wk} {D:List Nat} {b6 b8:Nat} {s:SS} {b:Frame} {cs:List Frame} {Q:Goroutine→World→Prop}
theorem outer (hX:NX V p k D b8 s) (hok:k.Ok) (hs:s.WF) (hlo:∀ i,0≤(s.aP i).1) (hhi:∀ i,(s.aP i).2≤1000) (err:Int) (he0:0≤err) (he9:err≤9) (hbf:b.fn=43) (hbk:b.kind=.normal)
  (hend:∀ w f v11 v12 v13 v14 v15,N1 w0 V b6 w→ay OC w→kU Tryd.prog (G (b.at ⟨kH (.int .i64 err) (ptr b6) (ptr p) (ptr b8) (.int .i64 (fM k s err k.n).1) (.int .i64 (fM k s err k.n).2) v11 v12 v13 v14 v15 (.int .i64 k.n) (.int .i64 k.n) f,[dC b6]⟩ jO) cs) w Q) :
  ∀ (m i:Nat),i+m=k.n→∀ w f v11 v12 v13 v14 v15,N1 w0 V b6 w→ay OC w →
   kU Tryd.prog (G (b.at ⟨kH (.int .i64 err) (ptr b6) (ptr p) (ptr b8) (.int .i64 (fM k s err i).1) (.int .i64 (fM k s err i).2) v11 v12 v13 v14 v15 (.int .i64 k.n) (.int .i64 i) f,[dC b6]⟩ jO) cs) w Q:=by
 have hn6:k.n≤6:=hok.le
 intro m
 induction m with
 | zero =>
  intro i hi w f v11 v12 v13 v14 v15 hN hh
  obtain rfl:i=k.n:=by omega
  exact hend w f v11 v12 v13 v14 v15 hN hh
 | succ m ih =>
  intro i hi w f v11 v12 v13 v14 v15 hN hh
  have hlt:i < k.n:=by omega
  have hwb:=qE k s i 41 (Nat.le_refl _)
  rw [show bZ k s i 41=aO k s i from rfl] at hwb
  have ihc:=ih (i+1) (by omega)
  have hB:fM k s err (i+1)=if qK k s i err < (fM k s err i).2 then ((i:Int),qK k s i err) else fM k s err i:=rfl
  refine vI (tgt:=iH) hbf hbk Ah (CB b6 rfl) hh (S:=fun a w'=>∃ mb b14,(∃ f,a=⟨kH (.int .i64 err) (ptr b6) (ptr p) (ptr b8) (.int .i64 (fM k s err i).1) (.int .i64 (fM k s err i).2) (.int .i64 i) (.int .i64 0) (.map (some mb)) (ptr b14) (.int .i64 ((aO k s i).1 - err)) (.int .i64 k.n) (.int .i64 i) f,[dC b6]⟩) ∧
    Kp w w'∧jk w' mb 0 []∧w.heap.size≤mb∧w.heap.size≤b14∧w'.heap[b14]? = some (.cells #[.int .i64 (aO k s i).1,.int .i64 (aO k s i).2] 27 (0,0)))
   (fun a w' τ d ⟨mb,b14,h1,h2,h3,h4⟩=>⟨mb,b14,h1,aaw h2 τ d,yJ h3 τ d,h4⟩) (fun τ d=>?_) ?_
  ·refine (GK (w:=w.re τ d) hX hs err he0 he9 i hlt (ptr b6) _ _ v11 v12 v13 v14 v15 f hN.vin).mono ?_
   rintro a w' ⟨mb,b14,h1,h2,h3,h4⟩
   exact ⟨mb,b14,h1,uq h2,h3,h4⟩
  ·rintro a w1 ⟨mb,b14,⟨f1,rfl⟩,hk1,hm1,lm,l14,h14⟩ hh1
   have hN1:=hN.step hk1
   have h6lt:=lt_of_heap hN.e6
   have hVn:∀ {j:Nat},w.heap.size≤j→V j=none:=fun {j} hj=>by
    cases hv:V j with
    | none=>rfl
    | some o =>
     have:=lt_of_heap (hN.vin j o hv)
     omega
   have hne:mb≠b14:=by
    rintro rfl
    obtain ⟨es,cl,ho⟩:=hm1.obj
    rw [h14] at ho
    cases ho
   obtain ⟨V2,hVV,hV14,hVo,hN2⟩:=hN1.more h14 (by omega) (hVn l14)
   have hr14:V2.Range b14 0 [.int .i64 (aO k s i).1,.int .i64 (aO k s i).2]:=fun j v hj=>⟨_,_,_,hV14,by rw [Nat.zero_add];simpa using hj⟩
   have hin:=inner (b:=b) (cs:=cs) (Q:=Q) (w0:=w0) (b6:=b6) (hX.mono hVV) hok hs hlo hhi err he0 he9 i hlt b14 mb hbf hbk (.int .i64 (fM k s err i).1) (.int .i64 (fM k s err i).2) (fun w2 f2 sh hN3 hr3 hsh hh2=>?_) (Ia (aO k s i) err) 0 (by omega) w1 f1
    ⟨hN2,hr14,⟨0,Nat.le_refl _,hm1⟩,Nat.le_trans hN.kp.size lm,(hVo mb hne).trans (hVn lm),by omega⟩ hh1
   ·have e0:(aO k s i).1 - err+((0:Nat):Int)=(aO k s i).1 - err:=by omega
    rw [e0] at hin
    exact hin
   ·have hback:N1 w0 V b6 w2→N1 w0 V b6 w2:=id
    have hN4:N1 w0 V b6 w2:=⟨hN3.kp,fun j u hj=>hN3.vin j u (hVV j u hj),hN3.e6,hN3.n6,hN.off⟩
    by_cases hlt':qK k s i err < (fM k s err i).2
    ·rw [if_pos hlt'] at hB
     rw [hB] at ihc
     refine vI (tgt:=jO) hbf hbk Az (CB b6 rfl) hh2 (S:=fun a w'=>(∃ f,a=⟨kH (.int .i64 err) (ptr b6) (ptr p) (ptr b8) (.int .i64 i) (.int .i64 (qK k s i err)) (.int .i64 i) (.int .i64 (qK k s i err)) (.map (some mb)) (ptr b14) (.int .i64 sh) (.int .i64 k.n) (.int .i64 ((i:Int)+1)) f,[dC b6]⟩)∧Kp w2 w')
      (fun a w' τ d h=>⟨h.1,aaw h.2 τ d⟩) (fun τ d=>?_) ?_
     ·refine (YP (w:=w2.re τ d) err _ _ _ sh i k.n b14 _ hr3 hwb.2.2.1 hwb.2.2.2 he0 he9 hsh hlt hn6 hlt' _ _ _ _ f2 hN3.vin).mono ?_
      rintro a w' ⟨h1,h2⟩
      exact ⟨h1,uq h2⟩
     ·rintro a w3 ⟨⟨f3,rfl⟩,hk3⟩ hh3
      exact ihc w3 f3 _ _ _ _ _ (hN4.step hk3) hh3
    ·rw [if_neg hlt'] at hB
     rw [hB] at ihc
     refine vI (tgt:=jO) hbf hbk Az (CB b6 rfl) hh2 (S:=fun a w'=>(∃ f,a=⟨kH (.int .i64 err) (ptr b6) (ptr p) (ptr b8) (.int .i64 (fM k s err i).1) (.int .i64 (fM k s err i).2) (.int .i64 i) (.int .i64 (qK k s i err)) (.map (some mb)) (ptr b14) (.int .i64 sh) (.int .i64 k.n) (.int .i64 ((i:Int)+1)) f,[dC b6]⟩)∧Kp w2 w')
      (fun a w' τ d h=>⟨h.1,aaw h.2 τ d⟩) (fun τ d=>?_) ?_
     ·refine (ZK (w:=w2.re τ d) err _ _ _ sh i k.n b14 _ hr3 hwb.2.2.1 hwb.2.2.2 he0 he9 hsh hlt hn6 hlt' _ _ _ _ f2 hN3.vin).mono ?_
      rintro a w' ⟨h1,h2⟩
      exact ⟨h1,uq h2⟩
     ·rintro a w3 ⟨⟨f3,rfl⟩,hk3⟩ hh3
      exact ihc w3 f3 _ _ _ _ _ (hN4.step hk3) hh3
theorem KU {a:Act} {x y e:Int} {k0:List Item} (hk0:k0.all qy=true) (hbf:b.fn=43) (hbk:b.kind=.normal) (hh:ay OC w) (h4:a.tmps[4]? = some (.int .i64 x)) (h5:a.tmps[5]? = some (.int .i64 y)) (h6:a.tmps[6]? = some (ptr b6)) (hd:a.defers=[dC b6])
  (hS:St w0 [] V [.blk b6 38 [.int .i64 e]] w) :
  kU Tryd.prog (G (b.at a (.code .ret :: k0)) cs) w (fun a' w'=>∃ e' fr,a'=G fr cs∧(e'=.returned (.tuple #[.int .i64 x,.int .i64 y,.int .i64 e])∧Kp w0 w')∧fr.fn=43∧fr.leaving Tryd.prog w' e'∧e'≠.outgrown∧ay OC w'):=by
 obtain ⟨tm,df⟩:=a
 simp only at h4 h5 h6 hd
 subst hd
 refine CV ?_
 refine Bq (fr:={ b.at ⟨tm,[dC b6]⟩ (.code .ret :: k0) with mode:=.returning }) (R:=fun e' w'=>e'=.returned (.tuple #[.int .i64 x,.int .i64 y,.int .i64 e])∧Kp w0 w') lT xM (fun w h=>nomatch h.1) (fn:=Tryd.f43) ⟨⟨fun z hz=>?_,CB b6 (a:=⟨tm,[dC b6]⟩) rfl,.inl hbk⟩,rfl,hbk,hbf⟩ Tryd.func43 hh rfl (fun τ d=>?_) cs
 ·rcases List.mem_cons.1 (show z∈Item.code .ret :: k0 from hz) with rfl | hz
  ·exact (show bY true .ret=true from rfl)
  ·exact Gz hk0 z hz
 ·have g:∀ {j:Nat} {v:Value},tm[j]? = some v→tm.getD j undef=v:=fun h=>by
   rw [Array.getD_eq_getD_getElem?,h]
   rfl
  exact iF (R:=fun e' w'=>e'=.returned (.tuple #[.int .i64 x,.int .i64 y,.int .i64 e])∧Kp w0 w') (hS.re1 τ d) fun w3 hS3=>⟨_,results3 (r1:=.tmp 4) (r2:=.tmp 5) (r3:=.cell 6 38) (by kernel_rfl) (yS (g h4)) (yS (g h5)) (AO hS3 0 (g h6) rfl (by kernel_rfl) rfl),rfl,hS3.bM⟩
end
end Go.Proofs.YtjjmefieegcddaaDoor
