/- A part of the proof: W59, W60, W61, W66, X1, W71, W72, W73. -/
import Derived.Test.YtjjmefieegcddaaDoorC21
import Derived.Scope
import Derived.Deep.OwnRows
import Derived.Shelf.Abstract
import Derived.Test.YtjjmefieegcddaaDoorC16
import Derived.Test.YtjjmefieegcddaaDoorRows
import Derived.Test.YtjjmefieegcddaaDoorC08
import Derived.Test.YtjjmefieegcddaaDoorC14
import Derived.ChangeSame
import Derived.ChangeVars
import Derived.JoinedOf
import Derived.RowKit
import Derived.RowKitTokens
import Derived.LaidLaws
import Derived.LaidHandle
import Derived.Stop.Joined
import Derived.Conc.LeavingOf
import Derived.Carry
import Derived.SevenTiedAt
set_option linter.unusedVariables false
set_option linter.unusedSimpArgs false
set_option maxHeartbeats 8000000
namespace Go.Proofs.YtjjmefieegcddaaDoor
open Go.RowKit Go.Wg Go.Mm Go.Wk
open Go Go.Sr Go.Ph Go.Tm Go.Conc
variable {w:World} {V:View}
theorem NU {w0:World} {X:List Nat} {L:List dF} (h:St w0 X V L w) (o:Obj):St w0 X (Vw V w.heap.size o) L (w.alloc o):=by
 have hlt:∀ e∈L,∀ b,e.foot=some b→b < w.heap.size:=fun e he b hb=>(h.has e he).lt hb
 have hold:∀ j,j < w.heap.size→(w.alloc o).heap[j]? = w.heap[j]?:=fun j hj=>heap_alloc_old w o hj
 refine ⟨h.os,h.output,?_,fun j hj hx=>?_,fun j u hj=>?_,fun e he=>?_,h.new,fun e he b hb=>?_,h.nd⟩
 ·have:=h.size
  show w0.heap.size≤(w.heap.push o).size
  simp
  omega
 ·rw [hold j (Nat.lt_of_lt_of_le hj h.size)]
  exact h.old j hj hx
 ·by_cases e:j=w.heap.size
  ·subst e
   rw [Vw.same] at hj
   cases hj
   show (w.heap.push o)[w.heap.size]? = _
   simp
  ·rw [Vw.other _ _ e] at hj
   have:=h.view j u hj
   rw [hold j (lt_of_heap this)]
   exact this
 ·exact (h.has e he).of_heap fun g hg=>hold g (hlt e he g hg)
 ·have:=hlt e he b hb
  rw [Vw.other _ _ (by omega)]
  exact h.off e he b hb
theorem IX {w0:World} {X:List Nat} {L:List dF} (h:St w0 X V L w) {j:Nat} (hj:w.heap.size≤j):V j=none:=by
 cases hv:V j with
 | none=>rfl
 | some o =>
  have:=lt_of_heap (h.view j o hv)
  omega
theorem Qq {w0:World} {X:List Nat} {L:List dF} (h:St w0 X V L w) {g:Nat} {o:Obj} (hg:w.heap[g]? = some o) (hn:∀ e∈L,e.foot≠some g):St w0 X (Vw V g o) L w∧∀ j u,V j=some u→Vw V g o j=some u:=by
 refine ⟨⟨h.os,h.output,h.size,h.old,fun j u hj=>?_,h.has,h.new,fun e he b hb=>?_,h.nd⟩,fun j u hj=>?_⟩
 ·by_cases e:j=g
  ·subst e
   rw [Vw.same] at hj
   cases hj
   exact hg
  ·rw [Vw.other _ _ e] at hj
   exact h.view j u hj
 ·rw [Vw.other _ _ (fun e'=>hn e he (by rw [← e'];exact hb))]
  exact h.off e he b hb
 ·by_cases e:j=g
  ·subst e
   rw [Vw.same]
   have:=h.view j u hj
   rw [hg] at this
   exact this
  ·rw [Vw.other _ _ e]
   exact hj
theorem Xi {w0:World} {X:List Nat} {L:List dF} {ds:List Nat} (h:St w0 X V L w) (hd:∀ d∈ds,w0.heap.size≤d∧V d≠none):St w0 X (fun _=>none) L (shutAll ds w):=by
 refine ⟨Dp.1.trans h.os,Dp.2.trans h.output,by rw [Jo];exact h.size,fun j hj hx=>?_,fun j u hj=>(nomatch hj),fun e he=>?_,h.new,fun _ _ _ _=>rfl,h.nd⟩
 ·rw [xk fun hm=>by have:=(hd j hm).1;omega]
  exact h.old j hj hx
 ·exact (h.has e he).of_heap fun g hg=>xk fun hm=>(hd g hm).2 (h.off e he g hg)
theorem Uc {tgt k:List Item} {S:Act→World→Prop} {a:Act} {c:Code} (h:fA Tryd.prog tgt S (.code c :: .inScope c :: k) a w):fA Tryd.prog tgt S (.code (.scope c) :: k) a w:=fun b cs hb=>by
 obtain ⟨a',w',h1,h2⟩:=h b cs hb
 exact ⟨a',w',h1,.head step_scope h2⟩
theorem Lh {tgt k:List Item} {S:Act→World→Prop} {a:Act} {c:Code} (h:fA Tryd.prog tgt S k a w):fA Tryd.prog tgt S (.inScope c :: k) a w:=fun b cs hb=>by
 obtain ⟨a',w',h1,h2⟩:=h b cs hb
 exact ⟨a',w',h1,.head step_inScope h2⟩
theorem Wu {o:Oper} {ρ:Operand→Value} {l c:Operand} (ho:o.op=.makeSlice 82 l c) {n:Nat} (hl:ρ l=.int .i64 (n:Int)) (hc:ρ c=.int .i64 (n:Int)) (hn:n≤1000) (w:World) :
  (execOp ρ o).run Tryd.prog w=.ok (.value (.slice (some ⟨w.heap.size,0,none⟩) n n)) (w.alloc (.cells (List.replicate n (.bool false)).toArray 4)):=by
 have h:=run_make_row' (P:=Tryd.prog) 82 4 (.bool false) 1 Tryd.underlying82 (by kernel_rfl) rfl .i64 .i64 n (by omega) (by omega) w
 have e:madeCells #[.bool false] n=(List.replicate n (.bool false)).toArray:=by
  apply Array.ext'
  rw [toList_madeCells_one]
 rw [e] at h
 unfold execOp
 simp [ho,hl,hc,h,Sem.run_bind,Result.andThen]
theorem aay {w0:World} {X:List Nat} {L:List dF} {ops:Array Oper} {o:Oper} {rest:List Oper} {a:Act} {Q:Exit→Act→World→Prop} (hS:St w0 X V L w) (hgd:Region.wanted o (yielded ops a.tmps)=true) {l c:Operand} (ho:o.op=.makeSlice 82 l c)
  {n:Nat} (hl:a.eval l=.int .i64 (n:Int)) (hc:a.eval c=.int .i64 (n:Int)) (hn:n≤1000)
  (h:∀ b a',a.put o.dst (.slice (some ⟨b,0,none⟩) n n)=a'→∀ w',St w0 X V (.blk b 4 (List.replicate n (.bool false)) :: L) w'→wpList Tryd.prog ops Q rest a' w'):wpList Tryd.prog ops Q (o :: rest) a w :=
 dU hgd (Wu ho hl hc hn w) (h _ _ rfl _ (hS.alloc 4 (List.replicate n (.bool false))))
theorem Pq {tgt k0:List Item} {S:Act→World→Prop} {p i lb b7 kb bt:Nat} {k:Wk} {l ts ds pre:List Nat} {w0:World} {vv rv:Value} {f:Nat→Value} (hC:zO V p k ts vv rv) (hok:k.Ok) (hi:i < k.n) (hl6:l.length=6) (hlb:V.Range lb 0 (mM l)) (hb7:V.Cell b7 0 (.slice (some ⟨kb,0,none⟩) k.n k.n))
  (hf42:f 42=.func (.func 121) #[] #[ptr bt]) (hbt:V.Cell bt 0 (ptr (ts.getD i 0))) (hS:St w0 [] V [.blk kb 4 (Cj k l pre)] w)
  (hk:∀ w',St w0 [] (Vw V w.heap.size (.deferred (some []))) [.blk kb 4 (Cj k l (pre ++ Cb k (k.n - i) i))] w'→fA Tryd.prog tgt S k0 ⟨Ad (ptr lb) (ptr b7) f,marks (w.heap.size :: ds)⟩ w') :
  fA Tryd.prog tgt S (.code (.rangeFunc (.tmp 42) #[43] KA KB) :: k0) ⟨Ad (ptr lb) (ptr b7) f,marks ds⟩ w:=by
 refine FV (gf:=121) (lb:=#[ptr bt]) hf42 (Go.Proofs.enters_of Tryd.func121 (by kernel_rfl) rfl) fun fn=>?_
 have hS1:=NU (NU hS (.deferred (some []))) (.loop (jw fn (Ad (ptr lb) (ptr b7) f) #[43] KA KB w.heap.size .ready none))
 have hD:V w.heap.size=none:=IX hS (Nat.le_refl _)
 have hl:(Vw V w.heap.size (.deferred (some []))) (w.alloc (.deferred (some []))).heap.size=none:=IX (NU hS (.deferred (some []))) (Nat.le_refl _)
 have hsub:∀ j u,V j=some u→Vw (Vw V w.heap.size (.deferred (some []))) (w.alloc (.deferred (some []))).heap.size (.loop (jw fn (Ad (ptr lb) (ptr b7) f) #[43] KA KB w.heap.size .ready none)) j=some u:=fun j u hj=>Vw.sub hl j u (Vw.sub hD j u hj)
 have hsub2:∀ j u,(Vw V w.heap.size (.deferred (some []))) j=some u→Vw (Vw (Vw V w.heap.size (.deferred (some []))) (w.alloc (.deferred (some []))).heap.size (.loop (jw fn (Ad (ptr lb) (ptr b7) f) #[43] KA KB w.heap.size .ready none))) (w.alloc (.deferred (some []))).heap.size (.loop (jw fn (Ad (ptr lb) (ptr b7) f) #[43] KA KB w.heap.size .exhausted none)) j=some u:=fun j u hj=>by
  have hne:j≠(w.alloc (.deferred (some []))).heap.size:=by
   rintro rfl
   rw [hl] at hj
   cases hj
  rw [Vw.other _ _ hne,Vw.other _ _ hne]
  exact hj
 have hsz:(w.alloc (.deferred (some []))).heap.size=w.heap.size+1:=World.size_alloc _ _
 rw [hsz] at hS1 hsub hsub2
 have hlr:w0.heap.size≤w.heap.size+1:=by have:=hS.size;omega
 refine (XZ (hC.mono hsub) hok i hi (hbt.mono hsub) (Vw.same _ _ _) rfl (PZ f (hC.mono hsub) hl6 (hlb.mono hsub) (hb7.mono hsub) hlr (Vw.same _ _ _)) pre hS1).mono ?_
 rintro e w3 ⟨v,rfl,hS3⟩
 refine ⟨v,rfl,hS3.view _ _ (Vw.same _ _ _),?_⟩
 exact hk _ ((Jp hS3 hlr (Vw.same _ _ _) _).weaken hsub2)
structure KH (w0:World) (V V':View) (k:Wk) (l:List Nat) (kb m:Nat) (ds:List Nat) (w:World):Prop where
 sub:∀ j u,V j=some u→V' j=some u
 st:St w0 [] V' [.blk kb 4 (Cj k l (DC k m))] w
 nd:ds.Nodup
 ds:∀ d∈ds,w0.heap.size≤d∧V' d=some (.deferred (some []))
set_option maxRecDepth 20000 in
theorem Rk {S:Act→World→Prop} {p g cap lb b7 kb:Nat} {k:Wk} {l ts:List Nat} {w0:World} {vv rv:Value} (hC:zO V p k ts vv rv) (hok:k.Ok) (hl6:l.length=6) (hlb:V.Range lb 0 (mM l)) (hb7:V.Cell b7 0 (.slice (some ⟨kb,0,none⟩) k.n k.n))
  (hsr:∀ m,m < k.sources.length→V.Cell g m (ptr (ts.getD (k.sources.getD m 0) 0))) (hsl:k.sources.length≤6) (hcap:k.sources.length≤cap)
  (hend:∀ V' ds w (f:Nat→Value),KH w0 V V' k l kb k.sources.length ds w→fA Tryd.prog [.code .ret] S [.code KT] ⟨Ad (.pointer (some ⟨lb,0,none⟩)) (.pointer (some ⟨b7,0,none⟩)) f,marks ds⟩ w) :
  ∀ (c m:Nat),m+c=k.sources.length→∀ V' ds w (f:Nat→Value),KH w0 V V' k l kb m ds w→fA Tryd.prog [.code .ret] S [.code KL,.inLoop KL,.inBlock 0,.code KT] ⟨#[f 0,f 1,f 2,f 3,f 4,f 5,.pointer (some ⟨lb,0,none⟩),.pointer (some ⟨b7,0,none⟩),f 8,f 9,f 10,f 11,f 12,f 13,f 14,f 15,f 16,f 17,f 18,f 19,f 20,f 21,f 22,f 23,f 24,f 25,f 26,f 27,f 28,f 29,f 30,f 31,f 32,f 33,f 34,.slice (some ⟨g,0,none⟩) k.sources.length cap,.int .i64 k.sources.length,.int .i64 (m:Int),f 38,f 39,f 40,f 41,f 42,f 43,f 44,f 45,f 46,f 47,f 48,f 49,f 50,f 51,f 52,f 53,f 54,f 55,f 56,f 57,f 58,f 59,f 60,f 61,f 62,f 63,f 64,f 65,f 66,f 67,f 68,f 69,f 70,f 71,f 72,f 73,f 74,f 75,f 76,f 77,f 78,f 79,f 80,f 81,f 82,f 83,f 84,f 85,f 86,f 87,f 88],marks ds⟩ w:=by
 intro c
 induction c with
 | zero =>
  intro m hm V' ds w f hK
  obtain rfl:m=k.sources.length:=by omega
  have hS:=hK.st
  have hend':=hend V' ds
  refine au (aA ?_)
  go_wp2_with (fail)
  refine au (dZ (t:=false) rfl (lG rfl ?_))
  have key:∀ a:Act,a=⟨#[a.tmps.getD 0 undef,a.tmps.getD 1 undef,a.tmps.getD 2 undef,a.tmps.getD 3 undef,a.tmps.getD 4 undef,a.tmps.getD 5 undef,.pointer (some ⟨lb,0,none⟩),.pointer (some ⟨b7,0,none⟩),a.tmps.getD 8 undef,a.tmps.getD 9 undef,a.tmps.getD 10 undef,a.tmps.getD 11 undef,a.tmps.getD 12 undef,a.tmps.getD 13 undef,a.tmps.getD 14 undef,a.tmps.getD 15 undef,a.tmps.getD 16 undef,a.tmps.getD 17 undef,a.tmps.getD 18 undef,a.tmps.getD 19 undef,a.tmps.getD 20 undef,a.tmps.getD 21 undef,a.tmps.getD 22 undef,a.tmps.getD 23 undef,a.tmps.getD 24 undef,a.tmps.getD 25 undef,a.tmps.getD 26 undef,a.tmps.getD 27 undef,a.tmps.getD 28 undef,a.tmps.getD 29 undef,a.tmps.getD 30 undef,a.tmps.getD 31 undef,a.tmps.getD 32 undef,a.tmps.getD 33 undef,a.tmps.getD 34 undef,a.tmps.getD 35 undef,a.tmps.getD 36 undef,a.tmps.getD 37 undef,a.tmps.getD 38 undef,a.tmps.getD 39 undef,a.tmps.getD 40 undef,a.tmps.getD 41 undef,a.tmps.getD 42 undef,a.tmps.getD 43 undef,a.tmps.getD 44 undef,a.tmps.getD 45 undef,a.tmps.getD 46 undef,a.tmps.getD 47 undef,a.tmps.getD 48 undef,a.tmps.getD 49 undef,a.tmps.getD 50 undef,a.tmps.getD 51 undef,a.tmps.getD 52 undef,a.tmps.getD 53 undef,a.tmps.getD 54 undef,a.tmps.getD 55 undef,a.tmps.getD 56 undef,a.tmps.getD 57 undef,a.tmps.getD 58 undef,a.tmps.getD 59 undef,a.tmps.getD 60 undef,a.tmps.getD 61 undef,a.tmps.getD 62 undef,a.tmps.getD 63 undef,a.tmps.getD 64 undef,a.tmps.getD 65 undef,a.tmps.getD 66 undef,a.tmps.getD 67 undef,a.tmps.getD 68 undef,a.tmps.getD 69 undef,a.tmps.getD 70 undef,a.tmps.getD 71 undef,a.tmps.getD 72 undef,a.tmps.getD 73 undef,a.tmps.getD 74 undef,a.tmps.getD 75 undef,a.tmps.getD 76 undef,a.tmps.getD 77 undef,a.tmps.getD 78 undef,a.tmps.getD 79 undef,a.tmps.getD 80 undef,a.tmps.getD 81 undef,a.tmps.getD 82 undef,a.tmps.getD 83 undef,a.tmps.getD 84 undef,a.tmps.getD 85 undef,a.tmps.getD 86 undef,a.tmps.getD 87 undef,a.tmps.getD 88 undef],marks ds⟩→fA Tryd.prog [.code .ret] S [.code KT] a w:=fun a ha=>by
   rw [ha]
   exact hend' w (fun j=>a.tmps.getD j undef) hK
  exact key _ rfl
 | succ c ih =>
  intro m hm V' ds w f hK
  have hml:m < k.sources.length:=by omega
  have hm1:(m:Int) < k.sources.length:=by omega
  have hm0:(0:Int)≤m:=by omega
  have hih:=ih (m+1) (by omega)
  obtain ⟨s,hs⟩:∃ s,k.sources.getD m 0=s:=⟨_,rfl⟩
  have hsm:s∈k.sources:=by
   rw [← hs,List.getD_eq_getElem?_getD,List.getElem?_eq_getElem hml]
   exact List.getElem_mem _
  have hsn:s < k.n:=List.mem_range.1 (List.mem_filter.1 hsm).1
  have hbr:=Tj k hml
  have hc0:=(hsr m hml).mono hK.sub
  rw [hs] at hc0 hbr
  have hCC:=hC.mono hK.sub
  have hS:=hK.st
  refine au (aA ?_)
  go_wp2_with (fail)
  refine au (dZ (t:=true) rfl (lu ?_))
  refine au (jg (au (aA ?_)))
  unfold ptr at hc0
  go_wp2_with (((with_reducible refine gL ?_);refine nC hS rfl rfl rfl ?_);refine ⟨_,zd,?_⟩;clear hS;(try clear w');intro a' hp;(try simp only [fr] at hp);subst hp;intro w' hS;(try simp only [sE] at hS))
  refine Uc (au (Gs (Vk (GN ?_))))
  refine au (aA ?_)
  go_wp2_with (go_at_call 94;refine (kP _ _).mono ?_;rintro e w' ⟨bt,rfl,hkp,hlt,hbk⟩;replace hS:=hS.fresh hkp (e:=.blk bt 124 [ptr (ts.getD s 0)]) hbk (fun b hb=>by cases hb;exact hlt))
  refine jg ?_
  obtain ⟨V1,hV1,hc1,hS1⟩:=pin hS
  clear hS
  have hbt:=hc1 0 _ rfl
  have hsub1:∀ j u,V j=some u→V1 j=some u:=fun j u h=>hV1 j u (hK.sub j u h)
  have key:∀ a:Act,a=⟨#[a.tmps.getD 0 undef,a.tmps.getD 1 undef,a.tmps.getD 2 undef,a.tmps.getD 3 undef,a.tmps.getD 4 undef,a.tmps.getD 5 undef,.pointer (some ⟨lb,0,none⟩),.pointer (some ⟨b7,0,none⟩),a.tmps.getD 8 undef,a.tmps.getD 9 undef,a.tmps.getD 10 undef,a.tmps.getD 11 undef,a.tmps.getD 12 undef,a.tmps.getD 13 undef,a.tmps.getD 14 undef,a.tmps.getD 15 undef,a.tmps.getD 16 undef,a.tmps.getD 17 undef,a.tmps.getD 18 undef,a.tmps.getD 19 undef,a.tmps.getD 20 undef,a.tmps.getD 21 undef,a.tmps.getD 22 undef,a.tmps.getD 23 undef,a.tmps.getD 24 undef,a.tmps.getD 25 undef,a.tmps.getD 26 undef,a.tmps.getD 27 undef,a.tmps.getD 28 undef,a.tmps.getD 29 undef,a.tmps.getD 30 undef,a.tmps.getD 31 undef,a.tmps.getD 32 undef,a.tmps.getD 33 undef,a.tmps.getD 34 undef,a.tmps.getD 35 undef,a.tmps.getD 36 undef,a.tmps.getD 37 undef,a.tmps.getD 38 undef,a.tmps.getD 39 undef,a.tmps.getD 40 undef,a.tmps.getD 41 undef,a.tmps.getD 42 undef,a.tmps.getD 43 undef,a.tmps.getD 44 undef,a.tmps.getD 45 undef,a.tmps.getD 46 undef,a.tmps.getD 47 undef,a.tmps.getD 48 undef,a.tmps.getD 49 undef,a.tmps.getD 50 undef,a.tmps.getD 51 undef,a.tmps.getD 52 undef,a.tmps.getD 53 undef,a.tmps.getD 54 undef,a.tmps.getD 55 undef,a.tmps.getD 56 undef,a.tmps.getD 57 undef,a.tmps.getD 58 undef,a.tmps.getD 59 undef,a.tmps.getD 60 undef,a.tmps.getD 61 undef,a.tmps.getD 62 undef,a.tmps.getD 63 undef,a.tmps.getD 64 undef,a.tmps.getD 65 undef,a.tmps.getD 66 undef,a.tmps.getD 67 undef,a.tmps.getD 68 undef,a.tmps.getD 69 undef,a.tmps.getD 70 undef,a.tmps.getD 71 undef,a.tmps.getD 72 undef,a.tmps.getD 73 undef,a.tmps.getD 74 undef,a.tmps.getD 75 undef,a.tmps.getD 76 undef,a.tmps.getD 77 undef,a.tmps.getD 78 undef,a.tmps.getD 79 undef,a.tmps.getD 80 undef,a.tmps.getD 81 undef,a.tmps.getD 82 undef,a.tmps.getD 83 undef,a.tmps.getD 84 undef,a.tmps.getD 85 undef,a.tmps.getD 86 undef,a.tmps.getD 87 undef,a.tmps.getD 88 undef],marks ds⟩→a.tmps.getD 42 undef=.func (.func 121) #[] #[ptr bt]→(∀ a' w4,a'=⟨a.tmps,marks (w'.heap.size :: ds)⟩→St w0 [] (Vw V1 w'.heap.size (.deferred (some []))) [.blk kb 4 (Cj k l (DC k m ++ Cb k (k.n - s) s))] w4→fA Tryd.prog [.code .ret] S [.inBlock 2,.inScope KSc,.inBlock 1,.code Z7,.inLoop KL,.inBlock 0,.code KT] a' w4) →
    fA Tryd.prog [.code .ret] S [.code (.rangeFunc (.tmp 42) #[43] KA KB),.inBlock 2,.inScope KSc,.inBlock 1,.code Z7,.inLoop KL,.inBlock 0,.code KT] a w':=fun a ha h42 hk=>by
   have h1:=Pq (tgt:=[.code .ret]) (S:=S) (k0:=[.inBlock 2,.inScope KSc,.inBlock 1,.code Z7,.inLoop KL,.inBlock 0,.code KT]) (f:=fun j=>a.tmps.getD j undef) (ds:=ds) (hC.mono hsub1) hok hsn hl6 (hlb.mono hsub1) (hb7.mono hsub1) h42 hbt hS1 (fun w4 h4=>?_)
   ·rw [ha]
    exact h1
   ·refine hk _ w4 ?_ h4
    have e:a.tmps=Ad (ptr lb) (ptr b7) (fun j=>a.tmps.getD j undef):=by
     have:=congrArg Act.tmps ha
     exact this
    rw [← e]
  refine key _ rfl rfl ?_
  rintro a' w4 rfl hS4
  clear key
  refine jE (Lh (jE (aA ?_)))
  have hS:=hS4
  conv=>enter [2];whnf
  go_wp2_with (fail)
  refine jr ?_
  have hK':KH w0 V (Vw V1 w'.heap.size (.deferred (some []))) k l kb (m+1) (w'.heap.size :: ds) w4:=by
   have hD:V1 w'.heap.size=none:=IX hS1 (Nat.le_refl _)
   have hsub:∀ j u,V1 j=some u→Vw V1 w'.heap.size (.deferred (some [])) j=some u:=Vw.sub hD
   refine ⟨fun j u h=>hsub j u (hsub1 j u h),by rw [hbr];exact hS4,List.nodup_cons.2 ⟨fun hm=>?_,hK.nd⟩,fun d hd=>?_⟩
   ·have:=(hK.ds _ hm).2
    have h2:=hV1 _ _ this
    rw [hD] at h2
    cases h2
   ·rcases List.mem_cons.1 hd with rfl | hd
    ·exact ⟨hS1.size,Vw.same _ _ _⟩
    ·exact ⟨(hK.ds d hd).1,hsub _ _ (hV1 _ _ (hK.ds d hd).2)⟩
  have key:∀ a:Act,a=⟨#[a.tmps.getD 0 undef,a.tmps.getD 1 undef,a.tmps.getD 2 undef,a.tmps.getD 3 undef,a.tmps.getD 4 undef,a.tmps.getD 5 undef,.pointer (some ⟨lb,0,none⟩),.pointer (some ⟨b7,0,none⟩),a.tmps.getD 8 undef,a.tmps.getD 9 undef,a.tmps.getD 10 undef,a.tmps.getD 11 undef,a.tmps.getD 12 undef,a.tmps.getD 13 undef,a.tmps.getD 14 undef,a.tmps.getD 15 undef,a.tmps.getD 16 undef,a.tmps.getD 17 undef,a.tmps.getD 18 undef,a.tmps.getD 19 undef,a.tmps.getD 20 undef,a.tmps.getD 21 undef,a.tmps.getD 22 undef,a.tmps.getD 23 undef,a.tmps.getD 24 undef,a.tmps.getD 25 undef,a.tmps.getD 26 undef,a.tmps.getD 27 undef,a.tmps.getD 28 undef,a.tmps.getD 29 undef,a.tmps.getD 30 undef,a.tmps.getD 31 undef,a.tmps.getD 32 undef,a.tmps.getD 33 undef,a.tmps.getD 34 undef,.slice (some ⟨g,0,none⟩) k.sources.length cap,.int .i64 k.sources.length,.int .i64 ((m:Int)+1),a.tmps.getD 38 undef,a.tmps.getD 39 undef,a.tmps.getD 40 undef,a.tmps.getD 41 undef,a.tmps.getD 42 undef,a.tmps.getD 43 undef,a.tmps.getD 44 undef,a.tmps.getD 45 undef,a.tmps.getD 46 undef,a.tmps.getD 47 undef,a.tmps.getD 48 undef,a.tmps.getD 49 undef,a.tmps.getD 50 undef,a.tmps.getD 51 undef,a.tmps.getD 52 undef,a.tmps.getD 53 undef,a.tmps.getD 54 undef,a.tmps.getD 55 undef,a.tmps.getD 56 undef,a.tmps.getD 57 undef,a.tmps.getD 58 undef,a.tmps.getD 59 undef,a.tmps.getD 60 undef,a.tmps.getD 61 undef,a.tmps.getD 62 undef,a.tmps.getD 63 undef,a.tmps.getD 64 undef,a.tmps.getD 65 undef,a.tmps.getD 66 undef,a.tmps.getD 67 undef,a.tmps.getD 68 undef,a.tmps.getD 69 undef,a.tmps.getD 70 undef,a.tmps.getD 71 undef,a.tmps.getD 72 undef,a.tmps.getD 73 undef,a.tmps.getD 74 undef,a.tmps.getD 75 undef,a.tmps.getD 76 undef,a.tmps.getD 77 undef,a.tmps.getD 78 undef,a.tmps.getD 79 undef,a.tmps.getD 80 undef,a.tmps.getD 81 undef,a.tmps.getD 82 undef,a.tmps.getD 83 undef,a.tmps.getD 84 undef,a.tmps.getD 85 undef,a.tmps.getD 86 undef,a.tmps.getD 87 undef,a.tmps.getD 88 undef],marks (w'.heap.size :: ds)⟩→fA Tryd.prog [.code .ret] S [.code KL,.inLoop KL,.inBlock 0,.code KT] a w4:=fun a ha=>by
   have h1:=hih _ _ w4 (fun j=>a.tmps.getD j undef) hK'
   rw [ha]
   exact h1
  exact key _ rfl
theorem TY (k:Wk):DC k 0=[]:=by simp [DC]
def KS (w:World) (k:Wk) (a:Act) (w':World):Prop :=
 ∃ (V3:View) (p g cap lb b7 kb:Nat) (ts:List Nat) (vv rv:Value),(∃ f:Nat→Value,a=⟨#[f 0,f 1,f 2,f 3,f 4,f 5,.pointer (some ⟨lb,0,none⟩),.pointer (some ⟨b7,0,none⟩),f 8,f 9,f 10,f 11,f 12,f 13,f 14,f 15,f 16,f 17,f 18,f 19,f 20,f 21,f 22,f 23,f 24,f 25,f 26,f 27,f 28,f 29,f 30,f 31,f 32,f 33,f 34,.slice (some ⟨g,0,none⟩) k.sources.length cap,.int .i64 k.sources.length,.int .i64 ((0:Nat):Int),f 38,f 39,f 40,f 41,f 42,f 43,f 44,f 45,f 46,f 47,f 48,f 49,f 50,f 51,f 52,f 53,f 54,f 55,f 56,f 57,f 58,f 59,f 60,f 61,f 62,f 63,f 64,f 65,f 66,f 67,f 68,f 69,f 70,f 71,f 72,f 73,f 74,f 75,f 76,f 77,f 78,f 79,f 80,f 81,f 82,f 83,f 84,f 85,f 86,f 87,f 88],marks []⟩)∧zO V3 p k ts vv rv∧V3.Range lb 0 (mM (up k (aN k aC)))∧V3.Cell b7 0 (.slice (some ⟨kb,0,none⟩) k.n k.n) ∧
  (∀ m,m < k.sources.length→V3.Cell g m (ptr (ts.getD (k.sources.getD m 0) 0)))∧k.sources.length≤6∧k.sources.length≤cap∧KH w V3 V3 k (up k (aN k aC)) kb 0 [] w'
set_option maxRecDepth 20000 in
theorem OV (vv rv:Value) (k:Wk) (hk:iJ V vv rv k) (hG:GV V) (hV:V.In w) (hb:aS k []=0) :
  fA Tryd.prog [.code KL,.inLoop KL,.inBlock 0,.code KT] (KS w k) [.code B34] { tmps:=#[.agg #[vv,rv]] ++ Array.replicate 88 undef,defers:=[] } w:=by
 have hk0:=hk
 obtain ⟨va,vcap,rfl,hvc,hvm,hve⟩:=hk0.ves.is
 obtain ⟨ra,rcap,rfl,hrc,hrm,hre⟩:=hk0.rdg.is
 have hS:=St.start w V hV
 clear hk0 hve hre
 have hok:=dP hb
 have hpos:=vY hok
 have hn6:=hok.le
 have hwf:=gG k aC
 have hll:(up k (aN k aC)).length=6:=kZ k _ k.n
 replace hb:=aj hb
 simp only [Array.replicate_succ,Array.replicate_zero,List.push_toArray,List.append_toArray,List.nil_append,List.cons_append]
 refine au (aA ?_)
 go_wp2_with (((with_reducible refine gB ?_);refine jQ hS rfl rfl rfl ?_;refine ⟨_,za,?_⟩);clear hS;(try clear w');intro _;intro a' hp;(try simp only [fr] at hp);subst hp;intro w' hS)
 refine au (aA ?_)
 go_wp2_with (first | (((with_reducible refine gL ?_);refine lW hS rfl rfl rfl ?_);refine ⟨_,zd,?_⟩;clear hS;(try clear w');intro a' hp;(try simp only [fr] at hp);subst hp;intro w' hS;(try simp only [sE] at hS)) | (go_at_call 77;refine eG hS hk pG (by simp) hb.out ?_;clear hS;(try clear w');intro p V' w' hVV hcel hS;have hG':GV V':=hG.mono hVV))
 obtain ⟨ts,vv',rv',hC⟩:=id hcel
 obtain ⟨cg,ccap,hc2,hcc⟩:=hC.c2
 refine au (au (aA ?_))
 go_wp2_with (fail)
 refine dZ (t:=false) rfl (lu ?_)
 have hup:=fun w' hV'=>YF V' p k hcel (aN k aC) hwf w' hV'
 generalize hl:up k (aN k aC)=l at hup hll
 have hLl:(mM l).length=6:=by rw [cZ,hll]
 refine au (aA ?_)
 go_wp2_with (first | (first | (((with_reducible refine gS ?_);refine bQ hS rfl rfl rfl ?_);refine ⟨_,zd,?_⟩;clear hS;(try clear w');intro a' hp;(try simp only [fr] at hp);subst hp;intro w' hS;(try simp only [sE] at hS)) | ((with_reducible refine gA ?_);refine aT 6 rfl hS rfl rfl ?_;clear hS;(try clear w');intro b6;intro a' hp;(try simp only [fr] at hp);subst hp;intro w' hS)) | (go_at_call 79;refine aH hS ⟨_,zL V' p k hcel hok _ rfl _ (St.view hS),?_⟩;clear hS;(try clear w');intro w' hS) | (go_at_call 92;refine aH hS ⟨_,hup _ (St.view hS),?_⟩;clear hS;(try clear w');intro w' hS))
 refine au (aA ?_)
 go_wp2_with (first | (first | ((first | ((with_reducible refine gL ?_);refine nC hS rfl rfl rfl ?_) | ((with_reducible refine gS ?_);refine pX hS rfl rfl rfl ?_));refine ⟨_,zd,?_⟩;clear hS;(try clear w');intro a' hp;(try simp only [fr] at hp);subst hp;intro w' hS;(try simp only [sE] at hS)) | ((with_reducible refine gA ?_);refine aT 7 rfl hS rfl rfl ?_;clear hS;(try clear w');intro b7;intro a' hp;(try simp only [fr] at hp);subst hp;intro w' hS)) | (refine aay hS rfl rfl rfl rfl (by omega) ?_;clear hS;(try clear w');intro kb a' hp;(try simp only [fr] at hp);subst hp;intro w' hS))
 refine au (au (aA ?_))
 go_wp2_with (go_at_call 93;refine (Fq _ p k ts vv' rv' hC _ (St.view hS)).mono ?_;rintro _ w4 ⟨sl,rfl,hkp,hrow,hnew⟩;obtain ⟨g,cap,cur,rfl,hc2',hc3,hcur,hget⟩:=oz hrow.1 hpos)
 have hlt0:∀ e∈_,∀ b,dF.foot e=some b→b < w'.heap.size:=fun e he b hb=>(hS.has e he).lt hb
 replace hS:=hS.kp hkp
 have hgn:=hnew g rfl
 refine jg (zh ?_)
 obtain ⟨V1,hV1,hp1,hS1⟩:=pin hS
 clear hS
 obtain ⟨V2,hV2,hp2,hS2⟩:=pin (hS1.perm (List.Perm.swap _ _ _))
 have hS3:=hS2.sub (List.Sublist.cons_cons _ (List.nil_sublist _))
 clear hS1 hS2
 obtain ⟨hS4,hV4⟩:=Qq hS3 hcur (fun e he hf=>by
  simp only [List.mem_singleton] at he
  subst he
  have:kb=g:=Option.some.inj hf
  have:=hlt0 (.blk kb 4 (List.replicate k.n (.bool false))) (by simp) kb rfl
  omega)
 have hsub:∀ j u,V' j=some u→Vw V2 g (.cells cur 124 (0,0)) j=some u:=fun j u h=>hV4 j u (hV2 j u (hV1 j u h))
 have hcell:∀ m,m < k.sources.length→(Vw V2 g (.cells cur 124 (0,0))).Cell g m (ptr (ts.getD (k.sources.getD m 0) 0)):=fun m hm=>by
  refine ⟨cur,124,(0,0),Vw.same _ _ _,?_⟩
  have h1:(cur.toList.take k.sources.length)[m]? = some (ptr (ts.getD (k.sources.getD m 0) 0)):=by
   rw [hget,List.getElem?_map,List.getElem?_eq_getElem hm,List.getD_eq_getElem?_getD (l:=k.sources),List.getElem?_eq_getElem hm]
   rfl
  rw [List.getElem?_take,if_pos hm] at h1
  simpa using h1
 have hsl:k.sources.length≤6:=Nat.le_trans (sD k k.n) hn6
 rw [← hl] at hp2
 have key:∀ a:Act,a=⟨#[a.tmps.getD 0 undef,a.tmps.getD 1 undef,a.tmps.getD 2 undef,a.tmps.getD 3 undef,a.tmps.getD 4 undef,a.tmps.getD 5 undef,.pointer (some ⟨b6,0,none⟩),.pointer (some ⟨b7,0,none⟩),a.tmps.getD 8 undef,a.tmps.getD 9 undef,a.tmps.getD 10 undef,a.tmps.getD 11 undef,a.tmps.getD 12 undef,a.tmps.getD 13 undef,a.tmps.getD 14 undef,a.tmps.getD 15 undef,a.tmps.getD 16 undef,a.tmps.getD 17 undef,a.tmps.getD 18 undef,a.tmps.getD 19 undef,a.tmps.getD 20 undef,a.tmps.getD 21 undef,a.tmps.getD 22 undef,a.tmps.getD 23 undef,a.tmps.getD 24 undef,a.tmps.getD 25 undef,a.tmps.getD 26 undef,a.tmps.getD 27 undef,a.tmps.getD 28 undef,a.tmps.getD 29 undef,a.tmps.getD 30 undef,a.tmps.getD 31 undef,a.tmps.getD 32 undef,a.tmps.getD 33 undef,a.tmps.getD 34 undef,.slice (some ⟨g,0,none⟩) k.sources.length cap,.int .i64 k.sources.length,.int .i64 ((0:Nat):Int),a.tmps.getD 38 undef,a.tmps.getD 39 undef,a.tmps.getD 40 undef,a.tmps.getD 41 undef,a.tmps.getD 42 undef,a.tmps.getD 43 undef,a.tmps.getD 44 undef,a.tmps.getD 45 undef,a.tmps.getD 46 undef,a.tmps.getD 47 undef,a.tmps.getD 48 undef,a.tmps.getD 49 undef,a.tmps.getD 50 undef,a.tmps.getD 51 undef,a.tmps.getD 52 undef,a.tmps.getD 53 undef,a.tmps.getD 54 undef,a.tmps.getD 55 undef,a.tmps.getD 56 undef,a.tmps.getD 57 undef,a.tmps.getD 58 undef,a.tmps.getD 59 undef,a.tmps.getD 60 undef,a.tmps.getD 61 undef,a.tmps.getD 62 undef,a.tmps.getD 63 undef,a.tmps.getD 64 undef,a.tmps.getD 65 undef,a.tmps.getD 66 undef,a.tmps.getD 67 undef,a.tmps.getD 68 undef,a.tmps.getD 69 undef,a.tmps.getD 70 undef,a.tmps.getD 71 undef,a.tmps.getD 72 undef,a.tmps.getD 73 undef,a.tmps.getD 74 undef,a.tmps.getD 75 undef,a.tmps.getD 76 undef,a.tmps.getD 77 undef,a.tmps.getD 78 undef,a.tmps.getD 79 undef,a.tmps.getD 80 undef,a.tmps.getD 81 undef,a.tmps.getD 82 undef,a.tmps.getD 83 undef,a.tmps.getD 84 undef,a.tmps.getD 85 undef,a.tmps.getD 86 undef,a.tmps.getD 87 undef,a.tmps.getD 88 undef],marks []⟩→KS w k a w4:=fun a ha =>
  ⟨Vw V2 g (.cells cur 124 (0,0)),p,g,cap,b6,b7,kb,ts,vv',rv',⟨fun j=>a.tmps.getD j undef,ha⟩,hC.mono hsub,fun j v hj=>by rw [Nat.zero_add];exact (hp2 j v hj).mono hV4,((hp1 0 _ rfl).mono hV2).mono hV4,hcell,hsl,hc2',
   ⟨fun _ _ h=>h,by rw [TY,XQ];exact hS4,List.nodup_nil,fun d hd=>nomatch hd⟩⟩
 exact bG (tgt:=[.code KL,.inLoop KL,.inBlock 0,.code KT]) (key _ rfl)
def KE (w:World) (k:Wk) (l:List Nat) (a:Act) (w':World):Prop :=
 ∃ (V4:View) (ds:List Nat) (v:Value),a.defers=marks ds∧ds.Nodup∧(∀ d∈ds,w.heap.size≤d∧V4 d=some (.deferred (some [])))∧a.tmps[2]? = some v∧a.tmps[3]? = some (.int .i64 0) ∧
  St w [] V4 [.row v 3 1 (jI k l k.n).length (aV (jI k l k.n))] w'
set_option maxRecDepth 20000 in
theorem VD {w0:World} {k:Wk} {V':View} {lb b7 kb:Nat} {ds:List Nat} (hok:k.Ok) (f:Nat→Value) (hb7:V.Cell b7 0 (.slice (some ⟨kb,0,none⟩) k.n k.n)) (hK:KH w0 V V' k (up k (aN k aC)) kb k.sources.length ds w) :
  fA Tryd.prog [.code .ret] (KE w0 k (up k (aN k aC))) [.code KT] ⟨Ad (.pointer (some ⟨lb,0,none⟩)) (.pointer (some ⟨b7,0,none⟩)) f,marks ds⟩ w:=by
 have hn6:=hok.le
 have hS0:=hK.st
 rw [Xo hok] at hS0
 obtain ⟨V4,hV4,hcel,hS1⟩:=pin hS0
 have hb7':=(hb7.mono hK.sub).mono hV4
 have hds:∀ d∈ds,w0.heap.size≤d∧V4 d=some (.deferred (some [])):=fun d hd=>⟨(hK.ds d hd).1,hV4 _ _ (hK.ds d hd).2⟩
 have hnd:=hK.nd
 have hS:=hS1.nilRow 3 1
 clear hS0 hS1 hK hb7
 generalize up k (aN k aC)=l at *
 have hcel':∀ i,i < k.n→V4.Cell kb i (.bool (nG k l i)):=fun i hi=>hcel i _ (by simp [hi])
 clear hcel
 rw [show Ad (.pointer (some ⟨lb,0,none⟩)) (.pointer (some ⟨b7,0,none⟩)) f=#[f 0,f 1,f 2,f 3,f 4,f 5,.pointer (some ⟨lb,0,none⟩),.pointer (some ⟨b7,0,none⟩),f 8,f 9,f 10,f 11,f 12,f 13,f 14,f 15,f 16,f 17,f 18,f 19,f 20,f 21,f 22,f 23,f 24,f 25,f 26,f 27,f 28,f 29,f 30,f 31,f 32,f 33,f 34,f 35,f 36,f 37,f 38,f 39,f 40,f 41,f 42,f 43,f 44,f 45,f 46,f 47,f 48,f 49,f 50,f 51,f 52,f 53,f 54,f 55,f 56,f 57,f 58,f 59,f 60,f 61,f 62,f 63,f 64,f 65,f 66,f 67,f 68,f 69,f 70,f 71,f 72,f 73,f 74,f 75,f 76,f 77,f 78,f 79,f 80,f 81,f 82,f 83,f 84,f 85,f 86,f 87,f 88] from rfl]
 refine au (aA ?_)
 go_wp2_with (fail)
 refine au (aA ?_)
 go_wp2_with (((with_reducible refine gL ?_);refine nC hS rfl rfl rfl ?_);refine ⟨_,zd,?_⟩;clear hS;(try clear w');intro a' hp;(try simp only [fr] at hp);subst hp;intro w' hS;(try simp only [sE] at hS))
 go_loopw [13,77] (fun sv iv wr=>∃ i:Nat,i≤k.n∧iv=.int .i64 (i:Int)∧sv.oneCell'=true∧St w0 [] V4 [.row sv 3 1 (jI k l i).length (aV (jI k l i))] wr) (fun _ iv _=>k.n - (intOf iv).toNat)
 case atStart=>exact ⟨0,by omega,rfl,rfl,hS⟩
 case round =>
  clear hS
  obtain ⟨i,hi,rfl,hone,hS⟩:=hrel
  by_cases hlt:i < k.n
  ·have h0:(0:Int)≤i:=by omega
   have h1:(i:Int) < k.n:=by omega
   have hll:=Kv k l i
   have HT:=JI k l i
   have hc:=hcel' i hlt
   generalize jI k l i=xs at hS hll HT
   have hil:=iD xs
   clear hcel'
   cases hq:nG k l i with
   | true =>
    rw [hq] at hc HT
    simp only [if_true] at HT
    replace HT:=aj HT
    go_wp2_with (first | (((with_reducible refine gL ?_);refine nC hS rfl rfl rfl ?_);refine ⟨_,zd,?_⟩;clear hS;(try clear w');intro a' hp;(try simp only [fr] at hp);subst hp;intro w' hS;(try simp only [sE] at hS)) | ((with_reducible refine uP ?_);refine rE hS rfl rfl ?_;refine ⟨_,zq,zd,?_⟩;clear hS;(try clear w');intro _;intro a' hp;(try simp only [fr] at hp);subst hp;intro w' hS) | ((with_reducible refine Q5 ?_);refine Ui rfl rfl ?_;refine ⟨_,_,_,_,by exact rfl,by exact rfl,?_⟩;refine eH hS zd ?_;clear hS;(try clear w');intro va w' hS;intro a' hp;(try simp only [fr] at hp);subst hp;(try simp only [sE] at hS);have hva:=dY hS va))
    go_roundw
    case rel =>
     refine ⟨i+1,by omega,by go_num,hva,?_⟩
     rw [HT.out]
     have ei:aV (xs ++ [(i:Int)])=aV xs ++ [.int .i64 (i:Int)]:=by simp [aV]
     simp only [ei,List.length_append,List.length_cons,List.length_nil,Nat.zero_add]
     exact hS.aG
    case measure=>simp only [intOf];omega
   | false =>
    rw [hq] at hc HT
    simp only [Bool.false_eq_true,if_false] at HT
    replace HT:=aj HT
    go_wp2_with (((with_reducible refine gL ?_);refine nC hS rfl rfl rfl ?_);refine ⟨_,zd,?_⟩;clear hS;(try clear w');intro a' hp;(try simp only [fr] at hp);subst hp;intro w' hS;(try simp only [sE] at hS))
    go_roundw
    case rel =>
     refine ⟨i+1,by omega,by go_num,hone,?_⟩
     rw [HT.out]
     exact hS.aG
    case measure=>simp only [intOf];omega
  ·obtain rfl:i=k.n:=by omega
   clear hcel'
   go_wp2_with (fail)
   refine au (aA ?_)
   go_wp2_with (fail)
   refine bG (tgt:=[.code .ret]) ?_
   unfold KE
   exact ⟨V4,ds,_,rfl,hnd,hds,rfl,rfl,hS⟩
set_option maxRecDepth 20000 in
theorem SB (vv rv:Value) (k:Wk) (hk:iJ V vv rv k) (hV:V.In w) (hb:¬ aS k []=0) :
  Calls Tryd.prog 34 #[.agg #[vv,rv]] w fun r w'=>∃ v,r=.returned (.tuple #[v,.int .i64 (qQ k).2])∧Kp w w'∧tY w w' v (qQ k).1:=by
 have hk0:=hk
 obtain ⟨va,vcap,rfl,hvc,hvm,hve⟩:=hk0.ves.is
 obtain ⟨ra,rcap,rfl,hrc,hrm,hre⟩:=hk0.rdg.is
 have hS:=(St.start w V hV).nilRow 3 1
 clear hk0 hve hre
 have hC:qQ k=([],aS k []):=by unfold qQ;rw [if_neg hb]
 rw [hC]
 simp only
 have hb':(aS k [] == 0)=false:=by rw [beq_eq_false_iff_ne];exact hb
 have hE:Go.RowKit.Hid (∃ e,aS k []=e):=aj ⟨_,rfl⟩
 obtain ⟨e,he⟩:=hE.out
 rw [he] at hb' ⊢
 replace hC:=aj hC;replace he:=aj he
 go_enter Tryd.func34,Tryd.ntmps34
 go_wp2_with (first | (first | (((with_reducible refine gL ?_);refine lW hS rfl rfl rfl ?_);refine ⟨_,zd,?_⟩;clear hS;(try clear w');intro a' hp;(try simp only [fr] at hp);subst hp;intro w' hS;(try simp only [sE] at hS)) | (((with_reducible refine gB ?_);refine jQ hS rfl rfl rfl ?_;refine ⟨_,za,?_⟩);clear hS;(try clear w');intro _;intro a' hp;(try simp only [fr] at hp);subst hp;intro w' hS)) |
  (go_at_call 77;refine fF hS hk pG (by simp) hb ?_;rw [he.out];clear hS;(try clear w');intro w' hS))
 ((try simp only [Exit.inBlock,Exit.then]);(try refine aB ?_);refine bK ⟨_,by exact dA (r1:=.tmp 2) (r2:=.tmp 3) (by kernel_rfl) (by exact bD rfl) (by exact bD rfl),?_⟩ rfl)
 exact ⟨_,rfl,hS.bM,vK hS (l:=[]) (j:=1) rfl⟩
theorem VK (vv rv:Value) (k:Wk) (hk:iJ V vv rv k) (hG:GV V) (hV:V.In w) :
  Calls Tryd.prog 34 #[.agg #[vv,rv]] w fun r w'=>∃ v,r=.returned (.tuple #[v,.int .i64 (qQ k).2])∧Kp w w'∧tY w w' v (qQ k).1:=by
 by_cases hb:aS k []=0
 ·have hok:=dP hb
  have hC:qQ k=(jI k (up k (aN k aC)) k.n,0):=by unfold qQ;rw [if_pos hb]
  rw [hC]
  simp only
  refine yU (k0:=[]) Tryd.func34 (show Tryd.f34.body=some B34 from rfl) ?_
  have e88:Tryd.f34.ntmps - (#[.agg #[vv,rv]]:Array Value).size=88:=by kernel_rfl
  rw [e88]
  refine fA.mono (S:=KE w k (up k (aN k aC))) ?_ ?_
  ·refine (OV vv rv k hk hG hV hb).bind ?_
   rintro a w1 ⟨V3,p,g,cap,lb,b7,kb,ts,vv',rv',⟨f,rfl⟩,hcel,hlb,hb7,hsr,hsl,hcap,hK⟩
   exact Rk hcel hok (kZ k _ k.n) hlb hb7 hsr hsl hcap (fun V' ds w f hK=>VD hok f hb7 hK) k.sources.length 0 (Nat.zero_add _) V3 [] w1 f hK
  ·rintro a w1 ⟨V4,ds,v,h1,h2,h3,h4,h5,h6⟩
   have hsh:=Xi h6 (ds:=ds) fun d hd=>⟨(h3 d hd).1,by rw [(h3 d hd).2];exact fun h=>nomatch h⟩
   have g:∀ {j:Nat} {u:Value},a.tmps[j]? = some u→a.tmps.getD j undef=u:=fun h=>by
    rw [Array.getD_eq_getD_getElem?,h]
    rfl
   refine ⟨ds,.tuple #[v,.int .i64 0],h1,h2,fun d hd=>h6.view d _ (h3 d hd).2,?_,v,rfl,hsh.bM,vK hsh (j:=0) rfl⟩
   exact dA (r1:=.tmp 2) (r2:=.tmp 3) (by kernel_rfl) (yS (g h4)) (yS (g h5))
 ·exact SB vv rv k hk hV hb
end Go.Proofs.YtjjmefieegcddaaDoor
namespace Go.Proofs.YtjjmefieegcddaaDoor
open Go.RowKit Go.Wg Go.Mm
variable {w:World} {V:View}
abbrev VI (V:View) (v:Value) (l:List Int):Prop:=pW V v l.length 1 fun j=>[.int .i64 (l.getD j 0)]
theorem OZ {l1 l2:List Int} (h:l1.length=l2.length) (h2:∀ j,j < l1.length→l1.getD j 0=l2.getD j 0):l1=l2:=by
 refine List.ext_getElem h fun j h3 h4=>?_
 have:=h2 j h3
 simpa [List.getD_eq_getElem?_getD,List.getElem?_eq_getElem h3,List.getElem?_eq_getElem h4] using this
set_option maxRecDepth 20000 in
theorem SI (l1 l2:List Int) (a b:Value) (ha:VI V a l1) (hb:VI V b l2) (n1:l1.length≤100) (n2:l2.length≤100) (hV:V.In w) :
  Calls Tryd.prog 31 #[a,b] w fun e w'=>e=.returned (.bool (decide (l1=l2)))∧Kp w w':=by
 obtain ⟨aa,acap,rfl,hac,ham,hae⟩:=ha.is
 obtain ⟨ba,bcap,rfl,hbc,hbm,hbe⟩:=hb.is
 have hS:=St.start w V hV
 clear ha hb
 go_enter Tryd.func31,Tryd.ntmps31
 go_wp2_with (fail)
 go_loopw [5] (fun iv wr=>∃ i:Nat,i≤l1.length∧i≤l2.length∧iv=.int .i64 (i:Int)∧(∀ j,j < i→l1.getD j 0=l2.getD j 0)∧St w [] V [] wr) (fun iv _=>l1.length - (intOf iv).toNat)
 case atStart=>exact ⟨0,by omega,by omega,rfl,(fun j hj=>absurd hj (by omega)),hS⟩
 case round =>
  clear hS
  obtain ⟨i,hi1,hi2,rfl,hall,hS⟩:=hrel
  have h0:(0:Int)≤i:=by omega
  by_cases h1:i < l1.length
  ·have h1':(i:Int) < l1.length:=by omega
   by_cases h2:i < l2.length
   ·have h2':(i:Int) < l2.length:=by omega
    obtain ⟨ag,ao,rfl,har⟩:=hae (by omega)
    obtain ⟨bg,bo,rfl,hbr⟩:=hbe (by omega)
    have hca:=har i h1 0 _ rfl
    have hcb:=hbr i h2 0 _ rfl
    simp only [Nat.mul_one,Nat.add_zero] at hca hcb
    have hnx:l1.getD i 0=l2.getD i 0→∀ j,j < i+1→l1.getD j 0=l2.getD j 0:=fun h j hj=>by
     rcases Nat.lt_succ_iff_lt_or_eq.1 hj with hj | rfl
     ·exact hall j hj
     ·exact h
    have hne:l1.getD i 0≠l2.getD i 0→decide (l1=l2)=false:=fun h=>decide_eq_false fun he=>h (by rw [he])
    generalize hx:l1.getD i 0=x at hca hnx hne
    generalize hy:l2.getD i 0=y at hcb hnx hne
    replace hx:=aj hx;replace hy:=aj hy
    clear hae hbe har hbr
    by_cases he:x=y
    ·subst he
     have hnx':=hnx rfl
     replace hnx':=aj hnx'
     clear hall hnx hne
     go_wp2_with (fail)
     (refine bF (S:=(St w [] V [])) [false,false,false,false,false,false,false,false,false] rfl (by kernel_rfl) ?_;replace hS:=St.eY hS;(iterate 9 ((first | refine hxm 0 rfl ?_ | refine hxm 1 rfl ?_ | refine hxp 2 rfl ?_ | refine hxc 3 rfl ?_ | refine hxm 4 rfl ?_ | refine hxm 5 rfl ?_ | refine hxp 6 rfl ?_ | refine hxc 7 rfl ?_ | refine hxp 8 rfl ?_);intro a' l' hp hl;(try simp only [fr] at hp);(try simp only [sB] at hl);subst hp;subst hl));refine wpAnyH_done (by kernel_rfl) ?_ _)
     go_wp2_with (fail)
     go_roundw
     case rel=>exact ⟨i+1,by omega,by omega,by go_num,hnx'.out,hS⟩
     case measure=>simp only [intOf];omega
    ·have hf:=hne he
     have hxy:(x != y)=true:=by simpa using he
     replace hf:=aj hf
     clear hall hnx hne
     go_wp2_with (fail)
     (refine bF (S:=(St w [] V [])) [false,false,false,false,false,false,false,false,false] rfl (by kernel_rfl) ?_;replace hS:=St.eY hS;(iterate 9 ((first | refine hxm 0 rfl ?_ | refine hxm 1 rfl ?_ | refine hxp 2 rfl ?_ | refine hxc 3 rfl ?_ | refine hxm 4 rfl ?_ | refine hxm 5 rfl ?_ | refine hxp 6 rfl ?_ | refine hxc 7 rfl ?_ | refine hxp 8 rfl ?_);intro a' l' hp hl;(try simp only [fr] at hp);(try simp only [sB] at hl);subst hp;subst hl));refine wpAnyH_done (by kernel_rfl) ?_ _)
     go_wp2_with (fail)
     ((try simp only [Exit.inBlock,Exit.then]);(try refine aB ?_);refine bK ⟨_,by exact bH (r1:=.tmp 4) (by kernel_rfl) (by exact bD rfl),?_⟩ rfl)
     exact ⟨by rw [hf.out],hS.bM⟩
   ·obtain rfl:i=l2.length:=by omega
    have hf:decide (l1=l2)=false:=decide_eq_false fun he=>by rw [he] at h1;omega
    have hl:((l1.length:Int) == (l2.length:Int))=false:=by rw [beq_eq_false_iff_ne];omega
    have hl':¬ ((l1.length:Int)=(l2.length:Int)):=by omega
    replace hf:=aj hf
    clear hall hae hbe
    go_wp2_with (fail)
    ((try simp only [Exit.inBlock,Exit.then]);(try refine aB ?_);refine bK ⟨_,by exact bH (r1:=.tmp 4) (by kernel_rfl) (by exact bD rfl),?_⟩ rfl)
    exact ⟨by rw [hf.out];try simp [hl'],hS.bM⟩
  ·obtain rfl:i=l1.length:=by omega
   by_cases he:l1.length=l2.length
   ·have hf:decide (l1=l2)=true:=decide_eq_true (OZ he hall)
    have hl':(l1.length:Int)=(l2.length:Int):=by omega
    replace hf:=aj hf
    clear hall hae hbe
    go_wp2_with (fail)
    ((try simp only [Exit.inBlock,Exit.then]);(try refine aB ?_);refine bK ⟨_,by exact bH (r1:=.tmp 4) (by kernel_rfl) (by exact bD rfl),?_⟩ rfl)
    exact ⟨by rw [hf.out];try simp [hl'],hS.bM⟩
   ·have hf:decide (l1=l2)=false:=decide_eq_false fun h=>he (by rw [h])
    have hl':¬ ((l1.length:Int)=(l2.length:Int)):=by omega
    replace hf:=aj hf
    clear hall hae hbe
    go_wp2_with (fail)
    ((try simp only [Exit.inBlock,Exit.then]);(try refine aB ?_);refine bK ⟨_,by exact bH (r1:=.tmp 4) (by kernel_rfl) (by exact bD rfl),?_⟩ rfl)
    exact ⟨by rw [hf.out];try simp [hl'],hS.bM⟩
theorem Um {w0 w w':World} {X:List Nat} {L:List dF} {v:Value} {l:List Int} (hS:St w0 X V L w) (hk:Kp w w') (ho:tY w w' v l):∃ V',(∀ j o,V j=some o→V' j=some o)∧St w0 X V' L w'∧VI V' v l:=by
 have hS':=hS.kp hk
 obtain ⟨⟨hl,h⟩,hnew⟩:=ho
 rcases h with ⟨rfl,hn⟩ | ⟨g,cap,cur,rfl,_,hg,h1,h2,h3,h4⟩
 ·exact ⟨V,fun _ _ h=>h,hS',⟨⟨none,0,by rw [hn],by omega,by decide,fun h=>by omega⟩⟩⟩
 ·have hgn:=hnew g rfl
  obtain ⟨hS2,hsub⟩:=Qq hS' hg (fun e he hf=>by
   have:=(hS.has e he).lt hf
   omega)
  refine ⟨Vw V g (.cells cur 3 (0,0)),hsub,hS2,⟨⟨_,cap,rfl,h1,h2,fun _=>⟨g,0,rfl,fun i hi j u hj=>?_⟩⟩⟩⟩
  cases j with
  | succ j=>simp at hj
  | zero =>
   simp at hj
   subst hj
   refine ⟨cur,3,(0,0),Vw.same _ _ _,?_⟩
   have:(cur.toList.take (l.length * 1))[i]? = some (.int .i64 (l.getD i 0)):=by
    rw [h4]
    simp [aV,List.getD_eq_getElem?_getD,List.getElem?_eq_getElem hi]
   rw [List.getElem?_take,if_pos (by omega)] at this
   simpa using this
end Go.Proofs.YtjjmefieegcddaaDoor
namespace Go
section
variable {H:Type} {enc:TypeId × Value→H}
open Go.Conc
theorem kE {a:Assume} {C:Checked} {os:Os} {f:FuncId} {fn:Func} {s:ChangeSpec} {conds:List PathCond} {apart fresh handsOn again:Bool} {X:World→Array Value→Prop}
  (hX:∀ (w w':World) (args:Array Value),w.heap=w'.heap→X w args→X w' args)
  (own:ownKnob C.prog.godebug=none) (started:os.Started) (hfn:C.prog.funcs[f]? = some fn)
  (witness:∃ (w:World) (tape:Tape) (i:Input),w.os=os∧(w.forCall tape i).Shaped C.prog∧i.vars=[]∧Input.okWide C.prog (w.forCall tape i) .any w.heap.size f i ∧
   ((s.pre enc C.prog fn conds apart (w.forCall tape i).memory i.args∧X (w.forCall tape i).memory i.args)∧sizedMet enc C.prog fn (OpenSpec.ofChange s) apart (w.forCall tape i).memory i.args)∧a.holds C.prog (lone (Frame.enter C.prog f i.args .normal) [] (w.forCall tape i)))
  (runs:∀ (W:World) (base:Nat) (args:Array Value) (ds gs:List (DataW H)) (before:List MemPlace),
   (∀ (j:Nat) t v,fn.params[j]? = some t→args[j]? = some v→Value.okWide C.prog W .any base t v) →
   DataW.Whole enc C.prog fn.params.toList s.vars apart W args.toList ds gs before →
   (DataW.weightsEach C.prog (fn.params.toList ++ s.plain.varTypes C.prog) (ds ++ gs)).all (·≤reachBytes)=true→X W args →
   ∃ M last o w' t',runNT C.prog (M+1) (solo (G (Frame.enter C.prog f args .normal) []) W) #[]=(.ended o w',t')∧runN C.prog M (solo (G (Frame.enter C.prog f args .normal) []) W)=.next last ∧
    step C.prog last=.ended o w'∧Conc.Good C.prog (fun v W'=>s.post enc C.prog fn apart fresh handsOn again W args v W') last o w' t') :
  ReturnsInLeavingWide a C os f .any (fun w args=>(s.pre enc C.prog fn conds apart w args∧X w args)∧sizedMet enc C.prog fn (OpenSpec.ofChange s) apart w args) (s.post enc C.prog fn apart fresh handsOn again):=by
 refine returnsInLeavingWide_of_good own started witness ?_
 intro w tape i _ _ _ hok hpre hholds
 obtain ⟨_,_,_,fn',hfn',_,_,_,_,hval⟩:=hok
 have e:fn'=fn:=Option.some.inj (hfn'.symm.trans hfn)
 subst e
 obtain ⟨⟨⟨ds,gs,before,hw,hc⟩,hx⟩,hz⟩:=hpre
 have hw':=DataW.Whole.of_heap (w':=w.forCall tape i) (by rfl) hw
 obtain ⟨M,last,o,w',t',h1,h2,h3,h4⟩:=runs (w.forCall tape i) w.heap.size i.args ds gs before hval hw' (hz.weights hw) (hX _ _ _ (by rfl) hx)
 exact ⟨M,last,o,w',t',h1,h2,h3,h4.mono fun v hp=>ChangeSpec.post_blind hp⟩
theorem Claim7.xX (Lk:Looks) {p:Pinned} {s:OpenSpec} {c:OpenClaim} (kinds:List LaidKind) (tests:Bool) (har:Bool × String) (lk g:Bool)
  (hc:c.holds p s) (hw:c.wfByText s=true) (htie:c.laidByTextAt Lk p kinds tests)
  (hst:c.start=.entering) (hnb:c.noBlocks=false∧c.again=false) (hm:p.checked.prog.mainIs=some (har.1,har.2.toList)) (hn:(!har.1 && har.2.isEmpty && !lk)=false)
  (hl:∀ f fn,p.checked.prog.funcNamed c.func=some f→p.checked.prog.funcs[f]? = some fn→lk=p.checked.prog.looks []∧∀ (j:Nat) t,fn.params[j]? = some t→p.checked.prog.wantsStandIn t=false)
  (hg:g=c.goesBy p.checked.prog) :
  Claim7.holds p (.plain s) { stood:={ row:=c,standIns:=[],harness:=har,looks:=lk },kinds:=[],alts:=[],goes:=g,laidByText:=true,laidKinds:=kinds,laidTests:=tests,laidLooks:=Lk }:=by
 have h6:Claim7.isSixth { stood:={ row:=c,standIns:=[],harness:=har,looks:=lk },kinds:=[] }=false:=by simpa [Claim7.isSixth] using hn
 exact ⟨Claim7.tied_new_at Lk kinds tests (Claim7.new_of_sixth hc har lk hst hnb hm h6 hl) hw,(fun D hD=>(nomatch hD)),htie,(fun h=>by cases h),hg⟩
theorem Si {a b:Bool} (h1:a=true) (h2:b=true):(a && b)=true:=by rw [h1,h2];rfl
end
end Go
namespace Go.Proofs.YtjjmefieegcddaaDoor
open Go Go.Tm Go.Conc Go.Sr Go.ChangeShapes Go.WideShapes Go.RowKit Go.Wg Go.Mm
def cleaned (w:World):World:={ w with heap:=w.heap.map fun o=>if strange o then Tm.clean else o }
theorem tq (w:World) (i:Nat):(cleaned w).heap[i]? = (w.heap[i]?).map fun o=>if strange o then Tm.clean else o:=by
 show (w.heap.map _)[i]? = _
 rw [Array.getElem?_map]
theorem yV (w:World):(cleaned w).heap.size=w.heap.size:=by
 show (w.heap.map _).size=_
 rw [Array.size_map]
theorem Gm (w:World):Tm.Alike w (fun _=>False) w (cleaned w):=by
 refine ⟨rfl,rfl,rfl,rfl,yV w,Nat.le_refl _,fun i=>?_,fun i h=>h.elim⟩
 rw [tq]
 cases hi:w.heap[i]? with
 | none=>exact .inl ⟨rfl,fun o _ h=>by cases h⟩
 | some o =>
  by_cases ho:strange o=true
  ·exact .inr ⟨o,ho,rfl,rfl,by simp [ho]⟩
  ·refine .inl ⟨by simp [ho],fun o' hs h=>?_⟩
   cases h
   exact (ho hs).elim
theorem uM (w:World):ay OC (cleaned w):=by
 intro i o h
 rw [tq] at h
 obtain ⟨x,_,rfl⟩:=Option.map_eq_some_iff.1 h
 cases x <;> simp [strange,lQ]
def Ar (w:World):View:=fun k=>match w.heap[k]? with
 | some o=>if strange o then none else some o
 | none=>none
theorem Hg (w:World):(Ar w).In (cleaned w):=by
 intro k o h
 rw [tq]
 unfold Ar at h
 cases hk:w.heap[k]? with
 | none=>rw [hk] at h;cases h
 | some x =>
  rw [hk] at h
  dsimp only at h
  split at h
  ·cases h
  ·next hs =>
   cases h
   simp [hs]
theorem BP {w:World} {b i:Nat} {v:Value} (h:w.cell? ⟨b,i,none⟩=some v):(Ar w).Cell b i v:=by
 unfold World.cell? at h
 dsimp only at h
 cases hb:w.heap[b]? with
 | none=>rw [hb] at h;cases h
 | some o =>
  rw [hb] at h
  cases o <;> first | (cases h;done) | skip
  rename_i c t fr
  exact ⟨c,t,fr,by unfold Ar;rw [hb];rfl,h⟩
theorem X5 {w v v1:World} (h:Tm.Alike w (fun _=>False) v v1) (k:Kp (cleaned w) v1):Kp w v:=by
 refine ⟨h.os.symm.trans k.os,h.output.symm.trans k.output,h.size0,fun i hi=>?_⟩
 have hk:=k.old i (by rw [yV];exact hi)
 rw [tq] at hk
 rcases h.obj i with ⟨e,hn⟩ | ⟨o,_,h2,h3,_⟩
 ·cases hx:w.heap[i]? with
  | none=>rw [Array.getElem?_eq_getElem hi] at hx;cases hx
  | some o =>
   rw [hx] at hk
   by_cases ho:strange o=true
   ·refine (hn o ho hx ?_).elim
    rw [hk]
    simp [ho]
   ·rw [← e,hk]
    simp [ho]
 ·rw [h2,h3]
theorem good_row {f:FuncId} {args:Array Value} {W:World} (hf:Tryd.prog.inits.idxOf? f=none)
  (h:kL Tryd.prog f args (cleaned W) fun r w'=>r=.returned (.bool true)∧Kp (cleaned W) w') :
  ∃ N last o w' t',runNT Tryd.prog (N+1) (solo (G (Frame.enter Tryd.prog f args .normal) []) W) #[]=(.ended o w',t')∧runN Tryd.prog N (solo (G (Frame.enter Tryd.prog f args .normal) []) W)=.next last ∧
   step Tryd.prog last=.ended o w'∧Conc.Good Tryd.prog (fun v w'=>v=.bool true∧Kp W w') last o w' t' :=
 S9 (Post:=fun v w'=>v=.bool true∧Kp (cleaned W) w') aaq (Gm W) (uM W) (fun _ _ _ ha hp=>⟨hp.1,X5 ha hp.2⟩)
  (DF hf (fun _ _ _ hp=>⟨hp.1,⟨hp.2.os,hp.2.output,hp.2.size,hp.2.old⟩⟩) (h.mono fun _ _ hr=>⟨_,hr.1,rfl,hr.2⟩))
theorem aaV:ownKnob Tryd.prog.godebug=none:=by kernel_rfl
theorem abt:Tryd.prog.globalNamed "errors.errorType" = some 0:=by kernel_rfl
theorem abv:(Tryd.prog.cutTypes.find? (·.1 == "internal/reflectlite.rtype")).map (·.2)=some 187:=by kernel_rfl
theorem oneRow:((List.range 230).filter fun t=>Tryd.prog.rowNamed t [101,114,114,111,114])=[155]:=by kernel_rfl
theorem Y1:Tryd.prog.types.size=230:=by kernel_rfl
theorem aaF:Wg.gN=1:=by
 show Tryd.prog.globals.size=1
 kernel_rfl
abbrev DT:List (String × DataW Unit):=[("errors.errorType", Rows.laid_errors_errorType)]
theorem handle_of_laid {W:World} (h:laidMetH Tryd.prog DT W):W.cell? ⟨0,0,none⟩=some XF:=by
 have h':laidMet Tryd.prog [] W∧handlesMet Tryd.prog DT W:=h
 obtain ⟨name,u,ty,e1,e2,e3,e4,e5⟩:=h'.2 _ (List.mem_singleton.2 rfl)
 have en:name=[101,114,114,111,114]:=(Option.some.inj e1).symm
 subst en
 obtain rfl:=Option.some.inj (abv.symm.trans e2)
 have hm:ty∈(List.range 230).filter fun t=>Tryd.prog.rowNamed t [101,114,114,111,114]:=List.mem_filter.2 ⟨List.mem_range.2 (by rw [← Y1];exact e3),e4⟩
 rw [oneRow] at hm
 obtain rfl:=List.mem_singleton.1 hm
 have hh:typeHandle Tryd.prog 155=.pointer (some ⟨1,155,none⟩):=by kernel_rfl
 rw [hh] at e5
 simpa using World.var?_cell abt e5 0
theorem NP {W:World} (h:laidMetH Tryd.prog DT W):Bs (Ar W)∧Wg.gN≤(cleaned W).heap.size:=by
 have hc:=BP (handle_of_laid h)
 obtain ⟨c,t,fr,h1,h2⟩:=hc
 refine ⟨⟨⟨c,t,fr,h1,h2⟩,⟨_,by rw [aaF];exact h1⟩⟩,?_⟩
 rw [aaF]
 have:=Hg W 0 _ h1
 exact (Array.getElem?_eq_some_iff.1 this).1
noncomputable def laidWorld (os:Os):World :=
 let w0:=World.holding Tryd.prog os ⟨#[],#[],[]⟩
 { w0 with heap:=w0.heap.modify 0 fun
   | .cells _ t frozen=>.cells #[XF] t frozen
   | o=>o }
theorem laidWorld_met (os:Os) (args:Array Value):laidMetH Tryd.prog DT ((laidWorld os).forCall (fun _ _=>0) ⟨#[],args,[]⟩).memory :=
 laidMetH_of_parts (laidMet_nil _ _) (by kernel_rfl)
theorem Tc:laidOutB Tryd.prog=true:=by kernel_rfl
section
variable {H:Type} {enc:TypeId × Value→H} {W W':World}
theorem Bv (k:Kp W W'):Below W.heap.size W { W' with tape:=W.tape }:=⟨k.os,rfl,k.output,k.size,k.old⟩
theorem FK (k:Kp W W'):∀ {ts:List TypeId} {vs:List Value} {ds:List (DataW H)} {ps:List MemPlace},DataW.TrodAll enc Tryd.prog W 0 (fun _=>true) true ts vs ds ps →
  (∀ t∈ts,Tryd.prog.readableRec t=true∧t < Tryd.prog.types.size)→(∀ x∈ps,x.block < W.heap.size)→DataW.TrodAll enc Tryd.prog W' 0 (fun b=>decide (b < W.heap.size)) true ts vs ds ps
 | [],vs,ds,ps,h,_,_=>by
  obtain ⟨rfl,rfl,rfl⟩:=trodAll_nil h
  exact trodAll_mk0
 | t :: ts,vs,ds,ps,h,ht,hp=>by
  obtain ⟨v,vs',d,ds',p,p',rfl,rfl,rfl,h1,h2⟩:=trodAll_cons h
  have hb:=Bv k
  have:=Below.trod Tc (ht t (by simp)).1 (ht t (by simp)).2 h1 hb (fun x hx=>hp x (by simp [hx]))
  exact ⟨p,p',DataW.Trod.of_heap (w:={ W' with tape:=W.tape }) (w':=W') rfl this,FK k h2 (fun t ht'=>ht t (by simp [ht'])) fun x hx=>hp x (by simp [hx]),rfl⟩
theorem Ym {s:ChangeSpec} {fn:Func} {args:Array Value} {ds:List (DataW H)} {before:List MemPlace} (hr:fn.resultTypes=#[4]) (hts:∀ t∈fn.params.toList,Tryd.prog.readableRec t=true∧t < Tryd.prog.types.size) (hs:s.vars=[])
  (hW:DataW.Whole enc Tryd.prog fn.params.toList s.vars false W args.toList ds [] before) (hk:Kp W W') (e:s.fn H ds={ results:=[.lit (.bool true)],args:=ds }):s.post enc Tryd.prog fn false true false false W args (.bool true) W':=by
 have hW0:=hW
 obtain ⟨p,q,hA,hV,rfl,_,_⟩:=hW
 have hlt:∀ x∈p,x.block < W.heap.size:=fun x hx=>hA.lt x hx
 have hb:=Bv hk
 have hkb:∀ may,W.keptBut W' may:=fun may=>by
  have h:=hb.frame may
  unfold World.keptBut at h ⊢
  exact h
 have e':s.fn H (ds ++ [])={ results:=[.lit (.bool true)],args:=ds }:=by rw [List.append_nil];exact e
 refine ⟨ds,[],_,[],p,[],hW0,?_,?_,?_,hkb _,fun h=>by cases h⟩
 ·rw [e',hr]
  exact trodAll_mk1 (shut_bool Tryd.underlying4 true)
 ·rw [e']
  exact FK hk hA hts hlt
 ·rw [e',hs]
  rfl
end
theorem P7 {H:Type} {enc:TypeId × Value→H} {W:World} {a0:Option Addr} {len cap:Nat} {d:DataW H} {p:List MemPlace} (h:DataW.Trod enc Tryd.prog W 0 (fun _=>true) true 30 (.slice a0 len cap) d p) :
  ∃ l:List Int,VI (Ar W) (.slice a0 len cap) l:=by
 obtain ⟨fuel,hf⟩:=h
 rcases open_ints Tryd.underlying30 Tryd.underlying3 (show Tryd.prog.cellsOf 3=1 by kernel_rfl) hf with ⟨hcs,_⟩ | ⟨a,len',cap',zs,hcs,_,hl,hm,hz,_,hcell,_⟩
 ·simp [Value.cells] at hcs
  obtain ⟨rfl,rfl,rfl⟩:=hcs
  exact ⟨[],⟨⟨none,0,rfl,Nat.le_refl _,Nat.zero_le _,fun h=>absurd h (Nat.lt_irrefl _)⟩⟩⟩
 ·simp [Value.cells] at hcs
  obtain ⟨rfl,rfl,rfl⟩:=hcs
  simp only [if_true] at hz
  have hlen:(zs.take len).length=len:=by rw [List.length_take];omega
  refine ⟨zs.take len,⟨⟨some a,cap,by rw [hlen],by rw [hlen];exact hl,hm,fun hpos=>?_⟩⟩⟩
  rw [hlen] at hpos
  have hc0:=hcell 0 (by omega)
  obtain ⟨g,off,spot⟩:=a
  have hsp:spot=none:=by
   cases spot with
   | none=>rfl
   | some s =>
    unfold World.cell? at hc0
    simp only [Addr.add] at hc0
    split at hc0 <;> simp at hc0
  subst hsp
  refine ⟨g,off,rfl,fun i hi=>?_⟩
  rw [hlen] at hi
  intro j v hj
  have hj0:j=0:=by
   rcases j with _ | j
   ·rfl
   ·simp at hj
  subst hj0
  simp only [List.getElem?_cons_zero,Option.some.injEq] at hj
  subst hj
  have:=hcell i (by omega)
  have e:(zs.take len).getD i 0=zs.getD i 0:=by
   simp [List.getD_eq_getElem?_getD,List.getElem?_take,hi]
  rw [e]
  have e2:(⟨g,off,none⟩:Addr).add i=⟨g,off+i,none⟩:=by
   unfold Addr.add
   split <;> simp_all
  rw [e2] at this
  simpa using BP this
end Go.Proofs.YtjjmefieegcddaaDoor
namespace Go.Proofs.YtjjmefieegcddaaDoor
open Go.RowKit Go.Wg Go.Mm
variable {w:World} {V:View}
end Go.Proofs.YtjjmefieegcddaaDoor
