/- A part of the proof: X2. -/
import Derived.Test.YtjjmefieegcddaaDoorA29
import Derived.Test.YtjjmefieegcddaaDoorA35
import Derived.Test.YtjjmefieegcddaaDoorCards
import Derived.Test.YtjjmefieegcddaaDoorTie
import Derived.SevenTiedAt
set_option linter.unusedVariables false
set_option linter.unusedSimpArgs false
namespace Go.Proofs.YtjjmefieegcddaaDoor
open Go Go.Tm Go.Conc Go.Sr Go.ChangeShapes Go.WideShapes Go.RowKit Go.Wg Go.Mm
set_option maxRecDepth 100000 in
theorem stolen_lifted (os:Os) (started:os.Started) (H:Type) (enc:TypeId × Value→H) :
  ReturnsInLeavingWide {} Tryd.checked os 10 .any (fun w args=>(Rows.weighStolenSpec.pre enc Tryd.prog Tryd.f10 [] false w args∧laidMetH Tryd.prog laidL w)∧sizedMet enc Tryd.prog Tryd.f10 (OpenSpec.ofChange Rows.weighStolenSpec) false w args)
   (Rows.weighStolenSpec.post enc Tryd.prog Tryd.f10 false true false false):=by
 refine returnsInLeavingWide_of_change_and (C:=Tryd.checked) (X:=fun w _=>laidMetH Tryd.prog laidL w) (fun _ _ _ hh h=>h.of_heap hh) ownOk started Tryd.func10
  (ChangeSpec.witness_at (enc:=enc) (C:=Tryd.checked) (os:=os) (X:=fun w _=>laidMetH Tryd.prog laidL w) false (laidWorld os) #[.slice none 0 0] 8 rfl (by kernel_rfl) (by kernel_rfl) (by kernel_rfl) (by kernel_rfl) (by kernel_rfl) (laidWorld_met os _)) ?_
 intro W base args ds gs before hval0 hW _ hL
 have hval:∀ (j:Nat) t v,Tryd.f10.params[j]? = some t→args[j]? = some v→Value.okWide Tryd.prog W .any base t v:=hval0
 have hW':=hW
 obtain ⟨p,q,hA0,hV0,rfl,_,_⟩:=hW
 have hA:DataW.TrodAll enc Tryd.prog W 0 (fun _=>true) true Tryd.f10.params.toList args.toList ds p:=hA0
 obtain ⟨rfl,rfl⟩:=trodVars_none hV0
 rw [Tryd.params10] at hA hval
 obtain ⟨v0,d0,rfl,rfl,h0⟩:=trodAll_one hA
 obtain ⟨a0,len,cap,rfl⟩:=okWide_slice Tryd.underlying30 (hval 0 30 v0 rfl rfl)
 obtain ⟨l,hl⟩:=vi_of_trod h0
 obtain ⟨hB,hg⟩:=bs_of_laid hL
 obtain ⟨M,last,o,w',t',h1,h2,h3,h4⟩:=good_row (by kernel_rfl) (stolen_B hB hg hl (seenOf_in W) (heapOk_cleaned W))
 refine ⟨M,last,o,w',t',h1,h2,h3,h4.mono fun v hp=>?_⟩
 obtain ⟨rfl,hk⟩:=hp
 refine post_kp (by kernel_rfl) (fun t ht=>?_) rfl hW' hk rfl
 rw [Tryd.params10] at ht
 obtain rfl:=List.mem_singleton.1 ht
 exact ⟨by kernel_rfl,of_decide_eq_true (by kernel_rfl)⟩
set_option maxHeartbeats 4000000 in
theorem stolen_facts:joinedFacts Tryd.pinned.checked.prog 10 Tryd.f10 Rows.weighStolenSpec Rows.weighStolenRow=true:=by
 unfold joinedFacts
 repeat' (with_reducible apply facts_and)
 all_goals as_aux_lemma=>kernel_rfl
theorem stolen_named:Tryd.pinned.checked.prog.funcNamed Rows.weighStolenRow.func=some 10:=by kernel_rfl
theorem stolen_inst:Tryd.f10.isInstance Tryd.pinned.checked.prog Rows.weighStolenRow.origin Rows.weighStolenRow.targs:=of_decide_eq_true (by kernel_rfl)
theorem stolen_wrap:Tryd.f10.isWrapper Tryd.pinned.checked.prog Rows.weighStolenRow.wrapper Rows.weighStolenRow.mainSum:=by
 unfold Func.isWrapper
 rw [if_neg (by decide +kernel)]
 exact ⟨rfl,rfl⟩
theorem stolen_row:Rows.WeighStolenSaid :=
 OpenClaim.holds_of_wide_leaving 10 Tryd.f10 rfl rfl rfl rfl rfl rfl rfl ⟨rfl,rfl,rfl,rfl,rfl⟩ rfl rfl rfl rfl rfl stolen_named Tryd.func10 stolen_facts stolen_inst stolen_wrap
  (fun os started H enc _=>stolen_lifted os started H enc)
end Go.Proofs.YtjjmefieegcddaaDoor
