/- A part of the proof: X4. -/
import Derived.Test.YtjjmefieegcddaaDoorB16
import Derived.Test.YtjjmefieegcddaaDoorB20
import Derived.Test.YtjjmefieegcddaaDoorCards
import Derived.Test.YtjjmefieegcddaaDoorTie
import Derived.SevenTiedAt
set_option linter.unusedVariables false
set_option linter.unusedSimpArgs false
namespace Go.Proofs.YtjjmefieegcddaaDoor
open Go Go.Tm Go.Conc Go.Sr Go.ChangeShapes Go.WideShapes Go.RowKit Go.Wg Go.Mm
set_option maxRecDepth 100000 in
theorem knot_lifted (os:Os) (started:os.Started) (H:Type) (enc:TypeId × Value→H) :
  ReturnsInLeavingWide {} Tryd.checked os 4 .any (fun w args=>(Rows.weighKnotSpec.pre enc Tryd.prog Tryd.f4 [] false w args∧laidMetH Tryd.prog laidL w)∧sizedMet enc Tryd.prog Tryd.f4 (OpenSpec.ofChange Rows.weighKnotSpec) false w args)
   (Rows.weighKnotSpec.post enc Tryd.prog Tryd.f4 false true false false):=by
 refine returnsInLeavingWide_of_change_and (C:=Tryd.checked) (X:=fun w _=>laidMetH Tryd.prog laidL w) (fun _ _ _ hh h=>h.of_heap hh) ownOk started Tryd.func4
  (ChangeSpec.witness_at (enc:=enc) (C:=Tryd.checked) (os:=os) (X:=fun w _=>laidMetH Tryd.prog laidL w) false (laidWorld os) #[.slice none 0 0] 8 rfl (by kernel_rfl) (by kernel_rfl) (by kernel_rfl) (by kernel_rfl) (by kernel_rfl) (laidWorld_met os _)) ?_
 intro W base args ds gs before hval0 hW _ hL
 have hval:∀ (j:Nat) t v,Tryd.f4.params[j]? = some t→args[j]? = some v→Value.okWide Tryd.prog W .any base t v:=hval0
 have hW':=hW
 obtain ⟨p,q,hA0,hV0,rfl,_,_⟩:=hW
 have hA:DataW.TrodAll enc Tryd.prog W 0 (fun _=>true) true Tryd.f4.params.toList args.toList ds p:=hA0
 obtain ⟨rfl,rfl⟩:=trodVars_none hV0
 rw [Tryd.params4] at hA hval
 obtain ⟨v0,d0,rfl,rfl,h0⟩:=trodAll_one hA
 obtain ⟨a0,len,cap,rfl⟩:=okWide_slice Tryd.underlying30 (hval 0 30 v0 rfl rfl)
 obtain ⟨l,hl⟩:=vi_of_trod h0
 obtain ⟨hB,hg⟩:=bs_of_laid hL
 obtain ⟨M,last,o,w',t',h1,h2,h3,h4⟩:=good_row (by kernel_rfl) (knot_B hB hg hl (seenOf_in W) (heapOk_cleaned W))
 refine ⟨M,last,o,w',t',h1,h2,h3,h4.mono fun v hp=>?_⟩
 obtain ⟨rfl,hk⟩:=hp
 refine post_kp (by kernel_rfl) (fun t ht=>?_) rfl hW' hk rfl
 rw [Tryd.params4] at ht
 obtain rfl:=List.mem_singleton.1 ht
 exact ⟨by kernel_rfl,of_decide_eq_true (by kernel_rfl)⟩
set_option maxHeartbeats 4000000 in
theorem knot_facts:joinedFacts Tryd.pinned.checked.prog 4 Tryd.f4 Rows.weighKnotSpec Rows.weighKnotRow=true:=by
 unfold joinedFacts
 repeat' (with_reducible apply facts_and)
 all_goals as_aux_lemma=>kernel_rfl
theorem knot_named:Tryd.pinned.checked.prog.funcNamed Rows.weighKnotRow.func=some 4:=by kernel_rfl
theorem knot_inst:Tryd.f4.isInstance Tryd.pinned.checked.prog Rows.weighKnotRow.origin Rows.weighKnotRow.targs:=of_decide_eq_true (by kernel_rfl)
theorem knot_wrap:Tryd.f4.isWrapper Tryd.pinned.checked.prog Rows.weighKnotRow.wrapper Rows.weighKnotRow.mainSum:=by
 unfold Func.isWrapper
 rw [if_neg (by decide +kernel)]
 exact ⟨rfl,rfl⟩
theorem knot_row:Rows.WeighKnotSaid :=
 OpenClaim.holds_of_wide_leaving 4 Tryd.f4 rfl rfl rfl rfl rfl rfl rfl ⟨rfl,rfl,rfl,rfl,rfl⟩ rfl rfl rfl rfl rfl knot_named Tryd.func4 knot_facts knot_inst knot_wrap
  (fun os started H enc _=>knot_lifted os started H enc)
end Go.Proofs.YtjjmefieegcddaaDoor
