/- A part of the proof: X12. -/
import Derived.Test.YtjjmefieegcddaaDoorG14
import Derived.Test.YtjjmefieegcddaaDoorG18
import Derived.Test.YtjjmefieegcddaaDoorCards
import Derived.Test.YtjjmefieegcddaaDoorTie
import Derived.SevenTiedAt
set_option linter.unusedVariables false
set_option linter.unusedSimpArgs false
set_option maxHeartbeats 8000000
namespace Go.Proofs.YtjjmefieegcddaaDoor
open Go Go.Tm Go.Conc Go.Sr Go.ChangeShapes Go.WideShapes Go.RowKit Go.Wg Go.Mm
set_option maxRecDepth 100000 in
theorem next_lifted (os:Os) (started:os.Started) (H:Type) (enc:TypeId × Value→H) :
  ReturnsInLeavingWide {} Tryd.checked os 5 .any (fun w args=>(Rows.weighNextSpec.pre enc Tryd.prog Tryd.f5 [] false w args∧laidMetH Tryd.prog DT w)∧sizedMet enc Tryd.prog Tryd.f5 (OpenSpec.ofChange Rows.weighNextSpec) false w args)
   (Rows.weighNextSpec.post enc Tryd.prog Tryd.f5 false true false false):=by
 refine kE (C:=Tryd.checked) (X:=fun w _=>laidMetH Tryd.prog DT w) (fun _ _ _ hh h=>h.of_heap hh) aaV started Tryd.func5
  (ChangeSpec.witness_at (enc:=enc) (C:=Tryd.checked) (os:=os) (X:=fun w _=>laidMetH Tryd.prog DT w) false (laidWorld os) #[.slice none 0 0] 8 rfl (by kernel_rfl) (by kernel_rfl) (by kernel_rfl) (by kernel_rfl) (by kernel_rfl) (laidWorld_met os _)) ?_
 intro W base args ds gs before hval0 hW _ hL
 have hval:∀ (j:Nat) t v,Tryd.f5.params[j]? = some t→args[j]? = some v→Value.okWide Tryd.prog W .any base t v:=hval0
 have hW':=hW
 obtain ⟨p,q,hA0,hV0,rfl,_,_⟩:=hW
 have hA:DataW.TrodAll enc Tryd.prog W 0 (fun _=>true) true Tryd.f5.params.toList args.toList ds p:=hA0
 obtain ⟨rfl,rfl⟩:=trodVars_none hV0
 rw [Tryd.params5] at hA hval
 obtain ⟨v0,d0,rfl,rfl,h0⟩:=trodAll_one hA
 obtain ⟨a0,len,cap,rfl⟩:=okWide_slice Tryd.underlying30 (hval 0 30 v0 rfl rfl)
 obtain ⟨l,hl⟩:=P7 h0
 obtain ⟨hB,hg⟩:=NP hL
 obtain ⟨M,last,o,w',t',h1,h2,h3,h4⟩:=good_row (by kernel_rfl) (afg hB hg hl (Hg W) (uM W))
 refine ⟨M,last,o,w',t',h1,h2,h3,h4.mono fun v hp=>?_⟩
 obtain ⟨rfl,hk⟩:=hp
 refine Ym (by kernel_rfl) (fun t ht=>?_) rfl hW' hk rfl
 rw [Tryd.params5] at ht
 obtain rfl:=List.mem_singleton.1 ht
 exact ⟨by kernel_rfl,of_decide_eq_true (by kernel_rfl)⟩
theorem aeS:joinedFacts Tryd.pinned.checked.prog 5 Tryd.f5 Rows.weighNextSpec Rows.weighNextRow=true:=by
 unfold joinedFacts
 repeat' (with_reducible apply Si)
 all_goals as_aux_lemma=>kernel_rfl
theorem aeD:Tryd.pinned.checked.prog.funcNamed Rows.weighNextRow.func=some 5:=by kernel_rfl
theorem aeY:Tryd.f5.isInstance Tryd.pinned.checked.prog Rows.weighNextRow.origin Rows.weighNextRow.targs:=of_decide_eq_true (by kernel_rfl)
theorem aeX:Tryd.f5.isWrapper Tryd.pinned.checked.prog Rows.weighNextRow.wrapper Rows.weighNextRow.mainSum:=by
 unfold Func.isWrapper
 rw [if_neg (by decide +kernel)]
 exact ⟨rfl,rfl⟩
theorem afb:Rows.WeighNextSaid :=
 OpenClaim.holds_of_wide_leaving 5 Tryd.f5 rfl rfl rfl rfl rfl rfl rfl ⟨rfl,rfl,rfl,rfl,rfl⟩ rfl rfl rfl rfl rfl aeD Tryd.func5 aeS aeY aeX
  (fun os started H enc _=>next_lifted os started H enc)
end Go.Proofs.YtjjmefieegcddaaDoor
