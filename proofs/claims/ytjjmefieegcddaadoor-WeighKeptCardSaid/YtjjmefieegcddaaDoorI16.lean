/- A part of the proof: X16. -/
import Derived.Test.YtjjmefieegcddaaDoorI11
import Derived.Test.YtjjmefieegcddaaDoorI15
import Derived.Test.YtjjmefieegcddaaDoorCards
import Derived.Test.YtjjmefieegcddaaDoorTie
import Derived.SevenTiedAt
set_option linter.unusedVariables false
set_option linter.unusedSimpArgs false
set_option maxHeartbeats 8000000
namespace Go.Proofs.YtjjmefieegcddaaDoor
open Go Go.Tm Go.Conc Go.Sr Go.ChangeShapes Go.WideShapes Go.RowKit Go.Wg Go.Mm
set_option maxRecDepth 100000 in
theorem ad5 (os:Os) (started:os.Started) (H:Type) (enc:TypeId × Value→H) :
  ReturnsInLeavingWide {} Tryd.checked os 7 .any (fun w args=>(Rows.weighKeptSpec.pre enc Tryd.prog Tryd.f7 [] false w args∧laidMetH Tryd.prog DT w)∧sizedMet enc Tryd.prog Tryd.f7 (OpenSpec.ofChange Rows.weighKeptSpec) false w args)
   (Rows.weighKeptSpec.post enc Tryd.prog Tryd.f7 false true false false):=by
 refine kE (C:=Tryd.checked) (X:=fun w _=>laidMetH Tryd.prog DT w) (fun _ _ _ hh h=>h.of_heap hh) aaV started Tryd.func7
  (ChangeSpec.witness_at (enc:=enc) (C:=Tryd.checked) (os:=os) (X:=fun w _=>laidMetH Tryd.prog DT w) false (laidWorld os) #[.slice none 0 0] 8 rfl (by kernel_rfl) (by kernel_rfl) (by kernel_rfl) (by kernel_rfl) (by kernel_rfl) (laidWorld_met os _)) ?_
 intro W base args ds gs before hval0 hW _ hL
 have hval:∀ (j:Nat) t v,Tryd.f7.params[j]? = some t→args[j]? = some v→Value.okWide Tryd.prog W .any base t v:=hval0
 have hW':=hW
 obtain ⟨p,q,hA0,hV0,rfl,_,_⟩:=hW
 have hA:DataW.TrodAll enc Tryd.prog W 0 (fun _=>true) true Tryd.f7.params.toList args.toList ds p:=hA0
 obtain ⟨rfl,rfl⟩:=trodVars_none hV0
 rw [Tryd.params7] at hA hval
 obtain ⟨v0,d0,rfl,rfl,h0⟩:=trodAll_one hA
 obtain ⟨a0,len,cap,rfl⟩:=okWide_slice Tryd.underlying30 (hval 0 30 v0 rfl rfl)
 obtain ⟨l,hl⟩:=P7 h0
 obtain ⟨hB,hg⟩:=NP hL
 obtain ⟨M,last,o,w',t',h1,h2,h3,h4⟩:=good_row (by kernel_rfl) (aeH hB hg hl (Hg W) (uM W))
 refine ⟨M,last,o,w',t',h1,h2,h3,h4.mono fun v hp=>?_⟩
 obtain ⟨rfl,hk⟩:=hp
 refine Ym (by kernel_rfl) (fun t ht=>?_) rfl hW' hk rfl
 rw [Tryd.params7] at ht
 obtain rfl:=List.mem_singleton.1 ht
 exact ⟨by kernel_rfl,of_decide_eq_true (by kernel_rfl)⟩
theorem aej:joinedFacts Tryd.pinned.checked.prog 7 Tryd.f7 Rows.weighKeptSpec Rows.weighKeptRow=true:=by
 unfold joinedFacts
 repeat' (with_reducible apply Si)
 all_goals as_aux_lemma=>kernel_rfl
theorem adN:Tryd.pinned.checked.prog.funcNamed Rows.weighKeptRow.func=some 7:=by kernel_rfl
theorem aep:Tryd.f7.isInstance Tryd.pinned.checked.prog Rows.weighKeptRow.origin Rows.weighKeptRow.targs:=of_decide_eq_true (by kernel_rfl)
theorem aek:Tryd.f7.isWrapper Tryd.pinned.checked.prog Rows.weighKeptRow.wrapper Rows.weighKeptRow.mainSum:=by
 unfold Func.isWrapper
 rw [if_neg (by decide +kernel)]
 exact ⟨rfl,rfl⟩
theorem aeB:Rows.WeighKeptSaid :=
 OpenClaim.holds_of_wide_leaving 7 Tryd.f7 rfl rfl rfl rfl rfl rfl rfl ⟨rfl,rfl,rfl,rfl,rfl⟩ rfl rfl rfl rfl rfl adN Tryd.func7 aej aep aek
  (fun os started H enc _=>ad5 os started H enc)
end Go.Proofs.YtjjmefieegcddaaDoor
