/- A part of the proof: X24. -/
import Derived.Test.YtjjmefieegcddaaDoorM11
import Derived.Test.YtjjmefieegcddaaDoorM15
import Derived.Test.YtjjmefieegcddaaDoorCards
import Derived.Test.YtjjmefieegcddaaDoorTie
import Derived.SevenTiedAt
set_option linter.unusedVariables false
set_option linter.unusedSimpArgs false
set_option maxHeartbeats 8000000
namespace Go.Proofs.YtjjmefieegcddaaDoor
open Go Go.Tm Go.Conc Go.Sr Go.ChangeShapes Go.WideShapes Go.RowKit Go.Wg Go.Mm
set_option maxRecDepth 100000 in
theorem all_lifted (os:Os) (started:os.Started) (H:Type) (enc:TypeId × Value->H) :
  ReturnsInLeavingWide {} Tryd.checked os 17 .any (fun w args=>(Rows.weighAllSpec.pre enc Tryd.prog Tryd.f17 [] false w args/\laidMetH Tryd.prog DT w)/\sizedMet enc Tryd.prog Tryd.f17 (OpenSpec.ofChange Rows.weighAllSpec) false w args)
   (Rows.weighAllSpec.post enc Tryd.prog Tryd.f17 false true false false):=by
 refine kE (C:=Tryd.checked) (X:=fun w _=>laidMetH Tryd.prog DT w) (fun _ _ _ hh h=>h.of_heap hh) aaV started Tryd.func17
  (ChangeSpec.witness_at (enc:=enc) (C:=Tryd.checked) (os:=os) (X:=fun w _=>laidMetH Tryd.prog DT w) false (laidWorld os) #[.slice none 0 0] 8 rfl (by kernel_rfl) (by kernel_rfl) (by kernel_rfl) (by kernel_rfl) (by kernel_rfl) (laidWorld_met os _)) ?_
 intro W base args ds gs before hval0 hW _ hL;have hval:∀ (j:Nat) t v,Tryd.f17.params[j]? = some t->args[j]? = some v->Value.okWide Tryd.prog W .any base t v:=hval0;have hW':=hW;obtain⟨p,q,hA0,hV0,rfl,_,_⟩:=hW;have hA:DataW.TrodAll enc Tryd.prog W 0 (fun _=>true) true Tryd.f17.params.toList args.toList ds p:=hA0;obtain⟨rfl,rfl⟩:=trodVars_none hV0;rw[Tryd.params17]at hA hval;obtain⟨v0,d0,rfl,rfl,h0⟩:=trodAll_one hA;obtain⟨a0,len,cap,rfl⟩:=okWide_slice Tryd.underlying30 (hval 0 30 v0 rfl rfl);obtain⟨l,hl⟩:=P7 h0;obtain⟨hB,hg⟩:=NP hL;obtain⟨M,last,o,w',t',h1,h2,h3,h4⟩:=good_row (by kernel_rfl) (ajL hB hg hl (Hg W) (uM W));refine⟨M,last,o,w',t',h1,h2,h3,h4.mono fun v hp=>?_⟩;obtain⟨rfl,hk⟩:=hp;refine Ym (by kernel_rfl) (fun t ht=>?_) rfl hW' hk rfl;rw[Tryd.params17]at ht;obtain rfl:=List.mem_singleton.1 ht;exact⟨by kernel_rfl,of_decide_eq_true (by kernel_rfl)⟩
theorem ai5:joinedFacts Tryd.pinned.checked.prog 17 Tryd.f17 Rows.weighAllSpec Rows.weighAllRow=true:=by
 unfold joinedFacts;repeat' (with_reducible apply Si)
 all_goals as_aux_lemma=>kernel_rfl
theorem aiB:Tryd.pinned.checked.prog.funcNamed Rows.weighAllRow.func=some 17:=by kernel_rfl
theorem aje:Tryd.f17.isInstance Tryd.pinned.checked.prog Rows.weighAllRow.origin Rows.weighAllRow.targs:=of_decide_eq_true (by kernel_rfl)
theorem ai9:Tryd.f17.isWrapper Tryd.pinned.checked.prog Rows.weighAllRow.wrapper Rows.weighAllRow.mainSum:=by
 unfold Func.isWrapper;rw[if_neg (by decide +kernel)];exact⟨rfl,rfl⟩
theorem ajp:Rows.WeighAllSaid :=
 OpenClaim.holds_of_wide_leaving 17 Tryd.f17 rfl rfl rfl rfl rfl rfl rfl ⟨rfl,rfl,rfl,rfl,rfl⟩ rfl rfl rfl rfl rfl aiB Tryd.func17 ai5 aje ai9
  (fun os started H enc _=>all_lifted os started H enc)
end Go.Proofs.YtjjmefieegcddaaDoor
