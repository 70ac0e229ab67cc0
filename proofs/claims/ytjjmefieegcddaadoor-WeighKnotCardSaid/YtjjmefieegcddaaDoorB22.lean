/- WeighKnot: on every schedule the call returns true and each argument reads afterwards as it read before. Condition: the variable errors.errorType begins as the program's text lays it (the card ties it). -/
import Derived.Test.YtjjmefieegcddaaDoorB21
set_option linter.unusedVariables false
set_option linter.unusedSimpArgs false
namespace Go.Proofs.YtjjmefieegcddaaDoor
open Go
set_option maxRecDepth 100000
theorem knot_wf:Rows.weighKnotRow.wfByText (OpenSpec.ofChange Rows.weighKnotSpec)=true:=by kernel_rfl
theorem knot_main:Tryd.pinned.checked.prog.mainIs=some (true, "978fa20f6f16e7e64022fe03bf5878814e49ad04a4fd46f998d3b4e1790764ec".toList):=by kernel_rfl
theorem knot_looks:true=Tryd.pinned.checked.prog.looks []:=by kernel_rfl
theorem knot_want:Tryd.pinned.checked.prog.wantsStandIn 30=false:=by kernel_rfl
theorem knot_goes:true=Rows.weighKnotRow.goesBy Tryd.pinned.checked.prog:=by kernel_rfl
theorem knot_holds:Rows.WeighKnotCardSaid :=
 Claim7.holds_tied_goes_at .later [.handle] true (true, "978fa20f6f16e7e64022fe03bf5878814e49ad04a4fd46f998d3b4e1790764ec") true true
  knot_row knot_wf weighKnot_row_tie rfl ⟨rfl,rfl⟩ knot_main rfl
  (fun f fn hf hfn=>by
   obtain rfl:f=4:=Option.some.inj (knot_named.symm.trans hf) |>.symm
   obtain rfl:fn=Tryd.f4:=(Option.some.inj (Tryd.func4.symm.trans hfn)).symm
   exact ⟨knot_looks,fun j t ht=>by
    rw [Tryd.params4] at ht
    have h3:t=30:=by
     rcases j with _ | j
     ·simpa using ht.symm
     ·simp at ht
    subst h3
    exact knot_want⟩)
  knot_goes
end Go.Proofs.YtjjmefieegcddaaDoor
