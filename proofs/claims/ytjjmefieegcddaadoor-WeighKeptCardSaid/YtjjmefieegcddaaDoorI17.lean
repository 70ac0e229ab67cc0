/- WeighKept: on every schedule the call returns true and each argument reads afterwards as it read before. Condition: the variable errors.errorType begins as the program's text lays it (the card ties it). -/
import Derived.Test.YtjjmefieegcddaaDoorI16
set_option linter.unusedVariables false
set_option linter.unusedSimpArgs false
set_option maxHeartbeats 8000000
namespace Go.Proofs.YtjjmefieegcddaaDoor
open Go
set_option maxRecDepth 100000
theorem aeF:Rows.weighKeptRow.wfByText (OpenSpec.ofChange Rows.weighKeptSpec)=true:=by kernel_rfl
theorem aeo:Tryd.pinned.checked.prog.mainIs=some (true, "978fa20f6f16e7e64022fe03bf5878814e49ad04a4fd46f998d3b4e1790764ec".toList):=by kernel_rfl
theorem ad9:true=Tryd.pinned.checked.prog.looks []:=by kernel_rfl
theorem aer:Tryd.pinned.checked.prog.wantsStandIn 30=false:=by kernel_rfl
theorem aew:true=Rows.weighKeptRow.goesBy Tryd.pinned.checked.prog:=by kernel_rfl
theorem kept_holds:Rows.WeighKeptCardSaid :=
 Claim7.xX .later [.handle] true (true, "978fa20f6f16e7e64022fe03bf5878814e49ad04a4fd46f998d3b4e1790764ec") true true
  aeB aeF weighKept_row_tie rfl ⟨rfl,rfl⟩ aeo rfl
  (fun f fn hf hfn=>by
   obtain rfl:f=7:=Option.some.inj (adN.symm.trans hf) |>.symm
   obtain rfl:fn=Tryd.f7:=(Option.some.inj (Tryd.func7.symm.trans hfn)).symm
   exact ⟨ad9,fun j t ht=>by
    rw [Tryd.params7] at ht
    have h3:t=30:=by
     rcases j with _ | j
     ·simpa using ht.symm
     ·simp at ht
    subst h3
    exact aer⟩)
  aew
end Go.Proofs.YtjjmefieegcddaaDoor
