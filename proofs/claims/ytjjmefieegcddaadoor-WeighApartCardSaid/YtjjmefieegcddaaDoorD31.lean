/- WeighApart: on every schedule the call returns true and each argument reads afterwards as it read before. Condition: the variable errors.errorType begins as the program's text lays it (the card ties it). -/
import Derived.Test.YtjjmefieegcddaaDoorD30
set_option linter.unusedVariables false
set_option linter.unusedSimpArgs false
set_option maxHeartbeats 8000000
namespace Go.Proofs.YtjjmefieegcddaaDoor
open Go
set_option maxRecDepth 100000
theorem acJ:Rows.weighApartRow.wfByText (OpenSpec.ofChange Rows.weighApartSpec)=true:=by kernel_rfl
theorem acn:Tryd.pinned.checked.prog.mainIs=some (true, "978fa20f6f16e7e64022fe03bf5878814e49ad04a4fd46f998d3b4e1790764ec".toList):=by kernel_rfl
theorem ab6:true=Tryd.pinned.checked.prog.looks []:=by kernel_rfl
theorem aci:Tryd.pinned.checked.prog.wantsStandIn 30=false:=by kernel_rfl
theorem acr:true=Rows.weighApartRow.goesBy Tryd.pinned.checked.prog:=by kernel_rfl
theorem apart_holds:Rows.WeighApartCardSaid :=
 Claim7.xX .later [.handle] true (true, "978fa20f6f16e7e64022fe03bf5878814e49ad04a4fd46f998d3b4e1790764ec") true true
  acG acJ weighApart_row_tie rfl ⟨rfl,rfl⟩ acn rfl
  (fun f fn hf hfn=>by
   obtain rfl:f=6:=Option.some.inj (abe.symm.trans hf) |>.symm
   obtain rfl:fn=Tryd.f6:=(Option.some.inj (Tryd.func6.symm.trans hfn)).symm
   exact ⟨ab6,fun j t ht=>by
    rw [Tryd.params6] at ht
    have h3:t=30:=by
     rcases j with _ | j
     ·simpa using ht.symm
     ·simp at ht
    subst h3
    exact aci⟩)
  acr
end Go.Proofs.YtjjmefieegcddaaDoor
