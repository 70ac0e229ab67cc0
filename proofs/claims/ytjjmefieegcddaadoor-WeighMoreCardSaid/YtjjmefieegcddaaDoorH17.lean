/- WeighMore: on every schedule the call returns true and each argument reads afterwards as it read before. Condition: the variable errors.errorType begins as the program's text lays it (the card ties it). -/
import Derived.Test.YtjjmefieegcddaaDoorH16
set_option linter.unusedVariables false
set_option linter.unusedSimpArgs false
set_option maxHeartbeats 8000000
namespace Go.Proofs.YtjjmefieegcddaaDoor
open Go
set_option maxRecDepth 100000
theorem ac8:Rows.weighMoreRow.wfByText (OpenSpec.ofChange Rows.weighMoreSpec)=true:=by kernel_rfl
theorem acI:Tryd.pinned.checked.prog.mainIs=some (true, "978fa20f6f16e7e64022fe03bf5878814e49ad04a4fd46f998d3b4e1790764ec".toList):=by kernel_rfl
theorem acs:true=Tryd.pinned.checked.prog.looks []:=by kernel_rfl
theorem acG:Tryd.pinned.checked.prog.wantsStandIn 30=false:=by kernel_rfl
theorem acE:true=Rows.weighMoreRow.goesBy Tryd.pinned.checked.prog:=by kernel_rfl
theorem more_holds:Rows.WeighMoreCardSaid :=
 Claim7.xX .later [.handle] true (true, "978fa20f6f16e7e64022fe03bf5878814e49ad04a4fd46f998d3b4e1790764ec") true true
  ac4 ac8 weighMore_row_tie rfl ⟨rfl,rfl⟩ acI rfl
  (fun f fn hf hfn=>by
   obtain rfl:f=14:=Option.some.inj (abC.symm.trans hf) |>.symm
   obtain rfl:fn=Tryd.f14:=(Option.some.inj (Tryd.func14.symm.trans hfn)).symm
   exact ⟨acs,fun j t ht=>by
    rw [Tryd.params14] at ht
    have h3:t=30:=by
     rcases j with _ | j
     ·simpa using ht.symm
     ·simp at ht
    subst h3
    exact acG⟩)
  acE
end Go.Proofs.YtjjmefieegcddaaDoor
