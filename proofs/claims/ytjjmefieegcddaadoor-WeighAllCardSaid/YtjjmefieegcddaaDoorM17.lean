/- WeighAll: on every schedule the call returns true and each argument reads afterwards as it read before. Condition: the variable errors.errorType begins as the program's text lays it (the card ties it). -/
import Derived.Test.YtjjmefieegcddaaDoorM16
set_option linter.unusedVariables false
set_option linter.unusedSimpArgs false
set_option maxHeartbeats 8000000
namespace Go.Proofs.YtjjmefieegcddaaDoor
open Go
set_option maxRecDepth 100000
theorem ajv:Rows.weighAllRow.wfByText (OpenSpec.ofChange Rows.weighAllSpec)=true:=by kernel_rfl
theorem ajd:Tryd.pinned.checked.prog.mainIs=some (true, "978fa20f6f16e7e64022fe03bf5878814e49ad04a4fd46f998d3b4e1790764ec".toList):=by kernel_rfl
theorem ai4:true=Tryd.pinned.checked.prog.looks []:=by kernel_rfl
theorem ajb:Tryd.pinned.checked.prog.wantsStandIn 30=false:=by kernel_rfl
theorem ajm:true=Rows.weighAllRow.goesBy Tryd.pinned.checked.prog:=by kernel_rfl
theorem all_holds:Rows.WeighAllCardSaid :=
 Claim7.xX .later [.handle] true (true, "978fa20f6f16e7e64022fe03bf5878814e49ad04a4fd46f998d3b4e1790764ec") true true
  ajp ajv weighAll_row_tie rfl ⟨rfl,rfl⟩ ajd rfl
  (fun f fn hf hfn=>by
   obtain rfl:f=17:=Option.some.inj (aiB.symm.trans hf) |>.symm;obtain rfl:fn=Tryd.f17:=(Option.some.inj (Tryd.func17.symm.trans hfn)).symm;exact⟨ai4,fun j t ht=>by
    rw[Tryd.params17]at ht;have h3:t=30:=by
     rcases j with _|j
     ·simpa using ht.symm
     ·simp at ht
    subst h3;exact ajb⟩)
  ajm
end Go.Proofs.YtjjmefieegcddaaDoor
