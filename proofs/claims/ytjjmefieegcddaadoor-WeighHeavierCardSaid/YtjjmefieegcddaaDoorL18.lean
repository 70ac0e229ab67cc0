/- WeighHeavier: on every schedule the call returns true and each argument reads afterwards as it read before. Condition: the variable errors.errorType begins as the program's text lays it (the card ties it). -/
import Derived.Test.YtjjmefieegcddaaDoorL17
set_option linter.unusedVariables false
set_option linter.unusedSimpArgs false
set_option maxHeartbeats 8000000
namespace Go.Proofs.YtjjmefieegcddaaDoor
open Go
set_option maxRecDepth 100000
theorem ahX:Rows.weighHeavierRow.wfByText (OpenSpec.ofChange Rows.weighHeavierSpec)=true:=by kernel_rfl
theorem ahT:Tryd.pinned.checked.prog.mainIs=some (true, "978fa20f6f16e7e64022fe03bf5878814e49ad04a4fd46f998d3b4e1790764ec".toList):=by kernel_rfl
theorem ahF:true=Tryd.pinned.checked.prog.looks []:=by kernel_rfl
theorem ahS:Tryd.pinned.checked.prog.wantsStandIn 30=false:=by kernel_rfl
theorem ahP:true=Rows.weighHeavierRow.goesBy Tryd.pinned.checked.prog:=by kernel_rfl
theorem heavier_holds:Rows.WeighHeavierCardSaid :=
 Claim7.xX .later [.handle] true (true, "978fa20f6f16e7e64022fe03bf5878814e49ad04a4fd46f998d3b4e1790764ec") true true
  ahV ahX weighHeavier_row_tie rfl ⟨rfl,rfl⟩ ahT rfl
  (fun f fn hf hfn=>by
   obtain rfl:f=12:=Option.some.inj (ahp.symm.trans hf) |>.symm
   obtain rfl:fn=Tryd.f12:=(Option.some.inj (Tryd.func12.symm.trans hfn)).symm
   exact⟨ahF,fun j t ht=>by
    rw[Tryd.params12]at ht
    have h3:t=30:=by
     rcases j with _|j
     ·simpa using ht.symm
     ·simp at ht
    subst h3
    exact ahS⟩)
  ahP
end Go.Proofs.YtjjmefieegcddaaDoor
