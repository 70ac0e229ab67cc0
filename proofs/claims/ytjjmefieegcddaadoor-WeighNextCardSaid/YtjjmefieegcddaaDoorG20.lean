/- WeighNext: on every schedule the call returns true and each argument reads afterwards as it read before. Condition: the variable errors.errorType begins as the program's text lays it (the card ties it). -/
import Derived.Test.YtjjmefieegcddaaDoorG19
set_option linter.unusedVariables false
set_option linter.unusedSimpArgs false
set_option maxHeartbeats 8000000
namespace Go.Proofs.YtjjmefieegcddaaDoor
open Go
set_option maxRecDepth 100000
theorem aff:Rows.weighNextRow.wfByText (OpenSpec.ofChange Rows.weighNextSpec)=true:=by kernel_rfl
theorem ae4:Tryd.pinned.checked.prog.mainIs=some (true, "978fa20f6f16e7e64022fe03bf5878814e49ad04a4fd46f998d3b4e1790764ec".toList):=by kernel_rfl
theorem aeR:true=Tryd.pinned.checked.prog.looks []:=by kernel_rfl
theorem ae2:Tryd.pinned.checked.prog.wantsStandIn 30=false:=by kernel_rfl
theorem aeZ:true=Rows.weighNextRow.goesBy Tryd.pinned.checked.prog:=by kernel_rfl
theorem next_holds:Rows.WeighNextCardSaid :=
 Claim7.xX .later [.handle] true (true, "978fa20f6f16e7e64022fe03bf5878814e49ad04a4fd46f998d3b4e1790764ec") true true
  afb aff weighNext_row_tie rfl ⟨rfl,rfl⟩ ae4 rfl
  (fun f fn hf hfn=>by
   obtain rfl:f=5:=Option.some.inj (aeD.symm.trans hf) |>.symm
   obtain rfl:fn=Tryd.f5:=(Option.some.inj (Tryd.func5.symm.trans hfn)).symm
   exact ⟨aeR,fun j t ht=>by
    rw [Tryd.params5] at ht
    have h3:t=30:=by
     rcases j with _ | j
     ·simpa using ht.symm
     ·simp at ht
    subst h3
    exact ae2⟩)
  aeZ
end Go.Proofs.YtjjmefieegcddaaDoor
