/- WeighCut: on every schedule the call returns true and each argument reads afterwards as it read before. Condition: the variable errors.errorType begins as the program's text lays it (the card ties it). -/
import Derived.Test.YtjjmefieegcddaaDoorC30
set_option linter.unusedVariables false
set_option linter.unusedSimpArgs false
set_option maxHeartbeats 8000000
namespace Go.Proofs.YtjjmefieegcddaaDoor
open Go
set_option maxRecDepth 100000
theorem ZG:Rows.weighCutRow.wfByText (OpenSpec.ofChange Rows.weighCutSpec)=true:=by kernel_rfl
theorem VY:Tryd.pinned.checked.prog.mainIs=some (true, "978fa20f6f16e7e64022fe03bf5878814e49ad04a4fd46f998d3b4e1790764ec".toList):=by kernel_rfl
theorem Sj:true=Tryd.pinned.checked.prog.looks []:=by kernel_rfl
theorem Uy:Tryd.pinned.checked.prog.wantsStandIn 30=false:=by kernel_rfl
theorem WX:true=Rows.weighCutRow.goesBy Tryd.pinned.checked.prog:=by kernel_rfl
theorem cut_holds:Rows.WeighCutCardSaid :=
 Claim7.xX .later [.handle] true (true, "978fa20f6f16e7e64022fe03bf5878814e49ad04a4fd46f998d3b4e1790764ec") true true
  Yc ZG weighCut_row_tie rfl ⟨rfl,rfl⟩ VY rfl
  (fun f fn hf hfn=>by
   obtain rfl:f=9:=Option.some.inj (Gq.symm.trans hf) |>.symm
   obtain rfl:fn=Tryd.f9:=(Option.some.inj (Tryd.func9.symm.trans hfn)).symm
   exact ⟨Sj,fun j t ht=>by
    rw [Tryd.params9] at ht
    have h3:t=30:=by
     rcases j with _ | j
     ·simpa using ht.symm
     ·simp at ht
    subst h3
    exact Uy⟩)
  WX
end Go.Proofs.YtjjmefieegcddaaDoor
