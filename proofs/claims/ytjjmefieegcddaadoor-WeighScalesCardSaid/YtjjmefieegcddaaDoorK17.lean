/- WeighScales: on every schedule the call returns true and each argument reads afterwards as it read before. Condition: the variable errors.errorType begins as the program's text lays it (the card ties it). -/
import Derived.Test.YtjjmefieegcddaaDoorK16
set_option linter.unusedVariables false
set_option linter.unusedSimpArgs false
set_option maxHeartbeats 8000000
namespace Go.Proofs.YtjjmefieegcddaaDoor
open Go
set_option maxRecDepth 100000
theorem agG:Rows.weighScalesRow.wfByText (OpenSpec.ofChange Rows.weighScalesSpec)=true:=by kernel_rfl
theorem agt:Tryd.pinned.checked.prog.mainIs=some (true, "978fa20f6f16e7e64022fe03bf5878814e49ad04a4fd46f998d3b4e1790764ec".toList):=by kernel_rfl
theorem agd:true=Tryd.pinned.checked.prog.looks []:=by kernel_rfl
theorem ags:Tryd.pinned.checked.prog.wantsStandIn 30=false:=by kernel_rfl
theorem agn:true=Rows.weighScalesRow.goesBy Tryd.pinned.checked.prog:=by kernel_rfl
theorem scales_holds:Rows.WeighScalesCardSaid :=
 Claim7.xX .later [.handle] true (true, "978fa20f6f16e7e64022fe03bf5878814e49ad04a4fd46f998d3b4e1790764ec") true true
  agA agG weighScales_row_tie rfl ⟨rfl,rfl⟩ agt rfl
  (fun f fn hf hfn=>by
   obtain rfl:f=15:=Option.some.inj (af2.symm.trans hf) |>.symm
   obtain rfl:fn=Tryd.f15:=(Option.some.inj (Tryd.func15.symm.trans hfn)).symm
   exact ⟨agd,fun j t ht=>by
    rw [Tryd.params15] at ht
    have h3:t=30:=by
     rcases j with _ | j
     ·simpa using ht.symm
     ·simp at ht
    subst h3
    exact ags⟩)
  agn
end Go.Proofs.YtjjmefieegcddaaDoor
