/- WeighStolen: on every schedule the call returns true and each argument reads afterwards as it read before. Condition: the variable errors.errorType begins as the program's text lays it (the card ties it). -/
import Derived.Test.YtjjmefieegcddaaDoorA36
set_option linter.unusedVariables false
set_option linter.unusedSimpArgs false
namespace Go.Proofs.YtjjmefieegcddaaDoor
open Go
set_option maxRecDepth 100000
theorem stolen_wf:Rows.weighStolenRow.wfByText (OpenSpec.ofChange Rows.weighStolenSpec)=true:=by kernel_rfl
theorem stolen_main:Tryd.pinned.checked.prog.mainIs=some (true, "978fa20f6f16e7e64022fe03bf5878814e49ad04a4fd46f998d3b4e1790764ec".toList):=by kernel_rfl
theorem stolen_looks:true=Tryd.pinned.checked.prog.looks []:=by kernel_rfl
theorem stolen_want:Tryd.pinned.checked.prog.wantsStandIn 30=false:=by kernel_rfl
theorem stolen_goes:true=Rows.weighStolenRow.goesBy Tryd.pinned.checked.prog:=by kernel_rfl
theorem stolen_holds:Rows.WeighStolenCardSaid :=
 Claim7.holds_tied_goes_at .later [.handle] true (true, "978fa20f6f16e7e64022fe03bf5878814e49ad04a4fd46f998d3b4e1790764ec") true true
  stolen_row stolen_wf weighStolen_row_tie rfl ⟨rfl,rfl⟩ stolen_main rfl
  (fun f fn hf hfn=>by
   obtain rfl:f=10:=Option.some.inj (stolen_named.symm.trans hf) |>.symm
   obtain rfl:fn=Tryd.f10:=(Option.some.inj (Tryd.func10.symm.trans hfn)).symm
   exact ⟨stolen_looks,fun j t ht=>by
    rw [Tryd.params10] at ht
    have h3:t=30:=by
     rcases j with _ | j
     ·simpa using ht.symm
     ·simp at ht
    subst h3
    exact stolen_want⟩)
  stolen_goes
end Go.Proofs.YtjjmefieegcddaaDoor
