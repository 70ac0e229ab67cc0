/- WeighNumbered: on every schedule the call returns true and each argument reads afterwards as it read before. Condition: the variable errors.errorType begins as the program's text lays it (the card ties it). -/
import Derived.Test.YtjjmefieegcddaaDoorJ16
set_option linter.unusedVariables false
set_option linter.unusedSimpArgs false
set_option maxHeartbeats 8000000
namespace Go.Proofs.YtjjmefieegcddaaDoor
open Go
set_option maxRecDepth 100000
theorem afk:Rows.weighNumberedRow.wfByText (OpenSpec.ofChange Rows.weighNumberedSpec)=true:=by kernel_rfl
theorem ae8:Tryd.pinned.checked.prog.mainIs=some (true, "978fa20f6f16e7e64022fe03bf5878814e49ad04a4fd46f998d3b4e1790764ec".toList):=by kernel_rfl
theorem ae4:true=Tryd.pinned.checked.prog.looks []:=by kernel_rfl
theorem afb:Tryd.pinned.checked.prog.wantsStandIn 30=false:=by kernel_rfl
theorem afc:true=Rows.weighNumberedRow.goesBy Tryd.pinned.checked.prog:=by kernel_rfl
theorem numbered_holds:Rows.WeighNumberedCardSaid :=
 Claim7.xX .later [.handle] true (true, "978fa20f6f16e7e64022fe03bf5878814e49ad04a4fd46f998d3b4e1790764ec") true true
  afi afk weighNumbered_row_tie rfl ⟨rfl,rfl⟩ ae8 rfl
  (fun f fn hf hfn=>by
   obtain rfl:f=13:=Option.some.inj (aeS.symm.trans hf) |>.symm
   obtain rfl:fn=Tryd.f13:=(Option.some.inj (Tryd.func13.symm.trans hfn)).symm
   exact⟨ae4,fun j t ht=>by
    rw[Tryd.params13]at ht
    have h3:t=30:=by
     rcases j with _|j
     ·simpa using ht.symm
     ·simp at ht
    subst h3
    exact afb⟩)
  afc
end Go.Proofs.YtjjmefieegcddaaDoor
