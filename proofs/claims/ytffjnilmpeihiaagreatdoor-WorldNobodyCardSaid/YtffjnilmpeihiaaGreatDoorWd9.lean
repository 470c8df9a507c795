/- A world that nobody made does nothing, and does not fail: the tied card. No condition. -/
import Derived.Test.YtffjnilmpeihiaaGreatDoorWd8r
set_option linter.unusedVariables false
namespace Go.Proofs.YtffjnilmpeihiaaGreatDoor
open Go
theorem goes_card : false = Rows.worldNobodyRow.goesBy Tryz.pinned.checked.prog := by
  have h : Tryz.prog.goesFrom Rows.worldNobodyRow.func = false := goes_from _
  show false = (Tryz.prog.goesFrom Rows.worldNobodyRow.func || false)
  rw [h]
  rfl
theorem worldNobody_card : Rows.WorldNobodyCardSaid :=
  Claim7.holds_tied_plain_at .later [] [.data, .data, .data, .data, .pinned] true (true, "6b6b97d2328bdefc7e4ceacf2870aeeed6bbe8817620f5492f50313fe2c4b5d6") true
    worldNobody_holds (fun _ h => by cases h) (by kernel_rfl) (fun _ h => by cases h) worldNobody_row_tie rfl ⟨rfl, rfl⟩ (by kernel_rfl) rfl
    (fun f fn hf hfn => by
      obtain rfl : f = 3 := Option.some.inj ((show Tryz.prog.funcNamed "chainman/chainmanlaw41.WorldNobody" = some 3 by kernel_rfl).symm.trans hf) |>.symm
      obtain rfl : fn = Tryz.f3 := (Option.some.inj (Tryz.func3.symm.trans hfn)).symm
      exact ⟨by kernel_rfl, fun j t ht => by
        rw [Tryz.params3] at ht
        have hm : t ∈ [25] := by simpa using Array.mem_of_getElem? ht
        have hall : ([25].all fun u => !Tryz.prog.wantsStandIn u) = true := by kernel_rfl
        exact (show Tryz.prog.wantsStandIn t = false by simpa using List.all_eq_true.1 hall t hm)⟩)
    goes_card
#print axioms worldNobody_card
end Go.Proofs.YtffjnilmpeihiaaGreatDoor
