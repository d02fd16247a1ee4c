/- From the row's condition on the digest's tables to the walks' fact; a heap that meets it. -/
import Derived.Test.YtpjggokaolnbcaaDoorRows
import Derived.Test.YtpjggokaolnbcaaDoorDigAbsorb
import Derived.Lib.LaidTab
import Derived.LaidMore
import Derived.LaidLaws
namespace Go.Proofs.YtpjggokaolnbcaaDoor
open Go.RowKit
set_option linter.unusedVariables false
def laid2 : List (String × DataW Unit) := [("signatory/digest.start", Rows.laid_signatory_digest_start), ("signatory/digest.numbers", Rows.laid_signatory_digest_numbers)]
theorem gStart : Tryd.prog.globalNamed "signatory/digest.start" = some 0 := by kernel_rfl
theorem gNums : Tryd.prog.globalNamed "signatory/digest.numbers" = some 1 := by kernel_rfl
theorem tStart : (Tryd.prog.globals[0]?).map (·.type) = some 71 := by kernel_rfl
theorem tNums : (Tryd.prog.globals[1]?).map (·.type) = some 84 := by kernel_rfl
theorem laid_of {W : World} (h : laidMetH Tryd.prog laid2 W) : Laid W := by
  rw [MakeChecks.laidMetH_plain _ _ _ (by kernel_rfl)] at h
  obtain ⟨ps, ⟨g0, t0, cs0, f0, p0, q0, hg0, ht0, hv0, hd0, ⟨g1, t1, cs1, f1, p1, q1, hg1, ht1, hv1, hd1, _, _⟩, _⟩, _, _⟩ := h
  obtain rfl := Option.some.inj (gStart.symm.trans hg0)
  obtain rfl := Option.some.inj (gNums.symm.trans hg1)
  obtain rfl := Option.some.inj (tStart.symm.trans ht0)
  obtain rfl := Option.some.inj (tNums.symm.trans ht1)
  have e0 := Lib.cells_of_tab (k := .u32) (zs := Sh.Hs) Tryd.underlying71 Tryd.underlying70 (by kernel_rfl) (by kernel_rfl) hd0
  have e1 := Lib.cells_of_tab (k := .u32) (zs := Sh.Ks) Tryd.underlying84 Tryd.underlying70 (by kernel_rfl) (by kernel_rfl) hd1
  have hl0 : Sh.Hs.length = 8 := rfl
  have hl1 : Sh.Ks.length = 64 := rfl
  have n1 : ∀ i, i < 64 → W.cell? ⟨1, i, none⟩ = some (.int .u32 (Sh.K i)) := fun i hi => by
    have hi' : i < Sh.Ks.length := by rw [hl1]; exact hi
    have := World.var?_cell hg1 hv1 i
    rw [this, ← Array.getElem?_toList, e1, List.getElem?_map, List.getElem?_eq_getElem hi']
    unfold Sh.K
    rw [List.getD_eq_getElem?_getD, List.getElem?_eq_getElem hi']
    rfl
  refine ⟨fun i hi => ?_, n1, ?_⟩
  · have hi' : i < Sh.Hs.length := by rw [hl0]; exact hi
    have := World.var?_cell hg0 hv0 i
    rw [this, ← Array.getElem?_toList, e0, List.getElem?_map, List.getElem?_eq_getElem hi']
    rw [List.getD_eq_getElem?_getD, List.getElem?_eq_getElem hi']
    rfl
  · have := World.block_lt_of_cell? W _ (n1 0 (by omega))
    exact this
/-- The door's own heap meets the condition. -/
theorem door_met (os : Os) (args : Array Value) : laidMetH Tryd.prog laid2 ((World.doorLaid Tryd.prog 19 os).forCall (fun _ _ => 0) ⟨#[], args, []⟩).memory :=
  laidMetH_of_parts3 (fuel := 8) (laidMet_of_run' 8 (by kernel_rfl) (by kernel_rfl)) (by kernel_rfl) (by kernel_rfl)
end Go.Proofs.YtpjggokaolnbcaaDoor
