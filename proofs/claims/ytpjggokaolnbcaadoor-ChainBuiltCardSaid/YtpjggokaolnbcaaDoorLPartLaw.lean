/- Plain laws of Part. -/
import Derived.Test.YtpjggokaolnbcaaDoorLPart2
namespace Go.Proofs.YtpjggokaolnbcaaDoor
open Go.RowKit
set_option linter.unusedVariables false
namespace Ch
theorem sameV_symm (x y : LkV) : sameV x y = sameV y x := by
  unfold sameV
  rw [decide_eq_decide]
  exact ⟨fun h => ⟨h.1.symm, h.2.1.symm, h.2.2.1.symm, h.2.2.2.symm⟩, fun h => ⟨h.1.symm, h.2.1.symm, h.2.2.1.symm, h.2.2.2.symm⟩⟩
theorem firstTo_symm (L M : List LkV) (m : Nat) : firstTo L M m = firstTo M L m := by
  unfold firstTo
  congr 1
  funext k
  rw [sameV_symm]
theorem differ_symm (L M : List LkV) : differ L M = differ M L := by
  unfold differ
  rw [firstTo_symm, Nat.min_comm]
theorem apart_symm (L M : List LkV) : apart L M = apart M L := by
  unfold apart
  rw [decide_eq_decide]
  exact ⟨fun h => ⟨h.2.1, h.1, h.2.2.symm⟩, fun h => ⟨h.2.1, h.1, h.2.2.symm⟩⟩
theorem part_symm (K : Sh.Cst) (L M : List LkV) : part K L M = part K M L := by
  unfold part
  rw [differ_symm L M, apart_symm L M]
  by_cases h : allB K L = true ∧ allB K M = true ∧ apart M L = false
  · rw [if_pos h, if_pos ⟨h.2.1, h.1, h.2.2⟩]
  · rw [if_neg h, if_neg fun g => h ⟨g.2.1, g.1, g.2.2⟩]
theorem firstTo_spec {L M : List LkV} {m k : Nat} (h : firstTo L M m = some k) : k < m ∧ sameTo L M k ∧ sameV (gk L k) (gk M k) = false := by
  by_cases hs : sameTo L M m
  · rw [firstTo_none hs] at h; cases h
  · have hm := List.find?_some h
    have hk := List.mem_of_find?_eq_some h
    rw [List.mem_range] at hk
    simp only [Bool.not_eq_true'] at hm
    refine ⟨hk, fun j hj => ?_, hm⟩
    have h2 := (List.find?_range_eq_some.1 h).2.2 j hj
    simpa using h2
theorem firstTo_no {L M : List LkV} {m : Nat} (h : firstTo L M m = none) : sameTo L M m := by
  intro j hj
  unfold firstTo at h
  rw [List.find?_eq_none] at h
  have := h j (List.mem_range.2 hj)
  simpa using this
theorem part_ok {K : Sh.Cst} {L M : List LkV} (h : (part K L M).2.2 = 0) : part K L M = ((differ L M).getD 0, (differ L M).isSome, 0) := by
  unfold part at h ⊢
  split
  · rfl
  · rename_i hn
    rw [if_neg hn] at h
    cases h
theorem part_bad {K : Sh.Cst} {L M : List LkV} (h : (part K L M).2.2 ≠ 0) : part K L M = (0, false, 80) := by
  unfold part at h ⊢
  split
  · rename_i hn
    rw [if_pos hn] at h
    exact absurd rfl h
  · rfl
end Ch
end Go.Proofs.YtpjggokaolnbcaaDoor
