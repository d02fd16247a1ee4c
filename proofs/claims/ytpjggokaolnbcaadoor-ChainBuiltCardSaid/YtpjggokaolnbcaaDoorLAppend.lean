/- A link behind others: the plain law of the memory. -/
import Derived.Test.YtpjggokaolnbcaaDoorLGrow
import Derived.Test.YtpjggokaolnbcaaDoorPureHead
namespace Go.Proofs.YtpjggokaolnbcaaDoor
open Go.RowKit
set_option linter.unusedVariables false
theorem head_byt (K : Sh.Cst) (L : List LkV) : ∀ b ∈ Ch.head K L, 0 ≤ b ∧ b < 256 := by
  unfold Ch.head
  split <;> exact fun b hb => Sh.sum_bytes _ _ b hb
theorem lks_append {w : World} {base n : Nat} {t : TypeId} {v : Value} {L : List LkV} {x : LkV} (hall : ∀ y ∈ L, y.ok w w.heap.size) (hx : x.ok w w.heap.size) (hl : L.length = n)
    (h : w.ownsRow base t 35 v (n + 1) (L.flatMap LkV.cells ++ x.cells)) : ∃ G C, v = .slice G (n + 1) C ∧ n + 1 ≤ C ∧ C ≤ maxLen ∧ Lks w w.heap.size G (n + 1) (L ++ [x]) := by
  obtain ⟨hlen, h | ⟨g, cap, cur, rfl, hb, hg, hnc, hcm, hsz, htk⟩⟩ := h
  · omega
  · refine ⟨_, _, rfl, hnc, hcm, by simp [hl], ?_, ?_, ?_⟩
    · intro y hy
      rcases List.mem_append.1 hy with hy | hy
      · exact hall y hy
      · rw [List.mem_singleton] at hy; subst hy; exact hx
    · simpa using hlen
    · intro _
      refine ⟨g, 0, rfl, heap_lt hg, fun j u hj => ?_⟩
      rw [cell_of_row w g _ cur t (0, 0) hg, Nat.zero_add, ← Array.getElem?_toList]
      have hjl : j < (n + 1) * 35 := by
        have := (List.getElem?_eq_some_iff.1 hj).1
        rw [List.flatMap_append] at this
        simp only [List.flatMap_cons, List.flatMap_nil, List.append_nil] at this
        omega
      rw [List.flatMap_append] at hj
      simp only [List.flatMap_cons, List.flatMap_nil, List.append_nil] at hj
      rw [← htk, List.getElem?_take] at hj
      simpa [hjl] using hj
theorem lks_head_cell {w : World} {B n : Nat} {A : Option Addr} {L : List LkV} (h : Lks w B A n L) (hn : 0 < n) : ∃ b o, A = some ⟨b, o, none⟩ ∧ b < B ∧ ∀ i v, (Ch.gk L 0).cells[i]? = some v → w.cell? ⟨b, o + i, none⟩ = some v := by
  obtain ⟨x, hx⟩ : ∃ x, L[0]? = some x := ⟨L[0]'(by rw [h.len]; omega), List.getElem?_eq_getElem _⟩
  obtain ⟨b, o, e, hb, hc⟩ := h.at hx
  refine ⟨b, o, e, hb, fun i v hv => ?_⟩
  have : Ch.gk L 0 = x := by unfold Ch.gk; simp [List.getD_eq_getElem?_getD, hx]
  rw [this] at hv
  have := hc i v hv
  simpa using this
end Go.Proofs.YtpjggokaolnbcaaDoor
