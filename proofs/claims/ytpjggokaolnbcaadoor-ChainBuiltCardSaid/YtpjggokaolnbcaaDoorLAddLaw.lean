/- Plain laws of what is added to a chain. -/
import Derived.Test.YtpjggokaolnbcaaDoorLPartLaw
namespace Go.Proofs.YtpjggokaolnbcaaDoor
open Go.RowKit
set_option linter.unusedVariables false
namespace Ch
theorem gk_app_lt {L M : List LkV} {k : Nat} (hk : k < L.length) : gk (L ++ M) k = gk L k := by
  unfold gk
  rw [List.getD_eq_getElem?_getD, List.getD_eq_getElem?_getD, List.getElem?_append_left hk]
theorem gk_app_new {L : List LkV} {x : LkV} : gk (L ++ [x]) L.length = x := by
  unfold gk
  rw [List.getD_eq_getElem?_getD]
  simp
theorem gk_take {L : List LkV} {k j : Nat} (hk : j < k) : gk (L.take k) j = gk L j := by
  unfold gk
  rw [List.getD_eq_getElem?_getD, List.getD_eq_getElem?_getD, List.getElem?_take, if_pos hk]
theorem allB_iff {K : Sh.Cst} {L : List LkV} : allB K L = true ↔ ∀ k, k < L.length → passB K L k k = true := by
  unfold allB
  rw [List.all_eq_true]
  exact ⟨fun h k hk => h k (List.mem_range.2 hk), fun h k hk => h k (List.mem_range.1 hk)⟩
theorem allB_nil (K : Sh.Cst) : allB K [] = true := allB_iff.2 (fun k hk => absurd hk (Nat.not_lt_zero k))
theorem allB_take {K : Sh.Cst} {L : List LkV} (h : allB K L = true) (k : Nat) : allB K (L.take k) = true := by
  rw [allB_iff] at *
  intro j hj
  have hj' : j < k ∧ j < L.length := by rw [List.length_take] at hj; omega
  have := h j hj'.2
  unfold passB at *
  rw [gk_take hj'.1, gk_take (by omega : 0 < k), List.take_take, Nat.min_eq_left (by omega)]
  exact this
theorem allB_snoc {K : Sh.Cst} {L : List LkV} {x : LkV} (h : allB K L = true) (h0 : 0 < L.length → (gk L 0).node = x.node) (hn : 0 ≤ x.node ∧ x.node < 24) (ho : x.no = L.length) (hd : x.data.length ≤ 65536) (hp : x.prev = head K L) : allB K (L ++ [x]) = true := by
  rw [allB_iff] at *
  intro j hj
  rw [List.length_append, List.length_singleton] at hj
  by_cases hjl : j < L.length
  · have := h j hjl
    unfold passB at *
    rw [gk_app_lt hjl, gk_app_lt (by omega : 0 < L.length), List.take_append_of_le_length (by omega)]
    exact this
  · obtain rfl : j = L.length := by omega
    have e0 : (gk (L ++ [x]) 0).node = x.node := by
      rcases Nat.eq_zero_or_pos L.length with h1 | h1
      · obtain rfl : L = [] := List.eq_nil_of_length_eq_zero h1
        rfl
      · rw [gk_app_lt h1]; exact h0 h1
    unfold passB
    rw [gk_app_new, e0, List.take_left]
    exact decide_eq_true ⟨rfl, hn.1, hn.2, ho, hd, hp⟩
theorem chk_of {K : Sh.Cst} {L : List LkV} (h : allB K L = true) : chk K L = 0 := by unfold chk; rw [if_pos h]
/-- a first link whose number is not 0 is no chain -/
theorem chk_no {K : Sh.Cst} {x : LkV} {L : List LkV} (h : x.no ≠ 0) : chk K (x :: L) = 80 := by
  unfold chk
  rw [if_neg]
  intro ha
  have := allB_iff.1 ha 0 (by simp)
  unfold passB at this
  have := of_decide_eq_true this
  exact h this.2.2.2.1
theorem text_first (x : LkV) (h1 : x.node = 3) (h2 : x.no = 0) (h3 : x.data = [120]) (hl : x.prev.length = 32) (hb : ∀ b ∈ x.prev, 0 ≤ b ∧ b < 256) : text x = [3, 4, 1, 6, 1, 0, 2, 32] ++ x.prev ++ [2, 1, 120] := by
  have e4 : Cd.numL 4 = [4] := Cd.numL_small (by omega)
  have e32 : Cd.numL 32 = [32] := Cd.numL_small (by omega)
  have e1 : Cd.numL 1 = [1] := Cd.numL_small (by omega)
  have e6 : Cd.numL 6 = [6] := Cd.numL_small (by omega)
  have e0 : Cd.numL 0 = [0] := Cd.numL_small (by omega)
  have u3 : El.enc (.int 3) = [1, 6] := by show _ :: Cd.numL 6 = _; rw [e6]
  have u0 : El.enc (.int 0) = [1, 0] := by show _ :: Cd.numL 0 = _; rw [e0]
  unfold text encEls parts
  rw [h1, h2, h3]
  simp only [List.length_cons, List.length_nil, List.flatMap_cons, List.flatMap_nil, List.append_nil, u3, u0]
  simp only [El.enc, toBA_size, hl, strInts_toBA hb, strInts_toBA (l := [120]) (by intro b hb; simp at hb; omega)]
  simp [e4, e32, e1]
end Ch
end Go.Proofs.YtpjggokaolnbcaaDoor
