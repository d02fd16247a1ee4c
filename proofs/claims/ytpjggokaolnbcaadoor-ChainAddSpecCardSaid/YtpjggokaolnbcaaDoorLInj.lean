/- Texts of links: equal texts, equal links. The plain laws of ChainEqual and ChainChanged. -/
import Derived.Test.YtpjggokaolnbcaaDoorLRefEncode
import Derived.Test.YtpjggokaolnbcaaDoorLSaneLaw
namespace Go.Proofs.YtpjggokaolnbcaaDoor
open Go.RowKit
set_option linter.unusedVariables false
theorem numL_inj : ∀ (u v : Nat) (r s : List Int), Cd.numL u ++ r = Cd.numL v ++ s → u = v ∧ r = s := by
  intro u
  induction u using Nat.strongRecOn with
  | ind u ih =>
    intro v r s h
    by_cases hu : u < 128
    · by_cases hv : v < 128
      · rw [Cd.numL_small hu, Cd.numL_small hv] at h
        simp only [List.cons_append, List.nil_append, List.cons.injEq] at h
        exact ⟨by omega, h.2⟩
      · rw [Cd.numL_small hu, Cd.numL_big hv, or128 v] at h
        simp only [List.cons_append, List.nil_append, List.cons.injEq] at h
        have := h.1
        omega
    · by_cases hv : v < 128
      · rw [Cd.numL_small hv, Cd.numL_big hu, or128 u] at h
        simp only [List.cons_append, List.nil_append, List.cons.injEq] at h
        have := h.1
        omega
      · rw [Cd.numL_big hu, Cd.numL_big hv, or128 u, or128 v] at h
        simp only [List.cons_append, List.cons.injEq] at h
        obtain ⟨h1, h2⟩ := h
        obtain ⟨h3, h4⟩ := ih (u / 128) (by omega) (v / 128) r s h2
        exact ⟨by omega, h4⟩
theorem uns_inj {y z : Int} (h : uns y = uns z) : y = z := by
  unfold uns at h
  split at h <;> split at h <;> omega
theorem strInts_inj {s t : ByteArray} (h : strInts s = strInts t) : s = t := by
  unfold strInts at h
  apply ByteArray.ext
  apply Array.toList_inj.1
  exact (List.map_inj_right (fun a b hab => UInt8.toNat_inj.1 (by omega))).1 h
theorem enc_inj {x y : El} {r s : List Int} (h : x.enc ++ r = y.enc ++ s) : x = y ∧ r = s := by
  cases x with
  | int a =>
    cases y with
    | int b =>
      simp only [El.enc, List.cons_append, List.cons.injEq, true_and] at h
      obtain ⟨h1, h2⟩ := numL_inj _ _ _ _ h
      exact ⟨by rw [uns_inj h1], h2⟩
    | txt t => simp [El.enc] at h
  | txt a =>
    cases y with
    | int b => simp [El.enc] at h
    | txt b =>
      simp only [El.enc, List.append_assoc, List.cons_append, List.nil_append, List.cons.injEq, true_and] at h
      obtain ⟨h1, h2⟩ := numL_inj _ _ _ _ h
      have hl : (strInts a).length = (strInts b).length := by rw [strInts_length, strInts_length, h1]
      obtain ⟨h3, h4⟩ := List.append_inj h2 hl
      exact ⟨by rw [strInts_inj h3], h4⟩
namespace Ch
theorem text_inj {x y : LkV} (hx : (∀ b ∈ x.prev, 0 ≤ b ∧ b < 256) ∧ ∀ b ∈ x.data, 0 ≤ b ∧ b < 256) (hy : (∀ b ∈ y.prev, 0 ≤ b ∧ b < 256) ∧ ∀ b ∈ y.data, 0 ≤ b ∧ b < 256) (h : text x = text y) : sameV x y = true := by
  unfold text encEls parts at h
  simp only [List.length_cons, List.length_nil] at h
  have h0 := List.append_cancel_left h
  simp only [List.flatMap_cons, List.flatMap_nil] at h0
  obtain ⟨e1, h1⟩ := enc_inj h0
  obtain ⟨e2, h2⟩ := enc_inj h1
  obtain ⟨e3, h3⟩ := enc_inj h2
  obtain ⟨e4, _⟩ := enc_inj h3
  injection e1 with e1
  injection e2 with e2
  injection e3 with e3
  injection e4 with e4
  exact decide_eq_true ⟨e1, e2, (toBA_inj hx.1 hy.1).1 e3, (toBA_inj hx.2 hy.2).1 e4⟩
/-- the bytes of links are bytes -/
def byts (L : List LkV) : Prop := ∀ x ∈ L, (∀ b ∈ x.prev, 0 ≤ b ∧ b < 256) ∧ ∀ b ∈ x.data, 0 ≤ b ∧ b < 256
theorem head_take {K : Sh.Cst} {L : List LkV} {m : Nat} (hm : m < L.length) : head K (L.take (m + 1)) = Sh.tagged K (strInts linkS) (text (gk L m)) := by
  unfold head
  have e : (L.take (m + 1)).getLast? = some (gk L m) := by
    rw [List.take_add_one, (gk_mem hm).2]; simp
  rw [e]
/-- two beginnings of a link at least clash: other texts, one head -/
def clashB (K : Sh.Cst) (L M : List LkV) (i : Nat) : Bool := decide (text (gk L i) ≠ text (gk M i) ∧ head K (L.take (i + 1)) = head K (M.take (i + 1)))
theorem clash_exists {K : Sh.Cst} {L M : List LkV} (hL : allB K L = true) (hM : allB K M = true) (bL : byts L) (bM : byts M) (hlen : L.length = M.length) :
    ∀ m, m ≤ L.length → head K (L.take m) = head K (M.take m) → (∃ j, j < m ∧ sameV (gk L j) (gk M j) = false) → ∃ i, i < m ∧ clashB K L M i = true
  | 0, _, _, ⟨j, hj, _⟩ => absurd hj (Nat.not_lt_zero j)
  | m + 1, hm, hh, ⟨j, hj, hs⟩ => by
    by_cases h : sameV (gk L m) (gk M m) = true
    · have hp : (gk L m).prev = (gk M m).prev := (of_decide_eq_true h).2.2.1
      have pL := allB_iff.1 hL m (by omega)
      have pM := allB_iff.1 hM m (by omega)
      unfold passB at pL pM
      have p1 := (of_decide_eq_true pL).2.2.2.2.2
      have p2 := (of_decide_eq_true pM).2.2.2.2.2
      have hjm : j ≠ m := fun e => by rw [e, h] at hs; cases hs
      obtain ⟨i, hi, hc⟩ := clash_exists hL hM bL bM hlen m (by omega) (by rw [← p1, ← p2, hp]) ⟨j, by omega, hs⟩
      exact ⟨i, by omega, hc⟩
    · refine ⟨m, Nat.lt_succ_self m, decide_eq_true ⟨fun e => h ?_, hh⟩⟩
      exact text_inj (bL _ (gk_mem (by omega)).1) (bM _ (gk_mem (by omega)).1) e
theorem differ_some {L M : List LkV} (hlen : L.length = M.length) (h : sameL L M = false) : ∃ j, j < L.length ∧ sameV (gk L j) (gk M j) = false := by
  by_cases hc : ∃ j, j < L.length ∧ sameV (gk L j) (gk M j) = false
  · exact hc
  · have : sameL L M = true := decide_eq_true ⟨hlen, fun j hj => by
      cases hv : sameV (gk L j) (gk M j) with
      | true => rfl
      | false => exact absurd ⟨j, hj, hv⟩ hc⟩
    rw [this] at h; cases h
end Ch
end Go.Proofs.YtpjggokaolnbcaaDoor
