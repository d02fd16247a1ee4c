/- Package duress: the small functions. -/
import Derived.Test.YtllabahapaeedaaDoorDField
import Derived.Test.YtllabahapaeedaaDoorGroupHash
import Derived.Test.YtllabahapaeedaaDoorCodec5
namespace Go.Proofs.YtllabahapaeedaaDoor
open Go.RowKit
set_option linter.unusedVariables false
namespace Du
def num (n : Int) : Bool := decide (0 ≤ n ∧ n < 1073741789)
def right (a b c : Int) : Bool := num a && num b && decide (1 ≤ c ∧ c < 1073741789)
def poss (d n : Int) : Bool := decide (0 ≤ d ∧ d < 4096 ∧ 0 ≤ n ∧ n ≤ 1048576)
def tag (a b c h : Int) (co : Bool) : Int := if co then Fm.ad (Fm.ad a (Fm.ml b h)) c else Fm.ad a (Fm.ml b h)
theorem num_iff {n : Int} : num n = true ↔ 0 ≤ n ∧ n < 1073741789 := by simp [num]
theorem right_iff {a b c : Int} : right a b c = true ↔ (0 ≤ a ∧ a < 1073741789) ∧ (0 ≤ b ∧ b < 1073741789) ∧ (1 ≤ c ∧ c < 1073741789) := by simp [right, num]; omega
theorem poss_iff {d n : Int} : poss d n = true ↔ 0 ≤ d ∧ d < 4096 ∧ 0 ≤ n ∧ n ≤ 1048576 := by simp [poss]
end Du
theorem number_any (n : Int) (w : World) : Calls Tryd.prog 26 #[.int .i64 n] w fun e w' => e = .returned (.bool (Du.num n)) ∧ w = w' := by
  by_cases h1 : 0 ≤ n
  · by_cases h2 : n < 1073741789
    · have H := Lib.hid (show Du.num n = true by simp [Du.num, h1, h2])
      go_enter Tryd.func26, Tryd.ntmps26
      go_wp2
      go_ret
      exact ⟨ret_bool H.out.symm, rfl⟩
    · have H := Lib.hid (show Du.num n = false by simp [Du.num]; omega)
      have h3 : 1073741789 ≤ n := by omega
      go_enter Tryd.func26, Tryd.ntmps26
      go_wp2
      go_ret
      exact ⟨ret_bool H.out.symm, rfl⟩
  · have H := Lib.hid (show Du.num n = false by simp [Du.num]; omega)
    have h3 : n < 0 := by omega
    go_enter Tryd.func26, Tryd.ntmps26
    go_wp2
    go_ret
    exact ⟨ret_bool H.out.symm, rfl⟩
theorem possible_any (d n : Int) (w : World) : Calls Tryd.prog 27 #[.int .i64 d, .int .i64 n] w fun e w' => e = .returned (.bool (Du.poss d n)) ∧ w = w' := by
  by_cases h1 : 0 ≤ d
  · by_cases h2 : d < 4096
    · by_cases h3 : 0 ≤ n
      · by_cases h4 : n ≤ 1048576
        · have H := Lib.hid (show Du.poss d n = true by simp [Du.poss]; omega)
          go_enter Tryd.func27, Tryd.ntmps27
          go_wp2
          go_ret
          exact ⟨ret_bool H.out.symm, rfl⟩
        · have H := Lib.hid (show Du.poss d n = false by simp [Du.poss]; omega)
          have h5 : 1048576 < n := by omega
          go_enter Tryd.func27, Tryd.ntmps27
          go_wp2
          go_ret
          exact ⟨ret_bool H.out.symm, rfl⟩
      · have H := Lib.hid (show Du.poss d n = false by simp [Du.poss]; omega)
        have h5 : n < 0 := by omega
        go_enter Tryd.func27, Tryd.ntmps27
        go_wp2
        go_ret
        exact ⟨ret_bool H.out.symm, rfl⟩
    · have H := Lib.hid (show Du.poss d n = false by simp [Du.poss]; omega)
      have h5 : 4096 ≤ d := by omega
      go_enter Tryd.func27, Tryd.ntmps27
      go_wp2
      go_ret
      exact ⟨ret_bool H.out.symm, rfl⟩
  · have H := Lib.hid (show Du.poss d n = false by simp [Du.poss]; omega)
    have h5 : d < 0 := by omega
    go_enter Tryd.func27, Tryd.ntmps27
    go_wp2
    go_ret
    exact ⟨ret_bool H.out.symm, rfl⟩
def silV (a b c : Int) : Value := .agg #[.int .i64 a, .int .i64 b, .int .i64 c]
theorem right_any (a b c : Int) (w : World) : Calls Tryd.prog 33 #[silV a b c] w fun e w' => e = .returned (.bool (Du.right a b c)) ∧ Below w.heap.size w w' := by
  unfold silV
  cases ha : Du.num a with
  | false =>
    have H := Lib.hid (show Du.right a b c = false by simp [Du.right, ha])
    have HA := Lib.hid ha
    clear ha
    go_enter Tryd.func33, Tryd.ntmps33
    go_wp2_with (go_at_call 26; refine (number_any _ _).mono ?_; rintro e w' ⟨he, rfl⟩; rw [HA.out] at he; subst he)
    go_ret
    exact ⟨ret_bool H.out.symm, (Below.refl _ _).alloc (Nat.le_refl _) _⟩
  | true =>
    have HA := Lib.hid ha
    cases hb : Du.num b with
    | false =>
      have H := Lib.hid (show Du.right a b c = false by simp [Du.right, hb])
      have HB := Lib.hid hb
      clear ha hb
      go_enter Tryd.func33, Tryd.ntmps33
      go_wp2_with fail
      refine (number_any _ _).mono ?_
      rintro e w' ⟨he, rfl⟩; rw [HA.out] at he; subst he
      go_wp2_with fail
      refine (number_any _ _).mono ?_
      rintro e w' ⟨he, rfl⟩; rw [HB.out] at he; subst he
      go_wp2
      go_ret
      exact ⟨ret_bool H.out.symm, (Below.refl _ _).alloc (Nat.le_refl _) _⟩
    | true =>
      have HB := Lib.hid hb
      by_cases h1 : 1 ≤ c
      · by_cases h2 : c < 1073741789
        · have H := Lib.hid (show Du.right a b c = true by simp [Du.right, ha, hb, h1, h2])
          clear ha hb
          go_enter Tryd.func33, Tryd.ntmps33
          go_wp2_with fail
          refine (number_any _ _).mono ?_
          rintro e w' ⟨he, rfl⟩; rw [HA.out] at he; subst he
          go_wp2_with fail
          refine (number_any _ _).mono ?_
          rintro e w' ⟨he, rfl⟩; rw [HB.out] at he; subst he
          go_wp2
          go_ret
          exact ⟨ret_bool H.out.symm, (Below.refl _ _).alloc (Nat.le_refl _) _⟩
        · have H := Lib.hid (show Du.right a b c = false by simp [Du.right]; omega)
          have h3 : 1073741789 ≤ c := by omega
          clear ha hb
          go_enter Tryd.func33, Tryd.ntmps33
          go_wp2_with fail
          refine (number_any _ _).mono ?_
          rintro e w' ⟨he, rfl⟩; rw [HA.out] at he; subst he
          go_wp2_with fail
          refine (number_any _ _).mono ?_
          rintro e w' ⟨he, rfl⟩; rw [HB.out] at he; subst he
          go_wp2
          go_ret
          exact ⟨ret_bool (by rw [H.out]; simp; omega), (Below.refl _ _).alloc (Nat.le_refl _) _⟩
      · have H := Lib.hid (show Du.right a b c = false by simp [Du.right]; omega)
        have h3 : c < 1 := by omega
        clear ha hb
        go_enter Tryd.func33, Tryd.ntmps33
        go_wp2_with fail
        refine (number_any _ _).mono ?_
        rintro e w' ⟨he, rfl⟩; rw [HA.out] at he; subst he
        go_wp2_with fail
        refine (number_any _ _).mono ?_
        rintro e w' ⟨he, rfl⟩; rw [HB.out] at he; subst he
        go_wp2
        go_ret
        exact ⟨ret_bool H.out.symm, (Below.refl _ _).alloc (Nat.le_refl _) _⟩
theorem ad_zero (a b : Int) : Fm.ad (Fm.ad 0 a) b = Fm.ad a b := by unfold Fm.ad; omega
theorem dsum_two (g : Nat) (a b : Int) (w : World) (h0 : w.cell? ⟨g, 0, none⟩ = some (.int .i64 a)) (h1 : w.cell? ⟨g, 1, none⟩ = some (.int .i64 b)) (hg : g < w.heap.size) :
    Calls Tryd.prog 28 #[.slice (some ⟨g, 0, none⟩) 2 2] w fun e w' => e = .returned (.int .i64 (Fm.ad a b)) ∧ Below w.heap.size w w' := by
  have H := Lib.hid (ad_zero a b)
  go_enter Tryd.func28, Tryd.ntmps28
  go_wp2
  refine wp_loop_rounds 3 ?_
  rw [rounds_succ]
  go_wp2_with (go_at_call 19; (with_reducible refine (add_any _ _ _).mono ?_); rintro e w' ⟨rfl, rfl⟩)
  rw [rounds_succ]
  have h1a : (w.alloc (.cells #[.int .i64 0, .int .i64 a] 3)).cell? ⟨g, 1, none⟩ = some (.int .i64 b) := by rw [World.cell?_alloc_lt _ _ _ hg]; exact h1
  go_wp2_with (go_at_call 19; (with_reducible refine (add_any _ _ _).mono ?_); rintro e w' ⟨rfl, rfl⟩)
  rw [rounds_succ]
  go_wp2
  go_ret
  exact ⟨ret_int H.out, ((Below.refl _ _).alloc (Nat.le_refl _) _).alloc (by simp) _⟩
theorem dsum_new (a b : Int) (w : World) : Calls Tryd.prog 28 #[.slice (some ⟨w.heap.size, 0, none⟩) 2 2] (w.alloc (.cells #[.int .i64 a, .int .i64 b] 3))
    fun e w' => e = .returned (.int .i64 (Fm.ad a b)) ∧ Below (w.heap.size + 1) (w.alloc (.cells #[.int .i64 a, .int .i64 b] 3)) w' := by
  have h := dsum_two w.heap.size a b (w.alloc (.cells #[.int .i64 a, .int .i64 b] 3)) (alloc_cell0 w _ _ _) (alloc_cell1 w _ _ _ _) (by simp)
  rwa [World.size_alloc] at h
end Go.Proofs.YtllabahapaeedaaDoor
