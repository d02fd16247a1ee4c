/- The reference's checks of duress: Number, Occasion, Right. -/
import Derived.Test.YtllabahapaeedaaDoorDuSane
namespace Go.Proofs.YtllabahapaeedaaDoor
open Go.RowKit
set_option linter.unusedVariables false
theorem rnum_any (n : Int) (w : World) : Calls Tryd.prog 17 #[.int .i64 n] w fun e w' => e = .returned (.bool (Du.num n)) ∧ w = w' := by
  by_cases h1 : 0 ≤ n
  · by_cases h2 : n < 1073741789
    · have H := Lib.hid (show Du.num n = true by simp [Du.num, h1, h2])
      go_enter Tryd.func17, Tryd.ntmps17
      go_wp2
      go_ret
      exact ⟨ret_bool H.out.symm, rfl⟩
    · have H := Lib.hid (show Du.num n = false by simp [Du.num]; omega)
      have h3 : 1073741789 ≤ n := by omega
      go_enter Tryd.func17, Tryd.ntmps17
      go_wp2
      go_ret
      exact ⟨ret_bool H.out.symm, rfl⟩
  · have H := Lib.hid (show Du.num n = false by simp [Du.num]; omega)
    have h3 : n < 0 := by omega
    go_enter Tryd.func17, Tryd.ntmps17
    go_wp2
    go_ret
    exact ⟨ret_bool H.out.symm, rfl⟩
theorem rocc_any (d n : Int) (w : World) : Calls Tryd.prog 16 #[.int .i64 d, .int .i64 n] w fun e w' => e = .returned (.bool (Du.poss d n)) ∧ w = w' := by
  by_cases h1 : 0 ≤ d
  · by_cases h2 : d < 4096
    · by_cases h3 : 0 ≤ n
      · by_cases h4 : n ≤ 1048576
        · have H := Lib.hid (show Du.poss d n = true by simp [Du.poss]; omega)
          go_enter Tryd.func16, Tryd.ntmps16
          go_wp2
          go_ret
          exact ⟨ret_bool H.out.symm, rfl⟩
        · have H := Lib.hid (show Du.poss d n = false by simp [Du.poss]; omega)
          have h5 : 1048576 < n := by omega
          go_enter Tryd.func16, Tryd.ntmps16
          go_wp2
          go_ret
          exact ⟨ret_bool H.out.symm, rfl⟩
      · have H := Lib.hid (show Du.poss d n = false by simp [Du.poss]; omega)
        have h5 : n < 0 := by omega
        go_enter Tryd.func16, Tryd.ntmps16
        go_wp2
        go_ret
        exact ⟨ret_bool H.out.symm, rfl⟩
    · have H := Lib.hid (show Du.poss d n = false by simp [Du.poss]; omega)
      have h5 : 4096 ≤ d := by omega
      go_enter Tryd.func16, Tryd.ntmps16
      go_wp2
      go_ret
      exact ⟨ret_bool H.out.symm, rfl⟩
  · have H := Lib.hid (show Du.poss d n = false by simp [Du.poss]; omega)
    have h5 : d < 0 := by omega
    go_enter Tryd.func16, Tryd.ntmps16
    go_wp2
    go_ret
    exact ⟨ret_bool H.out.symm, rfl⟩
theorem rright_any (a b c : Int) (w : World) : Calls Tryd.prog 15 #[silV a b c] w fun e w' => e = .returned (.bool (Du.right a b c)) ∧ Below w.heap.size w w' := by
  unfold silV
  cases ha : Du.num a with
  | false =>
    have H := Lib.hid (show Du.right a b c = false by simp [Du.right, ha])
    have HA := Lib.hid ha
    clear ha
    go_enter Tryd.func15, Tryd.ntmps15
    go_wp2_with (go_at_call 17; refine (rnum_any _ _).mono ?_; rintro e w' ⟨he, rfl⟩; rw [HA.out] at he; subst he)
    go_ret
    exact ⟨ret_bool H.out.symm, (Below.refl _ _).alloc (Nat.le_refl _) _⟩
  | true =>
    have HA := Lib.hid ha
    cases hb : Du.num b with
    | false =>
      have H := Lib.hid (show Du.right a b c = false by simp [Du.right, hb])
      have HB := Lib.hid hb
      clear ha hb
      go_enter Tryd.func15, Tryd.ntmps15
      go_wp2_with fail
      refine (rnum_any _ _).mono ?_
      rintro e w' ⟨he, rfl⟩; rw [HA.out] at he; subst he
      go_wp2_with fail
      refine (rnum_any _ _).mono ?_
      rintro e w' ⟨he, rfl⟩; rw [HB.out] at he; subst he
      go_wp2
      go_ret
      exact ⟨ret_bool H.out.symm, (Below.refl _ _).alloc (Nat.le_refl _) _⟩
    | true =>
      have HB := Lib.hid hb
      by_cases h1 : 1 ≤ c
      · by_cases h2 : c < 1073741789
        · have H := Lib.hid (show Du.right a b c = true by simp [Du.right, ha, hb, h1, h2])
          clear ha hb
          go_enter Tryd.func15, Tryd.ntmps15
          go_wp2_with fail
          refine (rnum_any _ _).mono ?_
          rintro e w' ⟨he, rfl⟩; rw [HA.out] at he; subst he
          go_wp2_with fail
          refine (rnum_any _ _).mono ?_
          rintro e w' ⟨he, rfl⟩; rw [HB.out] at he; subst he
          go_wp2
          go_ret
          exact ⟨ret_bool H.out.symm, (Below.refl _ _).alloc (Nat.le_refl _) _⟩
        · have H := Lib.hid (show Du.right a b c = false by simp [Du.right]; omega)
          have h3 : 1073741789 ≤ c := by omega
          clear ha hb
          go_enter Tryd.func15, Tryd.ntmps15
          go_wp2_with fail
          refine (rnum_any _ _).mono ?_
          rintro e w' ⟨he, rfl⟩; rw [HA.out] at he; subst he
          go_wp2_with fail
          refine (rnum_any _ _).mono ?_
          rintro e w' ⟨he, rfl⟩; rw [HB.out] at he; subst he
          go_wp2
          go_ret
          exact ⟨ret_bool (by rw [H.out]; simp; omega), (Below.refl _ _).alloc (Nat.le_refl _) _⟩
      · have H := Lib.hid (show Du.right a b c = false by simp [Du.right]; omega)
        have h3 : c < 1 := by omega
        clear ha hb
        go_enter Tryd.func15, Tryd.ntmps15
        go_wp2_with fail
        refine (rnum_any _ _).mono ?_
        rintro e w' ⟨he, rfl⟩; rw [HA.out] at he; subst he
        go_wp2_with fail
        refine (rnum_any _ _).mono ?_
        rintro e w' ⟨he, rfl⟩; rw [HB.out] at he; subst he
        go_wp2
        go_ret
        exact ⟨ret_bool H.out.symm, (Below.refl _ _).alloc (Nat.le_refl _) _⟩
end Go.Proofs.YtllabahapaeedaaDoor
