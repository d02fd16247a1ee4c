/- The walks of package field's plain functions (Mod, Mul, Inverse and their twins in the reference): what each returns; the world stays as it was. -/
import Derived.Test.YtdajanoikcemoaaChecked
import Derived.WalkKit
import Derived.Handy
import Derived.WalkLawsBesides
import Derived.WalkSpells
import Derived.Outline
import Derived.IntWalk
import Derived.Lib.Hide
import Derived.Deep.LoopGhost
import Derived.Test.YtdajanoikcemoaaFieldMath
namespace Go.Proofs.Ytdajanoikcemoaa
open Go.RowKit

theorem tmod_pos {n : Int} (h : 0 ≤ n.tmod 1073741789) : n.tmod 1073741789 = Fm.md n := by
  unfold Fm.md
  by_cases h0 : 0 ≤ n
  · rw [Int.tmod_eq_emod_of_nonneg h0]
  · obtain ⟨m, rfl⟩ : ∃ m, n = -m := ⟨-n, by omega⟩
    rw [Int.neg_tmod, Int.tmod_eq_emod_of_nonneg (by omega)] at *
    omega
theorem tmod_neg {n : Int} (h : n.tmod 1073741789 < 0) : n.tmod 1073741789 + 1073741789 = Fm.md n ∧ -1073741789 < n.tmod 1073741789 := by
  unfold Fm.md
  by_cases h0 : 0 ≤ n
  · rw [Int.tmod_eq_emod_of_nonneg h0] at h
    omega
  · obtain ⟨m, rfl⟩ : ∃ m, n = -m := ⟨-n, by omega⟩
    rw [Int.neg_tmod, Int.tmod_eq_emod_of_nonneg (by omega)] at *
    omega
theorem ret_int {k : IntKind} {a b : Int} (h : a = b) : Ending.returned (.int k a) = .returned (.int k b) := by rw [h]
theorem ret_bool {a b : Bool} (h : a = b) : Ending.returned (.bool a) = .returned (.bool b) := by rw [h]

theorem mod_any (n : Int) (w : World) : Calls Try.prog 12 #[.int .i64 n] w fun e w' => e = .returned (.int .i64 (Fm.md n)) ∧ w = w' := by
  by_cases h : n.tmod 1073741789 < 0
  · have h2 := tmod_neg h
    have H := Lib.hid h2.1
    have h3 := h2.2
    clear h2
    go_enter Try.func12, Try.ntmps12
    go_wp2
    go_ret
    exact ⟨ret_int H.out, rfl⟩
  · have h' : 0 ≤ n.tmod 1073741789 := by omega
    have H := Lib.hid (tmod_pos h')
    go_enter Try.func12, Try.ntmps12
    go_wp2
    go_ret
    exact ⟨ret_int H.out, rfl⟩
theorem rmod_any (n : Int) (w : World) : Calls Try.prog 13 #[.int .i64 n] w fun e w' => e = .returned (.int .i64 (Fm.md n)) ∧ w = w' := by
  by_cases h : n.tmod 1073741789 < 0
  · have h2 := tmod_neg h
    have H := Lib.hid h2.1
    have h3 := h2.2
    clear h2
    go_enter Try.func13, Try.ntmps13
    go_wp2
    go_ret
    exact ⟨ret_int H.out, rfl⟩
  · have h' : 0 ≤ n.tmod 1073741789 := by omega
    have H := Lib.hid (tmod_pos h')
    go_enter Try.func13, Try.ntmps13
    go_wp2
    go_ret
    exact ⟨ret_int H.out, rfl⟩
theorem mul_bd (a b : Int) : 0 ≤ Fm.md a * Fm.md b ∧ Fm.md a * Fm.md b ≤ 1152921427297436944 := by
  have h1 := Fm.md_lo a
  have h2 := Fm.md_lo b
  have h3 := Fm.md_hi a
  have h4 := Fm.md_hi b
  refine ⟨Int.mul_nonneg h1 h2, ?_⟩
  have : Fm.md a * Fm.md b ≤ 1073741788 * 1073741788 := Int.mul_le_mul (by omega) (by omega) h2 (by decide)
  omega
theorem mul_eq (a b : Int) : (Fm.md a * Fm.md b) % 1073741789 = Fm.ml a b := Fm.cg_mul (Fm.cg_md a) (Fm.cg_md b)
theorem add_eq (a b : Int) : (Fm.md a + Fm.md b) % 1073741789 = Fm.ad a b := Fm.cg_add (Fm.cg_md a) (Fm.cg_md b)
theorem mul_any (a b : Int) (w : World) : Calls Try.prog 16 #[.int .i64 a, .int .i64 b] w fun e w' => e = .returned (.int .i64 (Fm.ml a b)) ∧ w = w' := by
  obtain ⟨h1, h2⟩ := mul_bd a b
  have H := Lib.hid (mul_eq a b)
  go_enter Try.func16, Try.ntmps16
  go_wp2_with (go_at_call 12; refine (mod_any _ _).mono ?_; rintro e w' ⟨rfl, rfl⟩)
  go_ret
  exact ⟨ret_int H.out, rfl⟩
theorem rmul_any (a b : Int) (w : World) : Calls Try.prog 17 #[.int .i64 a, .int .i64 b] w fun e w' => e = .returned (.int .i64 (Fm.ml a b)) ∧ w = w' := by
  obtain ⟨h1, h2⟩ := mul_bd a b
  have H := Lib.hid (mul_eq a b)
  go_enter Try.func17, Try.ntmps17
  go_wp2_with (go_at_call 13; refine (rmod_any _ _).mono ?_; rintro e w' ⟨rfl, rfl⟩)
  go_ret
  exact ⟨ret_int H.out, rfl⟩
theorem radd_any (a b : Int) (w : World) : Calls Try.prog 15 #[.int .i64 a, .int .i64 b] w fun e w' => e = .returned (.int .i64 (Fm.ad a b)) ∧ w = w' := by
  have h1 := Fm.md_lo a
  have h2 := Fm.md_lo b
  have h3 := Fm.md_hi a
  have h4 := Fm.md_hi b
  have H := Lib.hid (add_eq a b)
  go_enter Try.func15, Try.ntmps15
  go_wp2_with (go_at_call 13; refine (rmod_any _ _).mono ?_; rintro e w' ⟨rfl, rfl⟩)
  go_ret
  exact ⟨ret_int H.out, rfl⟩
theorem power_any (a0 n0 : Int) (h0 : 0 ≤ n0) (h1 : n0 ≤ 1073741789) (w : World) : Calls Try.prog 25 #[.int .i64 a0, .int .i64 n0] w fun e w' => e = .returned (.int .i64 ((a0 ^ n0.toNat) % 1073741789)) ∧ w = w' := by
  obtain ⟨n1, rfl⟩ := Int.eq_ofNat_of_zero_le h0
  rw [Int.toNat_natCast]
  have hs := Fm.pw_start a0 n1
  generalize a0 ^ n1 = v at hs ⊢
  go_enter Try.func25, Try.ntmps25
  go_wp2
  go_loop [5, 0, 1] (fun x a n => ∃ xi ai : Int, ∃ ni : Nat, x = .int .i64 xi ∧ a = .int .i64 ai ∧ n = .int .i64 ni ∧ ni ≤ 1073741789 ∧ 0 ≤ xi ∧ xi < 1073741789 ∧ Fm.pw xi ai ni v) (fun _ _ n => (intOf n).toNat)
  case atStart => exact ⟨1, a0, n1, rfl, rfl, rfl, by omega, by omega, by omega, hs⟩
  case round =>
    obtain ⟨xi, ai, ni, rfl, rfl, rfl, b1, b2, b3, hp⟩ := hrel
    by_cases hz : 0 < ni
    · by_cases ho : ni % 2 = 1
      · have hp2 := Fm.pw_odd hp ho
        have c1 := Fm.ml_lo xi ai
        have c2 := Fm.ml_hi xi ai
        go_wp2_with (go_at_call 17; refine (rmul_any _ _ _).mono ?_; rintro e w' ⟨rfl, rfl⟩)
        go_round
        case rel => exact ⟨_, _, ni / 2, rfl, rfl, by go_num, by omega, c1, c2, hp2⟩
        case measure => simp [intOf]; omega
      · have hp2 := Fm.pw_even hp (by omega)
        have ho' : ni % 2 = 0 := by omega
        go_wp2_with (go_at_call 17; refine (rmul_any _ _ _).mono ?_; rintro e w' ⟨rfl, rfl⟩)
        go_round
        case rel => exact ⟨_, _, ni / 2, rfl, rfl, by go_num, by omega, b2, b3, hp2⟩
        case measure => simp [intOf]; omega
    · obtain rfl : ni = 0 := by omega
      have H := Lib.hid (Fm.pw_end hp b2 b3)
      go_wp2
      go_ret
      exact ⟨ret_int H.out, rfl⟩
theorem ret_tup2 {j k : IntKind} {a b c d : Int} (h : a = c) (h' : b = d) : Ending.returned (.tuple #[.int j a, .int k b]) = .returned (.tuple #[.int j c, .int k d]) := by rw [h, h']
theorem expo_eq : (1073741787 : Int).toNat = Fm.expo := rfl
theorem power_inv (n : Int) (w : World) : Calls Try.prog 25 #[.int .i64 n, .int .i64 1073741787] w fun e w' => e = .returned (.int .i64 (Fm.inv n)) ∧ w = w' := by
  refine (power_any n 1073741787 (by omega) (by omega) w).mono ?_
  rintro e w' ⟨rfl, rfl⟩
  rw [expo_eq]
  exact ⟨rfl, rfl⟩
theorem rinv_any (n : Int) (w : World) : Calls Try.prog 11 #[.int .i64 n] w fun e w' => e = .returned (.tuple #[.int .i64 (Fm.inv n), .int .i64 (Fm.invE n)]) ∧ w = w' := by
  by_cases h : Fm.md n = 0
  · have H1 := Lib.hid (Fm.inv_zero h)
    have H2 := Lib.hid (Fm.invE_zero h)
    go_enter Try.func11, Try.ntmps11
    go_wp2_with (go_at_call 13; refine (rmod_any _ _).mono ?_; rintro e w' ⟨rfl, rfl⟩)
    go_ret2
    exact ⟨ret_tup2 H1.out.symm H2.out.symm, rfl⟩
  · have H2 := Lib.hid (Fm.invE_ne h)
    go_enter Try.func11, Try.ntmps11
    go_wp2_with (first | (go_at_call 13; refine (rmod_any _ _).mono ?_; rintro e w' ⟨rfl, rfl⟩) | (go_at_call 25; refine (power_inv _ _).mono ?_; rintro e w' ⟨rfl, rfl⟩))
    go_ret2
    exact ⟨ret_tup2 rfl H2.out.symm, rfl⟩
theorem inv_any (n : Int) (w : World) : Calls Try.prog 10 #[.int .i64 n] w fun e w' => e = .returned (.tuple #[.int .i64 (Fm.inv n), .int .i64 (Fm.invE n)]) ∧ w = w' := by
  by_cases h : Fm.md n = 0
  · have H1 := Lib.hid (Fm.inv_zero h)
    have H2 := Lib.hid (Fm.invE_zero h)
    go_enter Try.func10, Try.ntmps10
    go_wp2_with fail
    go_step3
    go_wp2_with (go_at_call 12; refine (mod_any _ _).mono ?_; rintro e w' ⟨rfl, rfl⟩)
    rw [Exit.noGoto_ret]
    go_ret2
    exact ⟨ret_tup2 H1.out.symm H2.out.symm, rfl⟩
  · have H2 := Lib.hid (Fm.invE_ne h)
    have hs := Fm.pw_start n Fm.expo
    have H3 : Hid (∀ v, v = n ^ Fm.expo % 1073741789 → v = Fm.inv n) := fun v h => h
    generalize n ^ Fm.expo = v at hs H3
    have hb : (Fm.md n == 0) = false := beq_eq_false_iff_ne.2 h
    clear h
    go_enter Try.func10, Try.ntmps10
    go_wp2_with (first | (go_at_call 12; refine (mod_any _ _).mono ?_; rintro e w' ⟨rfl, rfl⟩))
    go_step3
    go_wp2_with (first | (go_at_call 12; refine (mod_any _ _).mono ?_; rintro e w' ⟨rfl, rfl⟩))
    go_step3
    go_wp2

    go_loopg [2, 4, 5] Fm.expo (fun g x l a wx => w = wx ∧ ∃ xi ai : Int, ∃ ni : Nat, g = ni ∧ x = .int .i64 xi ∧ a = .int .i64 ai ∧ l = .int .i64 ni ∧ ni ≤ 1073741789 ∧ 0 ≤ xi ∧ xi < 1073741789 ∧ Fm.pw xi ai ni v) 
    case atStart => exact ⟨rfl, 1, n, Fm.expo, rfl, rfl, rfl, rfl, by decide, by omega, by omega, hs⟩
    case round =>
      obtain ⟨rfl, xi, ai, ni, rfl, rfl, rfl, rfl, b1, b2, b3, hp⟩ := hrel
      by_cases hz : 0 < gk
      · by_cases ho : gk % 2 = 1
        · have hp2 := Fm.pw_odd hp ho
          have c1 := Fm.ml_lo xi ai
          have c2 := Fm.ml_hi xi ai
          go_wp2_with (go_at_call 16; refine (mul_any _ _ _).mono ?_; rintro e w' ⟨rfl, rfl⟩)
          go_roundg (gk / 2)
          case rel => exact ⟨rfl, _, _, gk / 2, rfl, rfl, rfl, by go_num, by omega, c1, c2, hp2⟩
          case measure => omega
        · have hp2 := Fm.pw_even hp (by omega)
          have ho' : gk % 2 = 0 := by omega
          go_wp2_with (go_at_call 16; refine (mul_any _ _ _).mono ?_; rintro e w' ⟨rfl, rfl⟩)
          go_roundg (gk / 2)
          case rel => exact ⟨rfl, _, _, gk / 2, rfl, rfl, rfl, by go_num, by omega, b2, b3, hp2⟩
          case measure => omega
      · obtain rfl : gk = 0 := by omega
        have H := Lib.hid (H3.out _ (Fm.pw_end hp b2 b3))
        go_wp2
        rw [Exit.noGoto_ret]
        go_ret2
        exact ⟨ret_tup2 H.out H2.out.symm, rfl⟩
end Go.Proofs.Ytdajanoikcemoaa
