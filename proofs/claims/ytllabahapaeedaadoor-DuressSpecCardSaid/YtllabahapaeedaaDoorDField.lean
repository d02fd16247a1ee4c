/- The walks of package field that other packages lean on (Mod, Mul, Add, Inverse; the reference's Mod, Mul, Add). -/
import Derived.Test.YtllabahapaeedaaDoorFieldMath
import Derived.Test.YtllabahapaeedaaDoorDigWalks
namespace Go.Proofs.YtllabahapaeedaaDoor
open Go.RowKit
set_option linter.unusedVariables false

theorem tmod_pos {n : Int} (h : 0 ≤ n.tmod 1073741789) : n.tmod 1073741789 = Fm.md n := by
  unfold Fm.md
  by_cases h0 : 0 ≤ n
  · rw [Int.tmod_eq_emod_of_nonneg h0]
  · obtain ⟨m, rfl⟩ : ∃ m, n = -m := ⟨-n, by omega⟩
    rw [Int.neg_tmod, Int.tmod_eq_emod_of_nonneg (by omega)] at *
    omega
theorem tmod_neg {n : Int} (h : n.tmod 1073741789 < 0) : n.tmod 1073741789 + 1073741789 = Fm.md n ∧ -1073741789 < n.tmod 1073741789 := by
  unfold Fm.md
  by_cases h0 : 0 ≤ n
  · rw [Int.tmod_eq_emod_of_nonneg h0] at h
    omega
  · obtain ⟨m, rfl⟩ : ∃ m, n = -m := ⟨-n, by omega⟩
    rw [Int.neg_tmod, Int.tmod_eq_emod_of_nonneg (by omega)] at *
    omega
theorem ret_bool {a b : Bool} (h : a = b) : Ending.returned (.bool a) = .returned (.bool b) := by rw [h]

theorem mod_any (n : Int) (w : World) : Calls Tryd.prog 32 #[.int .i64 n] w fun e w' => e = .returned (.int .i64 (Fm.md n)) ∧ w = w' := by
  by_cases h : n.tmod 1073741789 < 0
  · have h2 := tmod_neg h
    have H := Lib.hid h2.1
    have h3 := h2.2
    clear h2
    go_enter Tryd.func32, Tryd.ntmps32
    go_wp2
    go_ret
    exact ⟨ret_int H.out, rfl⟩
  · have h' : 0 ≤ n.tmod 1073741789 := by omega
    have H := Lib.hid (tmod_pos h')
    go_enter Tryd.func32, Tryd.ntmps32
    go_wp2
    go_ret
    exact ⟨ret_int H.out, rfl⟩
theorem rmod_any (n : Int) (w : World) : Calls Tryd.prog 34 #[.int .i64 n] w fun e w' => e = .returned (.int .i64 (Fm.md n)) ∧ w = w' := by
  by_cases h : n.tmod 1073741789 < 0
  · have h2 := tmod_neg h
    have H := Lib.hid h2.1
    have h3 := h2.2
    clear h2
    go_enter Tryd.func34, Tryd.ntmps34
    go_wp2
    go_ret
    exact ⟨ret_int H.out, rfl⟩
  · have h' : 0 ≤ n.tmod 1073741789 := by omega
    have H := Lib.hid (tmod_pos h')
    go_enter Tryd.func34, Tryd.ntmps34
    go_wp2
    go_ret
    exact ⟨ret_int H.out, rfl⟩
theorem mul_bd (a b : Int) : 0 ≤ Fm.md a * Fm.md b ∧ Fm.md a * Fm.md b ≤ 1152921427297436944 := by
  have h1 := Fm.md_lo a
  have h2 := Fm.md_lo b
  have h3 := Fm.md_hi a
  have h4 := Fm.md_hi b
  refine ⟨Int.mul_nonneg h1 h2, ?_⟩
  have : Fm.md a * Fm.md b ≤ 1073741788 * 1073741788 := Int.mul_le_mul (by omega) (by omega) h2 (by decide)
  omega
theorem mul_eq (a b : Int) : (Fm.md a * Fm.md b) % 1073741789 = Fm.ml a b := Fm.cg_mul (Fm.cg_md a) (Fm.cg_md b)
theorem add_eq (a b : Int) : (Fm.md a + Fm.md b) % 1073741789 = Fm.ad a b := Fm.cg_add (Fm.cg_md a) (Fm.cg_md b)
theorem mul_any (a b : Int) (w : World) : Calls Tryd.prog 21 #[.int .i64 a, .int .i64 b] w fun e w' => e = .returned (.int .i64 (Fm.ml a b)) ∧ w = w' := by
  obtain ⟨h1, h2⟩ := mul_bd a b
  have H := Lib.hid (mul_eq a b)
  go_enter Tryd.func21, Tryd.ntmps21
  go_wp2_with (go_at_call 32; refine (mod_any _ _).mono ?_; rintro e w' ⟨rfl, rfl⟩)
  go_ret
  exact ⟨ret_int H.out, rfl⟩
theorem rmul_any (a b : Int) (w : World) : Calls Tryd.prog 24 #[.int .i64 a, .int .i64 b] w fun e w' => e = .returned (.int .i64 (Fm.ml a b)) ∧ w = w' := by
  obtain ⟨h1, h2⟩ := mul_bd a b
  have H := Lib.hid (mul_eq a b)
  go_enter Tryd.func24, Tryd.ntmps24
  go_wp2_with (go_at_call 34; refine (rmod_any _ _).mono ?_; rintro e w' ⟨rfl, rfl⟩)
  go_ret
  exact ⟨ret_int H.out, rfl⟩
theorem radd_any (a b : Int) (w : World) : Calls Tryd.prog 23 #[.int .i64 a, .int .i64 b] w fun e w' => e = .returned (.int .i64 (Fm.ad a b)) ∧ w = w' := by
  have h1 := Fm.md_lo a
  have h2 := Fm.md_lo b
  have h3 := Fm.md_hi a
  have h4 := Fm.md_hi b
  have H := Lib.hid (add_eq a b)
  go_enter Tryd.func23, Tryd.ntmps23
  go_wp2_with (go_at_call 34; refine (rmod_any _ _).mono ?_; rintro e w' ⟨rfl, rfl⟩)
  go_ret
  exact ⟨ret_int H.out, rfl⟩
theorem ret_tup2 {j k : IntKind} {a b c d : Int} (h : a = c) (h' : b = d) : Ending.returned (.tuple #[.int j a, .int k b]) = .returned (.tuple #[.int j c, .int k d]) := by rw [h, h']
theorem inv_any (n : Int) (w : World) : Calls Tryd.prog 20 #[.int .i64 n] w fun e w' => e = .returned (.tuple #[.int .i64 (Fm.inv n), .int .i64 (Fm.invE n)]) ∧ w = w' := by
  by_cases h : Fm.md n = 0
  · have H1 := Lib.hid (Fm.inv_zero h)
    have H2 := Lib.hid (Fm.invE_zero h)
    go_enter Tryd.func20, Tryd.ntmps20
    go_wp2_with fail
    go_step3
    go_wp2_with (go_at_call 32; refine (mod_any _ _).mono ?_; rintro e w' ⟨rfl, rfl⟩)
    rw [Exit.noGoto_ret]
    go_ret2
    exact ⟨ret_tup2 H1.out.symm H2.out.symm, rfl⟩
  · have H2 := Lib.hid (Fm.invE_ne h)
    have hs := Fm.pw_start n Fm.expo
    have H3 : Hid (∀ v, v = n ^ Fm.expo % 1073741789 → v = Fm.inv n) := fun v h => h
    generalize n ^ Fm.expo = v at hs H3
    have hb : (Fm.md n == 0) = false := beq_eq_false_iff_ne.2 h
    clear h
    go_enter Tryd.func20, Tryd.ntmps20
    go_wp2_with (first | (go_at_call 32; refine (mod_any _ _).mono ?_; rintro e w' ⟨rfl, rfl⟩))
    go_step3
    go_wp2_with (first | (go_at_call 32; refine (mod_any _ _).mono ?_; rintro e w' ⟨rfl, rfl⟩))
    go_step3
    go_wp2

    go_loopg [2, 4, 5] Fm.expo (fun g x l a wx => w = wx ∧ ∃ xi ai : Int, ∃ ni : Nat, g = ni ∧ x = .int .i64 xi ∧ a = .int .i64 ai ∧ l = .int .i64 ni ∧ ni ≤ 1073741789 ∧ 0 ≤ xi ∧ xi < 1073741789 ∧ Fm.pw xi ai ni v) 
    case atStart => exact ⟨rfl, 1, n, Fm.expo, rfl, rfl, rfl, rfl, by decide, by omega, by omega, hs⟩
    case round =>
      obtain ⟨rfl, xi, ai, ni, rfl, rfl, rfl, rfl, b1, b2, b3, hp⟩ := hrel
      by_cases hz : 0 < gk
      · by_cases ho : gk % 2 = 1
        · have hp2 := Fm.pw_odd hp ho
          have c1 := Fm.ml_lo xi ai
          have c2 := Fm.ml_hi xi ai
          go_wp2_with (go_at_call 21; refine (mul_any _ _ _).mono ?_; rintro e w' ⟨rfl, rfl⟩)
          go_roundg (gk / 2)
          case rel => exact ⟨rfl, _, _, gk / 2, rfl, rfl, rfl, by go_num, by omega, c1, c2, hp2⟩
          case measure => omega
        · have hp2 := Fm.pw_even hp (by omega)
          have ho' : gk % 2 = 0 := by omega
          go_wp2_with (go_at_call 21; refine (mul_any _ _ _).mono ?_; rintro e w' ⟨rfl, rfl⟩)
          go_roundg (gk / 2)
          case rel => exact ⟨rfl, _, _, gk / 2, rfl, rfl, rfl, by go_num, by omega, b2, b3, hp2⟩
          case measure => omega
      · obtain rfl : gk = 0 := by omega
        have H := Lib.hid (H3.out _ (Fm.pw_end hp b2 b3))
        go_wp2
        rw [Exit.noGoto_ret]
        go_ret2
        exact ⟨ret_tup2 H.out H2.out.symm, rfl⟩
theorem sum_eq (a b : Int) : (Fm.md a % 1073741789 + Fm.md b) % 1073741789 = Fm.ad a b := by
  unfold Fm.md Fm.ad; omega
theorem sum_two (b : Nat) (x y : Int) (w : World) (h0 : w.cell? ⟨b, 0, none⟩ = some (.int .i64 x)) (h1 : w.cell? ⟨b, 1, none⟩ = some (.int .i64 y)) :
    Calls Tryd.prog 31 #[.slice (some ⟨b, 0, none⟩) 2 2] w fun e w' => e = .returned (.int .i64 (Fm.ad x y)) ∧ w = w' := by
  have H := Lib.hid (sum_eq x y)
  have b1 := Fm.md_lo x
  have b2 := Fm.md_hi x
  have b3 := Fm.md_lo y
  have b4 := Fm.md_hi y
  go_enter Tryd.func31, Tryd.ntmps31
  go_wp2
  refine wp_loop_rounds 3 ?_
  rw [rounds_succ]
  go_wp2_with (go_at_call 32; refine (mod_any _ _).mono ?_; rintro e w' ⟨rfl, rfl⟩)
  rw [rounds_succ]
  go_wp2_with (go_at_call 32; refine (mod_any _ _).mono ?_; rintro e w' ⟨rfl, rfl⟩)
  rw [rounds_succ]
  go_wp2
  go_ret
  exact ⟨ret_int H.out, rfl⟩
theorem sum_new (a b : Int) (w : World) : Calls Tryd.prog 31 #[.slice (some ⟨w.heap.size, 0, none⟩) 2 2] (w.alloc (.cells #[.int .i64 a, .int .i64 b] 3))
    fun e w' => e = .returned (.int .i64 (Fm.ad a b)) ∧ w.alloc (.cells #[.int .i64 a, .int .i64 b] 3) = w' :=
  sum_two _ a b _ (by go_cell) (by go_cell)
theorem add_any (a b : Int) (w : World) : Calls Tryd.prog 19 #[.int .i64 a, .int .i64 b] w fun e w' => e = .returned (.int .i64 (Fm.ad a b)) ∧ w.alloc (.cells #[.int .i64 a, .int .i64 b] 3) = w' := by
  go_enter Tryd.func19, Tryd.ntmps19
  go_wp2_with (go_at_call 31; refine (sum_new _ _ _).mono ?_; rintro e w' ⟨rfl, rfl⟩)
  go_ret
  exact ⟨rfl, rfl⟩
end Go.Proofs.YtllabahapaeedaaDoor
