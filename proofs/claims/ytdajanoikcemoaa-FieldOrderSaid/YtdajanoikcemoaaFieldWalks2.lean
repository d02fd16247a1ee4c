/- The walks of package field: sums, values. What is made lies above; what was there stays as it was. -/
import Derived.Test.YtdajanoikcemoaaFieldWalks
import Derived.Test.YtdajanoikcemoaaWords
namespace Go.Proofs.Ytdajanoikcemoaa
open Go.RowKit

theorem sum_eq (a b : Int) : (Fm.md a % 1073741789 + Fm.md b) % 1073741789 = Fm.ad a b := by
  unfold Fm.md Fm.ad; omega
theorem sum_two (b : Nat) (x y : Int) (w : World) (h0 : w.cell? ⟨b, 0, none⟩ = some (.int .i64 x)) (h1 : w.cell? ⟨b, 1, none⟩ = some (.int .i64 y)) :
    Calls Try.prog 26 #[.slice (some ⟨b, 0, none⟩) 2 2] w fun e w' => e = .returned (.int .i64 (Fm.ad x y)) ∧ w = w' := by
  have H := Lib.hid (sum_eq x y)
  have b1 := Fm.md_lo x
  have b2 := Fm.md_hi x
  have b3 := Fm.md_lo y
  have b4 := Fm.md_hi y
  go_enter Try.func26, Try.ntmps26
  go_wp2
  refine wp_loop_rounds 3 ?_
  rw [rounds_succ]
  go_wp2_with (go_at_call 12; refine (mod_any _ _).mono ?_; rintro e w' ⟨rfl, rfl⟩)
  rw [rounds_succ]
  go_wp2_with (go_at_call 12; refine (mod_any _ _).mono ?_; rintro e w' ⟨rfl, rfl⟩)
  rw [rounds_succ]
  go_wp2
  go_ret
  exact ⟨ret_int H.out, rfl⟩
theorem sum_new (a b : Int) (w : World) : Calls Try.prog 26 #[.slice (some ⟨w.heap.size, 0, none⟩) 2 2] (w.alloc (.cells #[.int .i64 a, .int .i64 b] 3))
    fun e w' => e = .returned (.int .i64 (Fm.ad a b)) ∧ w.alloc (.cells #[.int .i64 a, .int .i64 b] 3) = w' :=
  sum_two _ a b _ (by go_cell) (by go_cell)
theorem add_any (a b : Int) (w : World) : Calls Try.prog 14 #[.int .i64 a, .int .i64 b] w fun e w' => e = .returned (.int .i64 (Fm.ad a b)) ∧ w.alloc (.cells #[.int .i64 a, .int .i64 b] 3) = w' := by
  go_enter Try.func14, Try.ntmps14
  go_wp2_with (go_at_call 26; refine (sum_new _ _ _).mono ?_; rintro e w' ⟨rfl, rfl⟩)
  go_ret
  exact ⟨rfl, rfl⟩
theorem take_snoc (zs : List Int) (k : Nat) (h : k < zs.length) : zs.take (k + 1) = zs.take k ++ [zs.getD k 0] := by
  rw [List.take_succ_eq_append_getElem h, List.getD_eq_getElem?_getD, List.getElem?_eq_getElem h]; rfl
theorem ints_at {w : World} {B : Nat} {A : Option Addr} {n : Nat} {zs : List Int} (h : Rd w B 1 A n (zs.map (Value.int .i64))) {k : Nat} (hk : k < n) :
    ∃ b o, A = some ⟨b, o, none⟩ ∧ b < B ∧ w.cell? ⟨b, o + k, none⟩ = some (.int .i64 (zs.getD k 0)) := by
  obtain ⟨h1, h2⟩ := h
  obtain ⟨b, o, e, hb, hc⟩ := h2 (by omega)
  have hl : k < zs.length := by simpa using (show k < (zs.map (Value.int .i64)).length by omega)
  exact ⟨b, o, e, hb, hc k _ (by rw [List.getElem?_map, List.getElem?_eq_getElem hl]; simp [hl])⟩
theorem pow_zero_mod (x : Int) : x ^ 0 % 1073741789 = 1 := by rw [Int.pow_zero]; rfl
theorem value_any (A : Option Addr) (n cap : Nat) (zs : List Int) (x : Int) (w : World) (hr : Rd w w.heap.size 1 A n (zs.map (Value.int .i64))) (hn : n ≤ 100000) :
    Calls Try.prog 21 #[.slice A n cap, .int .i64 x] w fun e w' => e = .returned (.int .i64 (Fm.val zs x)) ∧ Below w.heap.size w w' := by
  have hlen : n = zs.length := by simpa using hr.1.symm
  have HL := Lib.hid hlen
  clear hlen
  go_enter Try.func21, Try.ntmps21
  go_wp2
  go_loopw [4, 5, 10] (fun y p i wr => ∃ k : Nat, k ≤ n ∧ i = .int .i64 k ∧ y = .int .i64 (Fm.val (zs.take k) x) ∧ p = .int .i64 (x ^ k % 1073741789) ∧ Below w.heap.size w wr) (fun _ _ i _ => n - (intOf i).toNat)
  case atStart => exact ⟨0, Nat.zero_le _, rfl, rfl, by rw [pow_zero_mod], Below.refl _ _⟩
  case round =>
    obtain ⟨k, hk, rfl, rfl, rfl, hb⟩ := hrel
    by_cases hlt : k < n
    · obtain ⟨b, o, rfl, hbb, hc⟩ := ints_at (hr.below hb) hlt
      have E : Hid (Fm.ad (Fm.val (zs.take k) x) (Fm.ml (zs.getD k 0) (x ^ k % 1073741789)) = Fm.val (zs.take (k + 1)) x ∧ Fm.ml (x ^ k % 1073741789) x = x ^ (k + 1) % 1073741789) := by
        have e4 : (zs.take k).length = k := by have := HL.out; rw [List.length_take]; omega
        have e1 := Fm.val_snoc (zs.take k) (zs.getD k 0) x
        rw [e4, ← take_snoc zs k (by have := HL.out; omega)] at e1
        exact ⟨e1, Fm.pow_next x k⟩
      generalize Fm.val (zs.take k) x = v at *
      generalize x ^ k % 1073741789 = p at *
      generalize zs.getD k 0 = c at *
      have hsz := hb.size
      go_wp2_with (first | (go_at_call 16; refine (mul_any _ _ _).mono ?_; rintro e w' ⟨rfl, rfl⟩) | (go_at_call 26; refine (sum_new _ _ _).mono ?_; rintro e w' ⟨rfl, rfl⟩))
      go_roundw
      case rel =>
        exact ⟨k + 1, by omega, by go_num, by rw [E.out.1], by rw [E.out.2], hb.alloc hb.size _⟩
      case measure => simp [intOf]; omega
    · obtain rfl : k = n := by omega
      have e2 : Hid (zs.take k = zs) := by show _ = _; rw [HL.out]; exact List.take_length
      go_wp2
      go_ret
      exact ⟨ret_int (by rw [e2.out]), hb⟩
end Go.Proofs.Ytdajanoikcemoaa
