/- Package codec: the unsigned form of any integer. -/
import Derived.Test.YtpjggokaolnbcaaDoorCodec3
namespace Go.Proofs.YtpjggokaolnbcaaDoor
open Go.RowKit
set_option linter.unusedVariables false
def uns (z : Int) : Nat := if 0 ≤ z then (2 * z).toNat else (-2 * z - 1).toNat
theorem u64_mod (n : Int) : IntKind.u64.wrap n = n % 18446744073709551616 := by simp [IntKind.wrap, IntKind.bits, IntKind.signed]
theorem uns_lt {z : Int} (h : -9223372036854775808 ≤ z ∧ z < 9223372036854775808) : uns z < 18446744073709551616 := by
  unfold uns; split <;> omega
theorem xor_any (x : Int) : bits .xor .u64 x 0 = x % 18446744073709551616 := by
  have e : bits .xor .u64 x 0 = IntKind.u64.wrap (((BitVec.ofInt 64 x ^^^ 0#64).toNat : Nat) : Int) := rfl
  rw [e, BitVec.xor_zero, BitVec.toNat_ofInt, u64_mod]
  omega
theorem xor_ones (x : Int) : bits .xor .u64 x 18446744073709551615 = 18446744073709551615 - x % 18446744073709551616 := by
  have e : bits .xor .u64 x 18446744073709551615 = IntKind.u64.wrap (((BitVec.ofInt 64 x ^^^ BitVec.allOnes 64).toNat : Nat) : Int) := rfl
  rw [e, BitVec.xor_allOnes, BitVec.toNat_not, BitVec.toNat_ofInt, u64_mod]
  omega
theorem unsigned_I (z : Int) (h : -9223372036854775808 ≤ z ∧ z < 9223372036854775808) (w : World) : Calls Tryd.prog 48 #[.int .i64 z] w fun e w' => e = .returned (.int .u64 (uns z : Int)) ∧ w = w' := by
  obtain ⟨h1, h2⟩ := h
  have ha := xor_any
  have ho := xor_ones
  have HA := Lib.hid ha
  have HO := Lib.hid ho
  clear ha ho
  by_cases h0 : 0 ≤ z
  · have e0 : z / 9223372036854775808 = 0 := by omega
    have hu : (uns z : Int) = 2 * z := by unfold uns; rw [if_pos h0]; omega
    have HU := Lib.hid hu
    clear hu
    go_enter Tryd.func48, Tryd.ntmps48
    go_wp2
    go_ret
    exact ⟨retI (by rw [HU.out, HA.out]; omega), rfl⟩
  · have e0 : z / 9223372036854775808 = -1 := by omega
    have hu : (uns z : Int) = -2 * z - 1 := by unfold uns; rw [if_neg h0]; omega
    have HU := Lib.hid hu
    clear hu
    go_enter Tryd.func48, Tryd.ntmps48
    go_wp2
    go_ret
    exact ⟨retI (by rw [HU.out, show IntKind.u64.wrap (-1) = 18446744073709551615 from rfl, HO.out, u64_mod, u64_mod]; omega), rfl⟩
set_option maxRecDepth 100000 in
set_option maxHeartbeats 1000000 in
theorem w1I_any (base : Nat) (v : Value) (n : Nat) (xs : List Int) (z : Int) (w : World) (hown : w.ownsRow base 5 1 v n (xs.map (Value.int .u8))) (hz : -9223372036854775808 ≤ z ∧ z < 9223372036854775808) (hn : n ≤ 900000) (hbase : base ≤ w.heap.size) :
    Calls Tryd.prog 46 #[v, intV z] w (NumPost base w v n xs (1 :: Cd.numL (uns z))) := by
  obtain ⟨i0, hi, hz0, hz1, hz2⟩ := info_parts infoU8c
  have hne := own_far hown
  have hbox : (w.alloc (.cells #[.int .i64 1, .int .i64 z, .string ⟨#[]⟩, .slice none 0 0] 52)).cell? ⟨w.heap.size, 1, none⟩ = some (.int .i64 z) := alloc_cell1 w _ _ _ _
  have hun := unsigned_I z hz
  have hul := uns_lt hz
  generalize uns z = u at *
  unfold intV
  go_enter Tryd.func46, Tryd.ntmps46
  go_wp2
  go_region_held3 (fun w' => w'.cell? ⟨w.heap.size, 1, none⟩ = some (.int .i64 z))
    (first
      | (go_keep; done)
      | exact hq1
      | exact (hG.grow.cell_far ⟨w.heap.size, 1, none⟩ hlt1 hne1).trans hq1)
    ((first | (go_at_call 48; (with_reducible refine (hun _).mono ?_); rintro e w' ⟨rfl, rfl⟩) | (go_at_call 47; (refine (numeral_any base v1 (n + 1) (xs ++ [1]) u w1 (by simpa using hown1) (by omega) (by omega) (by omega)).mono ?_); rintro e w3 ⟨v3, rfl, hG⟩) | (refine wp_atc (by rfl) (wp_append_rd _ (.tmp 5) (.tmp 6) 23 (by rfl) base 5 i0 _ 1 1 Tryd.underlying23 hi hz0 hz1 hz2 rfl (by omega) v n _ (by rfl) ((hown.alloc _).alloc _).drew _ _ 1 _ [.int .u8 1] (by rfl) (rd_one _ _ _ _ (by simp)).drew (fun u hu => by simp at hu; subst hu; rfl) (by unfold maxLen; omega) (by omega) (by simp; omega) ?_); intro v1 w1 hown1 hg1 hb1; have hq1 := (hg1.cell_far ⟨w.heap.size, 1, none⟩ (by simp; omega) hne).trans (cell_box2 w _ _ hbox); have hlt1 : w.heap.size < w1.heap.size := (by have := hg1.size; simp at this; omega); have hne1 := own_ne hne hb1 (by simp; omega)) | fail))
  have hG0 : Grew base w v n xs w1 v1 [1] := Grew.mk1 (grown_drew (grown_alloc (World.grownBy_alloc w _ _) _)) hown1 hg1 hb1
  have hG2 := hG0.then hG
  clear hG0 hG hown1 hg1 hb1 hq1 hne1
  go_wp2
  go_ret
  exact ⟨v3, rfl, hG2⟩
end Go.Proofs.YtpjggokaolnbcaaDoor
