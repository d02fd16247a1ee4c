/- The reference's digest: rotations, and the bit laws that join it to the program's. -/
import Derived.Test.YtpjggokaolnbcaaDoorDigAbsorb
namespace Go.Proofs.YtpjggokaolnbcaaDoor
open Go.RowKit
set_option linter.unusedVariables false
theorem or_swap (k : IntKind) (x y : Int) : bits .or k x y = bits .or k y x := by
  show k.wrap ((BitVec.ofInt k.bits x ||| BitVec.ofInt k.bits y).toNat : Nat) = k.wrap ((BitVec.ofInt k.bits y ||| BitVec.ofInt k.bits x).toNat : Nat)
  rw [BitVec.or_comm]
/-- a rotation to the right by n is one to the left by 32 - n -/
def Sh.rr (x : Int) (n : Nat) : Int := bits .or .u32 (x / 2 ^ n) (IntKind.u32.wrap (x * 2 ^ (32 - n)))
theorem rr_rl (x : Int) (n : Nat) (h : n ≤ 32) : Sh.rr x n = Sh.rl x (32 - n) := by
  unfold Sh.rr Sh.rl
  rw [or_swap, show 32 - (32 - n) = n by omega]
theorem ch_bv (e f g : BitVec 32) : (e &&& f) ^^^ (~~~e &&& g) = g ^^^ (e &&& (f ^^^ g)) := by
  apply BitVec.eq_of_getLsbD_eq
  intro i hi
  simp only [BitVec.getLsbD_xor, BitVec.getLsbD_and, BitVec.getLsbD_not, hi, decide_true, Bool.true_and]
  cases e.getLsbD i <;> cases f.getLsbD i <;> cases g.getLsbD i <;> rfl
theorem maj_bv (a b c : BitVec 32) : ((a &&& b) ^^^ (a &&& c)) ^^^ (b &&& c) = (a &&& b) ||| (c &&& (a ||| b)) := by
  apply BitVec.eq_of_getLsbD_eq
  intro i hi
  simp only [BitVec.getLsbD_xor, BitVec.getLsbD_and, BitVec.getLsbD_or]
  cases a.getLsbD i <;> cases b.getLsbD i <;> cases c.getLsbD i <;> rfl
theorem u32_mod (n : Int) : IntKind.u32.wrap n = n % 4294967296 := by simp [IntKind.wrap, IntKind.bits, IntKind.signed]
theorem ror_2 (x : Int) (w : World) : Calls Tryd.prog 63 #[.int .u32 x, .int .i64 2] w fun e w' => e = .returned (.int .u32 (Sh.rl x 30)) ∧ Drw w w' := by
  have h : bits .or .u32 (x / 4) (x * 1073741824 % 4294967296) = Sh.rl x 30 := by
    have h1 := rr_rl x 2 (by decide)
    unfold Sh.rr at h1
    rw [u32_mod] at h1
    exact h1
  have H := Lib.hid h
  clear h
  go_enter Tryd.func63, Tryd.ntmps63
  go_wp2
  go_region
  go_wp2
  go_ret
  exact ⟨ret_int H.out, (Drw.refl w).drew⟩
theorem ror_6 (x : Int) (w : World) : Calls Tryd.prog 63 #[.int .u32 x, .int .i64 6] w fun e w' => e = .returned (.int .u32 (Sh.rl x 26)) ∧ Drw w w' := by
  have h : bits .or .u32 (x / 64) (x * 67108864 % 4294967296) = Sh.rl x 26 := by
    have h1 := rr_rl x 6 (by decide)
    unfold Sh.rr at h1
    rw [u32_mod] at h1
    exact h1
  have H := Lib.hid h
  clear h
  go_enter Tryd.func63, Tryd.ntmps63
  go_wp2
  go_region
  go_wp2
  go_ret
  exact ⟨ret_int H.out, (Drw.refl w).drew⟩
theorem ror_7 (x : Int) (w : World) : Calls Tryd.prog 63 #[.int .u32 x, .int .i64 7] w fun e w' => e = .returned (.int .u32 (Sh.rl x 25)) ∧ Drw w w' := by
  have h : bits .or .u32 (x / 128) (x * 33554432 % 4294967296) = Sh.rl x 25 := by
    have h1 := rr_rl x 7 (by decide)
    unfold Sh.rr at h1
    rw [u32_mod] at h1
    exact h1
  have H := Lib.hid h
  clear h
  go_enter Tryd.func63, Tryd.ntmps63
  go_wp2
  go_region
  go_wp2
  go_ret
  exact ⟨ret_int H.out, (Drw.refl w).drew⟩
theorem ror_11 (x : Int) (w : World) : Calls Tryd.prog 63 #[.int .u32 x, .int .i64 11] w fun e w' => e = .returned (.int .u32 (Sh.rl x 21)) ∧ Drw w w' := by
  have h : bits .or .u32 (x / 2048) (x * 2097152 % 4294967296) = Sh.rl x 21 := by
    have h1 := rr_rl x 11 (by decide)
    unfold Sh.rr at h1
    rw [u32_mod] at h1
    exact h1
  have H := Lib.hid h
  clear h
  go_enter Tryd.func63, Tryd.ntmps63
  go_wp2
  go_region
  go_wp2
  go_ret
  exact ⟨ret_int H.out, (Drw.refl w).drew⟩
theorem ror_13 (x : Int) (w : World) : Calls Tryd.prog 63 #[.int .u32 x, .int .i64 13] w fun e w' => e = .returned (.int .u32 (Sh.rl x 19)) ∧ Drw w w' := by
  have h : bits .or .u32 (x / 8192) (x * 524288 % 4294967296) = Sh.rl x 19 := by
    have h1 := rr_rl x 13 (by decide)
    unfold Sh.rr at h1
    rw [u32_mod] at h1
    exact h1
  have H := Lib.hid h
  clear h
  go_enter Tryd.func63, Tryd.ntmps63
  go_wp2
  go_region
  go_wp2
  go_ret
  exact ⟨ret_int H.out, (Drw.refl w).drew⟩
theorem ror_17 (x : Int) (w : World) : Calls Tryd.prog 63 #[.int .u32 x, .int .i64 17] w fun e w' => e = .returned (.int .u32 (Sh.rl x 15)) ∧ Drw w w' := by
  have h : bits .or .u32 (x / 131072) (x * 32768 % 4294967296) = Sh.rl x 15 := by
    have h1 := rr_rl x 17 (by decide)
    unfold Sh.rr at h1
    rw [u32_mod] at h1
    exact h1
  have H := Lib.hid h
  clear h
  go_enter Tryd.func63, Tryd.ntmps63
  go_wp2
  go_region
  go_wp2
  go_ret
  exact ⟨ret_int H.out, (Drw.refl w).drew⟩
theorem ror_18 (x : Int) (w : World) : Calls Tryd.prog 63 #[.int .u32 x, .int .i64 18] w fun e w' => e = .returned (.int .u32 (Sh.rl x 14)) ∧ Drw w w' := by
  have h : bits .or .u32 (x / 262144) (x * 16384 % 4294967296) = Sh.rl x 14 := by
    have h1 := rr_rl x 18 (by decide)
    unfold Sh.rr at h1
    rw [u32_mod] at h1
    exact h1
  have H := Lib.hid h
  clear h
  go_enter Tryd.func63, Tryd.ntmps63
  go_wp2
  go_region
  go_wp2
  go_ret
  exact ⟨ret_int H.out, (Drw.refl w).drew⟩
theorem ror_19 (x : Int) (w : World) : Calls Tryd.prog 63 #[.int .u32 x, .int .i64 19] w fun e w' => e = .returned (.int .u32 (Sh.rl x 13)) ∧ Drw w w' := by
  have h : bits .or .u32 (x / 524288) (x * 8192 % 4294967296) = Sh.rl x 13 := by
    have h1 := rr_rl x 19 (by decide)
    unfold Sh.rr at h1
    rw [u32_mod] at h1
    exact h1
  have H := Lib.hid h
  clear h
  go_enter Tryd.func63, Tryd.ntmps63
  go_wp2
  go_region
  go_wp2
  go_ret
  exact ⟨ret_int H.out, (Drw.refl w).drew⟩
theorem ror_22 (x : Int) (w : World) : Calls Tryd.prog 63 #[.int .u32 x, .int .i64 22] w fun e w' => e = .returned (.int .u32 (Sh.rl x 10)) ∧ Drw w w' := by
  have h : bits .or .u32 (x / 4194304) (x * 1024 % 4294967296) = Sh.rl x 10 := by
    have h1 := rr_rl x 22 (by decide)
    unfold Sh.rr at h1
    rw [u32_mod] at h1
    exact h1
  have H := Lib.hid h
  clear h
  go_enter Tryd.func63, Tryd.ntmps63
  go_wp2
  go_region
  go_wp2
  go_ret
  exact ⟨ret_int H.out, (Drw.refl w).drew⟩
theorem ror_25 (x : Int) (w : World) : Calls Tryd.prog 63 #[.int .u32 x, .int .i64 25] w fun e w' => e = .returned (.int .u32 (Sh.rl x 7)) ∧ Drw w w' := by
  have h : bits .or .u32 (x / 33554432) (x * 128 % 4294967296) = Sh.rl x 7 := by
    have h1 := rr_rl x 25 (by decide)
    unfold Sh.rr at h1
    rw [u32_mod] at h1
    exact h1
  have H := Lib.hid h
  clear h
  go_enter Tryd.func63, Tryd.ntmps63
  go_wp2
  go_region
  go_wp2
  go_ret
  exact ⟨ret_int H.out, (Drw.refl w).drew⟩
end Go.Proofs.YtpjggokaolnbcaaDoor
