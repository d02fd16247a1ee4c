/- The reference's digest: words, the table of numbers, and the bit laws in 32 bits. -/
import Derived.Test.YtpjggokaolnbcaaDoorRefRor
import Derived.Test.YtpjggokaolnbcaaDoorDigSum
namespace Go.Proofs.YtpjggokaolnbcaaDoor
open Go.RowKit
set_option linter.unusedVariables false
namespace Sh
/-- an integer as 32 bits -/
def U (x : Int) : BitVec 32 := BitVec.ofInt 32 x
theorem u32_nat (n : Nat) (h : n < 4294967296) : IntKind.u32.wrap (n : Int) = n := by
  rw [u32_mod]; omega
theorem or_U (x y : Int) : bits .or .u32 x y = ((U x ||| U y).toNat : Int) := u32_nat _ (U x ||| U y).isLt
theorem and_U (x y : Int) : bits .and .u32 x y = ((U x &&& U y).toNat : Int) := u32_nat _ (U x &&& U y).isLt
theorem xor_U (x y : Int) : bits .xor .u32 x y = ((U x ^^^ U y).toNat : Int) := u32_nat _ (U x ^^^ U y).isLt
theorem U_nat (v : BitVec 32) : U ((v.toNat : Nat) : Int) = v := by
  unfold U
  rw [BitVec.ofInt_natCast, BitVec.ofNat_toNat, BitVec.setWidth_eq]
theorem U_mod (x : Int) : U (x % 4294967296) = U x := by
  unfold U
  apply BitVec.eq_of_toInt_eq
  rw [BitVec.toInt_ofInt, BitVec.toInt_ofInt]
  exact Int.emod_bmod (x := x) (n := 2 ^ 32)
theorem U_shl (x : Int) (n : Nat) : U (x * 2 ^ n % 4294967296) = U x <<< n := by
  rw [U_mod]
  unfold U
  rw [BitVec.shiftLeft_eq_mul_twoPow, BitVec.ofInt_mul]
  congr 1
  rw [show ((2 : Int) ^ n) = ((2 ^ n : Nat) : Int) by simp, BitVec.ofInt_natCast]
  apply BitVec.eq_of_toNat_eq
  rw [BitVec.toNat_twoPow, BitVec.toNat_ofNat]
/-- the reference's word of four bytes -/
def rword (c0 c1 c2 c3 : Int) : Int := bits .or .u32 (bits .or .u32 (bits .or .u32 (c0 * 16777216) (c1 * 65536)) (c2 * 256)) c3
theorem U_mul (x y : Int) (n : Nat) (h : y = 2 ^ n) : U (x * y) = U x <<< n := by
  rw [← U_mod, h, U_shl]
theorem wstep_U (n c : Int) : U (wstep n c) = (U n <<< 8) ||| U c := by
  unfold wstep
  rw [or_U, U_nat, u32_mod, U_shl]
theorem rword_eq (c0 c1 c2 c3 : Int) : rword c0 c1 c2 c3 = word c0 c1 c2 c3 := by
  have h : ∀ n c, wstep n c = ((U (wstep n c)).toNat : Int) := fun n c => by
    unfold wstep; rw [or_U, U_nat]
  unfold rword word
  rw [h, or_U, or_U, U_nat, or_U, U_nat, U_mul c0 16777216 24 (by decide), U_mul c1 65536 16 (by decide), U_mul c2 256 8 (by decide), wstep_U, wstep_U, wstep_U, wstep_U]
  have e0 : U 0 = 0#32 := rfl
  rw [e0]
  simp only [BitVec.shiftLeft_or_distrib, ← BitVec.shiftLeft_add, BitVec.zero_shiftLeft, BitVec.zero_or]
end Sh
theorem rword_any (b o n cap : Nat) (c0 c1 c2 c3 : Int) (w : World) (h0 : w.cell? ⟨b, o, none⟩ = some (.int .u8 c0)) (h1 : w.cell? ⟨b, o + 1, none⟩ = some (.int .u8 c1)) (h2 : w.cell? ⟨b, o + 2, none⟩ = some (.int .u8 c2)) (h3 : w.cell? ⟨b, o + 3, none⟩ = some (.int .u8 c3))
    (b0 : 0 ≤ c0 ∧ c0 < 256) (b1 : 0 ≤ c1 ∧ c1 < 256) (b2 : 0 ≤ c2 ∧ c2 < 256) (b3 : 0 ≤ c3 ∧ c3 < 256) (hn : 4 ≤ n) (hc : n ≤ cap) :
    Calls Tryd.prog 62 #[.slice (some ⟨b, o, none⟩) n cap] w fun e w' => e = .returned (.int .u32 (Sh.word c0 c1 c2 c3)) ∧ Drw w w' := by
  have hn' : (4 : Int) ≤ n := by omega
  obtain ⟨b01, b02⟩ := b0
  obtain ⟨b11, b12⟩ := b1
  obtain ⟨b21, b22⟩ := b2
  obtain ⟨b31, b32⟩ := b3
  have HE := Lib.hid (Sh.rword_eq c0 c1 c2 c3)
  go_enter Tryd.func62, Tryd.ntmps62
  go_wp2
  go_quiet (fail)
  go_wp2
  go_ret
  exact ⟨ret_int (by rw [← HE.out]; rfl), (Drw.refl w).drewN _⟩
end Go.Proofs.YtpjggokaolnbcaaDoor
