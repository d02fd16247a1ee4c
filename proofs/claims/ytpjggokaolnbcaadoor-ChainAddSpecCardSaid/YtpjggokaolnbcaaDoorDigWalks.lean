/- SHA-256, the small functions: rotations, words, numbers into bytes. -/
import Derived.Test.YtpjggokaolnbcaaDoorChecked
import Derived.WalkKit
import Derived.Handy
import Derived.WalkLawsBesides
import Derived.WalkSpells
import Derived.Outline
import Derived.IntWalk
import Derived.Lib.Hide
import Derived.Deep.LoopGhost
import Derived.Test.YtpjggokaolnbcaaDoorMem
namespace Go.Proofs.YtpjggokaolnbcaaDoor
open Go.RowKit
set_option linter.unusedVariables false
theorem ret_int {k : IntKind} {a b : Int} (h : a = b) : Ending.returned (.int k a) = .returned (.int k b) := by rw [h]
namespace Sh
def rl (x : Int) (s : Nat) : Int := bits .or .u32 (IntKind.u32.wrap (x * 2 ^ s)) (x / 2 ^ (32 - s))
def rot (x : Int) (a b c : Nat) : Int := bits .xor .u32 (bits .xor .u32 (rl x a) (rl x b)) (rl x c)
def wstep (n c : Int) : Int := bits .or .u32 (IntKind.u32.wrap (n * 2 ^ 8)) c
def word (c0 c1 c2 c3 : Int) : Int := wstep (wstep (wstep (wstep 0 c0) c1) c2) c3
/-- the byte number i of a number, the least significant one first -/
def byte (n : Int) (i : Nat) : Int := IntKind.u8.wrap (n / 2 ^ (8 * i))
/-- the bytes of a number, laid into l from o on, the most significant one first; the k least significant ones are laid -/
def put (l : List Int) (o m : Nat) (n : Int) : Nat → List Int
  | 0 => l
  | k + 1 => (put l o m n k).set (o + (m - 1 - k)) (byte n k)
theorem put_length (l : List Int) (o m : Nat) (n : Int) : ∀ k, (put l o m n k).length = l.length
  | 0 => rfl
  | k + 1 => by rw [put, List.length_set, put_length l o m n k]
end Sh
theorem rot_any (x k : Int) (s : Nat) (h : bits .and .u64 (IntKind.u64.wrap k) 31 = (s : Int)) (hs : s ≤ 31) (w : World) :
    Calls Tryd.prog 54 #[.int .u32 x, .int .i64 k] w fun e w' => e = .returned (.int .u32 (Sh.rl x s)) ∧ w = w' := by
  go_enter Tryd.func54, Tryd.ntmps54
  go_wp2
  go_ret
  exact ⟨rfl, rfl⟩
theorem rotated_6 (x : Int) (w : World) : Calls Tryd.prog 55 #[.int .u32 x, .int .i64 6, .int .i64 11, .int .i64 25] w fun e w' => e = .returned (.int .u32 (Sh.rot x 26 21 7)) ∧ w = w' := by
  go_enter Tryd.func55, Tryd.ntmps55
  go_wp2_with (first | (go_at_call 54; (with_reducible refine (rot_any _ (-6) 26 (by decide) (by decide) _).mono ?_); rintro e w' ⟨rfl, rfl⟩) | (go_at_call 54; (with_reducible refine (rot_any _ (-11) 21 (by decide) (by decide) _).mono ?_); rintro e w' ⟨rfl, rfl⟩) | (go_at_call 54; (with_reducible refine (rot_any _ (-25) 7 (by decide) (by decide) _).mono ?_); rintro e w' ⟨rfl, rfl⟩))
  go_ret
  exact ⟨rfl, rfl⟩
theorem rotated_2 (x : Int) (w : World) : Calls Tryd.prog 55 #[.int .u32 x, .int .i64 2, .int .i64 13, .int .i64 22] w fun e w' => e = .returned (.int .u32 (Sh.rot x 30 19 10)) ∧ w = w' := by
  go_enter Tryd.func55, Tryd.ntmps55
  go_wp2_with (first | (go_at_call 54; (with_reducible refine (rot_any _ (-2) 30 (by decide) (by decide) _).mono ?_); rintro e w' ⟨rfl, rfl⟩) | (go_at_call 54; (with_reducible refine (rot_any _ (-13) 19 (by decide) (by decide) _).mono ?_); rintro e w' ⟨rfl, rfl⟩) | (go_at_call 54; (with_reducible refine (rot_any _ (-22) 10 (by decide) (by decide) _).mono ?_); rintro e w' ⟨rfl, rfl⟩))
  go_ret
  exact ⟨rfl, rfl⟩
theorem wstep_zero (c : Int) : Sh.wstep 0 c = bits .or .u32 0 c := by unfold Sh.wstep; rw [Int.zero_mul]; rfl
theorem word_any (b o n cap : Nat) (c0 c1 c2 c3 : Int) (w : World) (h0 : w.cell? ⟨b, o, none⟩ = some (.int .u8 c0)) (h1 : w.cell? ⟨b, o + 1, none⟩ = some (.int .u8 c1)) (h2 : w.cell? ⟨b, o + 2, none⟩ = some (.int .u8 c2)) (h3 : w.cell? ⟨b, o + 3, none⟩ = some (.int .u8 c3))
    (b0 : 0 ≤ c0 ∧ c0 < 256) (b1 : 0 ≤ c1 ∧ c1 < 256) (b2 : 0 ≤ c2 ∧ c2 < 256) (b3 : 0 ≤ c3 ∧ c3 < 256) (hn : n ≤ cap) (hc : 4 ≤ cap) :
    Calls Tryd.prog 53 #[.slice (some ⟨b, o, none⟩) n cap] w fun e w' => e = .returned (.int .u32 (Sh.word c0 c1 c2 c3)) ∧ w = w' := by
  have hc' : (4 : Int) ≤ cap := by omega
  obtain ⟨b01, b02⟩ := b0
  obtain ⟨b11, b12⟩ := b1
  obtain ⟨b21, b22⟩ := b2
  obtain ⟨b31, b32⟩ := b3
  go_enter Tryd.func53, Tryd.ntmps53
  go_wp2
  refine wp_loop_rounds 5 ?_
  rw [rounds_succ]
  go_wp2
  rw [rounds_succ]
  go_wp2
  rw [rounds_succ]
  go_wp2
  rw [rounds_succ]
  go_wp2
  rw [rounds_succ]
  go_wp2
  go_ret
  exact ⟨ret_int (by rw [Sh.word, wstep_zero]; rfl), rfl⟩
set_option maxHeartbeats 400000 in
theorem put_any (g o m c : Nat) (t : TypeId) (l : List Int) (n : Int) (w : World) (hI : Ints w g t .u8 l) (hm : o + m ≤ l.length) (hm8 : m ≤ 8) (hmc : m ≤ c) :
    Calls Tryd.prog 42 #[.slice (some ⟨g, o, none⟩) m c, .int .u64 n] w fun e w' => e = .returned (.tuple #[]) ∧ Ints w' g t .u8 (Sh.put l o m n m) ∧ w.grownBy w' (some g) := by
  go_enter Tryd.func42, Tryd.ntmps42
  go_wp2
  go_loopw [7] (fun i wr => ∃ k : Nat, k ≤ m ∧ i = .int .i64 k ∧ Ints wr g t .u8 (Sh.put l o m n k) ∧ w.grownBy wr (some g)) (fun i _ => m - (intOf i).toNat)
  case atStart => exact ⟨0, Nat.zero_le _, rfl, hI, World.grownBy.refl _ _⟩
  case round =>
    obtain ⟨k, hk, rfl, hJ, hg⟩ := hrel
    by_cases hlt : k < m
    · have e1 : (m : Int) - 1 - (k : Int) = ((m - 1 - k : Nat) : Int) := by omega
      have e2 : IntKind.i64.wrap ((m : Int) - 1) = (m : Int) - 1 := IntWalk.i64_in _ (by omega)
      have hc := hJ.cell (i := o + (m - 1 - k)) (by rw [Sh.put_length]; omega)
      have hf := hJ.frozen (o + (m - 1 - k))
      go_wp2
      go_roundw
      case rel => exact ⟨k + 1, by omega, by go_num, hJ.set_ _ _, grown_set hg _ _⟩
      case measure => simp [intOf]; omega
    · obtain rfl : k = m := by omega
      go_wp2
      go_end0
      exact ⟨rfl, hJ, hg⟩
end Go.Proofs.YtpjggokaolnbcaaDoor
