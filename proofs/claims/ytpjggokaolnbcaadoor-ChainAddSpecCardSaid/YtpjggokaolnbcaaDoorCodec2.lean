/- Package codec: well-formed values. -/
import Derived.Test.YtpjggokaolnbcaaDoorCodec
import Derived.Laws.Rows
namespace Go.Proofs.YtpjggokaolnbcaaDoor
open Go.RowKit
set_option linter.unusedVariables false
theorem retI {k : IntKind} {a b : Int} (h : a = b) : Ending.returned (.int k a) = .returned (.int k b) := by rw [h]
theorem xor_zero (n : Nat) (h : n < 4611686018427387904) : bits .xor .u64 ((n : Int) * 2) 0 = (n : Int) * 2 := by
  have e : bits .xor .u64 ((n : Int) * 2) 0 = IntKind.u64.wrap (((BitVec.ofInt 64 ((n : Int) * 2) ^^^ 0#64).toNat : Nat) : Int) := rfl
  rw [e, BitVec.xor_zero, BitVec.toNat_ofInt]
  simp only [IntKind.wrap, IntKind.bits, IntKind.signed]
  simp
  omega
theorem unsigned_any (n : Nat) (h : n < 4611686018427387904) (w : World) : Calls Tryd.prog 48 #[.int .i64 n] w fun e w' => e = .returned (.int .u64 ((2 * n : Nat) : Int)) ∧ w = w' := by
  have e0 : (n : Int) / 9223372036854775808 = 0 := by omega
  have e1 := xor_zero n h
  have h1 : (n : Int) < 4611686018427387904 := by omega
  go_enter Tryd.func48, Tryd.ntmps48
  go_wp2
  go_ret
  exact ⟨retI (by omega), rfl⟩
def emptyS : ByteArray := ⟨#[]⟩
/-- a value that is an integer -/
def intV (n : Int) : Value := .agg #[.int .i64 1, .int .i64 n, .string ⟨#[]⟩, .slice none 0 0]
set_option maxRecDepth 100000 in
set_option maxHeartbeats 1000000 in
theorem formed_int (n : Int) (w : World) : Calls Tryd.prog 45 #[intV n] w fun e w' => e = .returned (.tuple #[.int .i64 0, .bool true]) ∧ Below w.heap.size w w' := by
  unfold intV
  by_cases h0 : n = 0
  · subst h0
    go_enter Tryd.func45, Tryd.ntmps45
    go_wp2
    go_ret2
    exact ⟨rfl, ((Below.refl _ _).alloc (Nat.le_refl _) _).alloc (by simp) _⟩
  · have h1 : (n == 0) = false := by simp [h0]
    go_enter Tryd.func45, Tryd.ntmps45
    go_wp2
    go_ret2
    exact ⟨rfl, ((Below.refl _ _).alloc (Nat.le_refl _) _).alloc (by simp) _⟩
/-- a list of values -/
def listV (A : Option Addr) (n c : Nat) : Value := .agg #[.int .i64 3, .int .i64 0, .string ⟨#[]⟩, .slice A n c]
def intCells (ns : List Int) : List Value := ns.flatMap fun n => [.int .i64 1, .int .i64 n, .string ⟨#[]⟩, .slice none 0 0]
theorem intCells_length (ns : List Int) : (intCells ns).length = ns.length * 4 := by
  induction ns with
  | nil => rfl
  | cons a l ih => simp only [intCells, List.flatMap_cons, List.length_append, List.length_cons, List.length_nil] at *; omega
set_option maxRecDepth 100000 in
set_option maxHeartbeats 1000000 in
theorem formed_two (g c : Nat) (n1 n2 : Int) (w : World) (hr : Rd w w.heap.size 4 (some ⟨g, 0, none⟩) 2 (intCells [n1, n2])) :
    Calls Tryd.prog 45 #[listV (some ⟨g, 0, none⟩) 2 c] w fun e w' => e = .returned (.tuple #[.int .i64 1, .bool true]) ∧ Below w.heap.size w w' := by
  unfold listV
  obtain ⟨b, o, e, hb, hc⟩ := hr.2 (by omega)
  injection e with e
  injection e with e1 e2
  subst e1; subst e2
  have q0 : w.cell? ⟨g, 0, none⟩ = some (.int .i64 1) := hc 0 _ rfl
  have q1 : w.cell? ⟨g, 1, none⟩ = some (.int .i64 n1) := hc 1 _ rfl
  have q2 : w.cell? ⟨g, 2, none⟩ = some (.string ⟨#[]⟩) := hc 2 _ rfl
  have q3 : w.cell? ⟨g, 3, none⟩ = some (.slice none 0 0) := hc 3 _ rfl
  have q4 : w.cell? ⟨g, 4, none⟩ = some (.int .i64 1) := hc 4 _ rfl
  have q5 : w.cell? ⟨g, 5, none⟩ = some (.int .i64 n2) := hc 5 _ rfl
  have q6 : w.cell? ⟨g, 6, none⟩ = some (.string ⟨#[]⟩) := hc 6 _ rfl
  have q7 : w.cell? ⟨g, 7, none⟩ = some (.slice none 0 0) := hc 7 _ rfl
  clear hc hr
  go_enter Tryd.func45, Tryd.ntmps45
  go_wp2
  refine wp_loop_rounds 3 ?_
  rw [rounds_succ]
  go_wp2_with fail
  refine (formed_int n1 _).mono ?_
  rintro e w1 ⟨rfl, hb1⟩
  have hB1 := ((((Below.refl w.heap.size w).alloc (Nat.le_refl _) _).alloc (by simp) _).alloc (by simp; omega) _).trans (hb1.mono (by simp; omega))
  clear hb1
  have p4 := (hB1.cell (p := ⟨g, 4, none⟩) hb).trans q4
  have p5 := (hB1.cell (p := ⟨g, 5, none⟩) hb).trans q5
  have p6 := (hB1.cell (p := ⟨g, 6, none⟩) hb).trans q6
  have p7 := (hB1.cell (p := ⟨g, 7, none⟩) hb).trans q7
  go_wp2
  rw [rounds_succ]
  go_wp2_with fail
  refine (formed_int n2 _).mono ?_
  rintro e w2 ⟨rfl, hb2⟩
  have hB2 := (hB1.alloc hB1.size _).trans (hb2.mono (by have := hB1.size; simp; omega))
  clear hb2
  go_wp2
  rw [rounds_succ]
  go_wp2
  go_ret2
  exact ⟨rfl, hB2⟩
theorem check_two (g c : Nat) (n1 n2 : Int) (w : World) (hr : Rd w w.heap.size 4 (some ⟨g, 0, none⟩) 2 (intCells [n1, n2])) :
    Calls Tryd.prog 35 #[listV (some ⟨g, 0, none⟩) 2 c] w fun e w' => e = .returned (.int .i64 0) ∧ Below w.heap.size w w' := by
  have hR := Lib.hid ((hr.alloc (Nat.le_refl _) (.cells #[.int .i64 3, .int .i64 0, .string ⟨#[]⟩, .slice (some ⟨g, 0, none⟩) 2 c] 52)).more (B' := w.heap.size + 1) (by omega))
  clear hr
  unfold listV
  go_enter Tryd.func35, Tryd.ntmps35
  go_wp2_with fail
  refine (formed_two g c n1 n2 _ (by rw [World.size_alloc]; exact hR.out)).mono ?_
  rintro e w1 ⟨rfl, hb1⟩
  have hB1 := ((Below.refl w.heap.size w).alloc (Nat.le_refl _) _).trans (hb1.mono (by simp))
  clear hb1
  go_wp2
  go_ret
  exact ⟨rfl, hB1⟩
end Go.Proofs.YtpjggokaolnbcaaDoor
