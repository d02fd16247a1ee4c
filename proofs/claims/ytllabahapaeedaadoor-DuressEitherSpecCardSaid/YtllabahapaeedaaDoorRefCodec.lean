/- The reference's codec: the checks of a list of two numbers, the unsigned form. -/
import Derived.Test.YtllabahapaeedaaDoorDuSpecEither
namespace Go.Proofs.YtllabahapaeedaaDoor
open Go.RowKit
set_option linter.unusedVariables false
theorem box_cell (w : World) (cs : Array Value) (t : TypeId) (i : Nat) (v : Value) (h : cs[i]? = some v) : (w.alloc (.cells cs t)).cell? ⟨w.heap.size, i, none⟩ = some v := by
  rw [cell_of_row _ w.heap.size i _ _ _ (heap_alloc_new w _)]; exact h
set_option maxRecDepth 100000 in
set_option maxHeartbeats 1000000 in
theorem rformed_int (n : Int) (w : World) : Calls Tryd.prog 53 #[intV n] w fun e w' => e = .returned (.bool true) ∧ Below w.heap.size w w' := by
  unfold intV
  go_enter Tryd.func53, Tryd.ntmps53
  go_wp2
  go_ret
  exact ⟨rfl, (Below.refl _ _).alloc (Nat.le_refl _) _⟩
set_option maxRecDepth 100000 in
set_option maxHeartbeats 1000000 in
theorem rdepth_int (n : Int) (w : World) : Calls Tryd.prog 54 #[intV n] w fun e w' => e = .returned (.int .i64 0) ∧ Below w.heap.size w w' := by
  unfold intV
  go_enter Tryd.func54, Tryd.ntmps54
  go_wp2
  go_ret
  exact ⟨rfl, (Below.refl _ _).alloc (Nat.le_refl _) _⟩
def lcells (g c : Nat) : Obj := .cells #[.int .i64 3, .int .i64 0, .string ⟨#[]⟩, .slice (some ⟨g, 0, none⟩) 2 c] 58
theorem rd_cells {g : Nat} {n1 n2 : Int} {w : World} {B : Nat} (hr : Rd w B 4 (some ⟨g, 0, none⟩) 2 (intCells [n1, n2])) :
    g < B ∧ w.cell? ⟨g, 0, none⟩ = some (.int .i64 1) ∧ w.cell? ⟨g, 1, none⟩ = some (.int .i64 n1) ∧ w.cell? ⟨g, 2, none⟩ = some (.string ⟨#[]⟩) ∧ w.cell? ⟨g, 3, none⟩ = some (.slice none 0 0) ∧
      w.cell? ⟨g, 4, none⟩ = some (.int .i64 1) ∧ w.cell? ⟨g, 5, none⟩ = some (.int .i64 n2) ∧ w.cell? ⟨g, 6, none⟩ = some (.string ⟨#[]⟩) ∧ w.cell? ⟨g, 7, none⟩ = some (.slice none 0 0) := by
  obtain ⟨b, o, e, hb, hc⟩ := hr.2 (by omega)
  injection e with e
  injection e with e1 e2
  subst e1; subst e2
  exact ⟨hb, hc 0 _ rfl, hc 1 _ rfl, hc 2 _ rfl, hc 3 _ rfl, hc 4 _ rfl, hc 5 _ rfl, hc 6 _ rfl, hc 7 _ rfl⟩
set_option maxRecDepth 100000 in
set_option maxHeartbeats 1000000 in
theorem rformed_two (g c : Nat) (n1 n2 : Int) (w : World) (hr : Rd w w.heap.size 4 (some ⟨g, 0, none⟩) 2 (intCells [n1, n2])) :
    Calls Tryd.prog 53 #[listV (some ⟨g, 0, none⟩) 2 c] w fun e w' => e = .returned (.bool true) ∧ Below w.heap.size w w' := by
  obtain ⟨hb, q0, q1, q2, q3, q4, q5, q6, q7⟩ := rd_cells hr
  clear hr
  have hB := (Below.refl w.heap.size w).alloc (Nat.le_refl _) (lcells g c)
  have q0 := (hB.cell (p := ⟨g, 0, none⟩) hb).trans q0
  have q1 := (hB.cell (p := ⟨g, 1, none⟩) hb).trans q1
  have q2 := (hB.cell (p := ⟨g, 2, none⟩) hb).trans q2
  have q3 := (hB.cell (p := ⟨g, 3, none⟩) hb).trans q3
  have q4 := (hB.cell (p := ⟨g, 4, none⟩) hb).trans q4
  have q5 := (hB.cell (p := ⟨g, 5, none⟩) hb).trans q5
  have q6 := (hB.cell (p := ⟨g, 6, none⟩) hb).trans q6
  have q7 := (hB.cell (p := ⟨g, 7, none⟩) hb).trans q7
  have k0 : (w.alloc (lcells g c)).cell? ⟨w.heap.size, 0, none⟩ = some (.int .i64 3) := box_cell w _ _ 0 _ rfl
  have k1 : (w.alloc (lcells g c)).cell? ⟨w.heap.size, 1, none⟩ = some (.int .i64 0) := box_cell w _ _ 1 _ rfl
  have k2 : (w.alloc (lcells g c)).cell? ⟨w.heap.size, 2, none⟩ = some (.string ⟨#[]⟩) := box_cell w _ _ 2 _ rfl
  have k3 : (w.alloc (lcells g c)).cell? ⟨w.heap.size, 3, none⟩ = some (.slice (some ⟨g, 0, none⟩) 2 c) := box_cell w _ _ 3 _ rfl
  have hs : w.heap.size < (w.alloc (lcells g c)).heap.size := by simp
  unfold lcells at *
  unfold listV
  go_enter Tryd.func53, Tryd.ntmps53
  go_wp2
  refine wp_loop_rounds 3 ?_
  rw [rounds_succ]
  go_wp2_with fail
  refine (rformed_int n1 _).mono ?_
  rintro e w1 ⟨rfl, hb1⟩
  have q0 := (hb1.cell (p := ⟨g, 0, none⟩) (by show g < _; omega)).trans q0
  have q1 := (hb1.cell (p := ⟨g, 1, none⟩) (by show g < _; omega)).trans q1
  have q2 := (hb1.cell (p := ⟨g, 2, none⟩) (by show g < _; omega)).trans q2
  have q3 := (hb1.cell (p := ⟨g, 3, none⟩) (by show g < _; omega)).trans q3
  have q4 := (hb1.cell (p := ⟨g, 4, none⟩) (by show g < _; omega)).trans q4
  have q5 := (hb1.cell (p := ⟨g, 5, none⟩) (by show g < _; omega)).trans q5
  have q6 := (hb1.cell (p := ⟨g, 6, none⟩) (by show g < _; omega)).trans q6
  have q7 := (hb1.cell (p := ⟨g, 7, none⟩) (by show g < _; omega)).trans q7
  have k0 := (hb1.cell (p := ⟨w.heap.size, 0, none⟩) hs).trans k0
  have k1 := (hb1.cell (p := ⟨w.heap.size, 1, none⟩) hs).trans k1
  have k2 := (hb1.cell (p := ⟨w.heap.size, 2, none⟩) hs).trans k2
  have k3 := (hb1.cell (p := ⟨w.heap.size, 3, none⟩) hs).trans k3
  have hs := Nat.lt_of_lt_of_le hs hb1.size
  have hB := hB.trans (hb1.mono hB.size)
  clear hb1
  go_wp2
  rw [rounds_succ]
  go_wp2_with fail
  refine (rformed_int n2 _).mono ?_
  rintro e w2 ⟨rfl, hb1⟩
  have q0 := (hb1.cell (p := ⟨g, 0, none⟩) (by show g < _; omega)).trans q0
  have q1 := (hb1.cell (p := ⟨g, 1, none⟩) (by show g < _; omega)).trans q1
  have q2 := (hb1.cell (p := ⟨g, 2, none⟩) (by show g < _; omega)).trans q2
  have q3 := (hb1.cell (p := ⟨g, 3, none⟩) (by show g < _; omega)).trans q3
  have q4 := (hb1.cell (p := ⟨g, 4, none⟩) (by show g < _; omega)).trans q4
  have q5 := (hb1.cell (p := ⟨g, 5, none⟩) (by show g < _; omega)).trans q5
  have q6 := (hb1.cell (p := ⟨g, 6, none⟩) (by show g < _; omega)).trans q6
  have q7 := (hb1.cell (p := ⟨g, 7, none⟩) (by show g < _; omega)).trans q7
  have k0 := (hb1.cell (p := ⟨w.heap.size, 0, none⟩) hs).trans k0
  have k1 := (hb1.cell (p := ⟨w.heap.size, 1, none⟩) hs).trans k1
  have k2 := (hb1.cell (p := ⟨w.heap.size, 2, none⟩) hs).trans k2
  have k3 := (hb1.cell (p := ⟨w.heap.size, 3, none⟩) hs).trans k3
  have hs := Nat.lt_of_lt_of_le hs hb1.size
  have hB := hB.trans (hb1.mono hB.size)
  clear hb1
  go_wp2
  rw [rounds_succ]
  go_wp2
  go_ret
  exact ⟨rfl, hB⟩
set_option maxRecDepth 100000 in
set_option maxHeartbeats 1000000 in
theorem rdepth_two (g c : Nat) (n1 n2 : Int) (w : World) (hr : Rd w w.heap.size 4 (some ⟨g, 0, none⟩) 2 (intCells [n1, n2])) :
    Calls Tryd.prog 54 #[listV (some ⟨g, 0, none⟩) 2 c] w fun e w' => e = .returned (.int .i64 1) ∧ Below w.heap.size w w' := by
  obtain ⟨hb, q0, q1, q2, q3, q4, q5, q6, q7⟩ := rd_cells hr
  clear hr
  have hB := (Below.refl w.heap.size w).alloc (Nat.le_refl _) (lcells g c)
  have q0 := (hB.cell (p := ⟨g, 0, none⟩) hb).trans q0
  have q1 := (hB.cell (p := ⟨g, 1, none⟩) hb).trans q1
  have q2 := (hB.cell (p := ⟨g, 2, none⟩) hb).trans q2
  have q3 := (hB.cell (p := ⟨g, 3, none⟩) hb).trans q3
  have q4 := (hB.cell (p := ⟨g, 4, none⟩) hb).trans q4
  have q5 := (hB.cell (p := ⟨g, 5, none⟩) hb).trans q5
  have q6 := (hB.cell (p := ⟨g, 6, none⟩) hb).trans q6
  have q7 := (hB.cell (p := ⟨g, 7, none⟩) hb).trans q7
  have k0 : (w.alloc (lcells g c)).cell? ⟨w.heap.size, 0, none⟩ = some (.int .i64 3) := box_cell w _ _ 0 _ rfl
  have k1 : (w.alloc (lcells g c)).cell? ⟨w.heap.size, 1, none⟩ = some (.int .i64 0) := box_cell w _ _ 1 _ rfl
  have k2 : (w.alloc (lcells g c)).cell? ⟨w.heap.size, 2, none⟩ = some (.string ⟨#[]⟩) := box_cell w _ _ 2 _ rfl
  have k3 : (w.alloc (lcells g c)).cell? ⟨w.heap.size, 3, none⟩ = some (.slice (some ⟨g, 0, none⟩) 2 c) := box_cell w _ _ 3 _ rfl
  have hs : w.heap.size < (w.alloc (lcells g c)).heap.size := by simp
  unfold lcells at *
  unfold listV
  go_enter Tryd.func54, Tryd.ntmps54
  go_wp2
  refine wp_loop_rounds 3 ?_
  rw [rounds_succ]
  go_wp2_with fail
  refine (rdepth_int n1 _).mono ?_
  rintro e w1 ⟨rfl, hb1⟩
  have q0 := (hb1.cell (p := ⟨g, 0, none⟩) (by show g < _; omega)).trans q0
  have q1 := (hb1.cell (p := ⟨g, 1, none⟩) (by show g < _; omega)).trans q1
  have q2 := (hb1.cell (p := ⟨g, 2, none⟩) (by show g < _; omega)).trans q2
  have q3 := (hb1.cell (p := ⟨g, 3, none⟩) (by show g < _; omega)).trans q3
  have q4 := (hb1.cell (p := ⟨g, 4, none⟩) (by show g < _; omega)).trans q4
  have q5 := (hb1.cell (p := ⟨g, 5, none⟩) (by show g < _; omega)).trans q5
  have q6 := (hb1.cell (p := ⟨g, 6, none⟩) (by show g < _; omega)).trans q6
  have q7 := (hb1.cell (p := ⟨g, 7, none⟩) (by show g < _; omega)).trans q7
  have k0 := (hb1.cell (p := ⟨w.heap.size, 0, none⟩) hs).trans k0
  have k1 := (hb1.cell (p := ⟨w.heap.size, 1, none⟩) hs).trans k1
  have k2 := (hb1.cell (p := ⟨w.heap.size, 2, none⟩) hs).trans k2
  have k3 := (hb1.cell (p := ⟨w.heap.size, 3, none⟩) hs).trans k3
  have hs := Nat.lt_of_lt_of_le hs hb1.size
  have hB := hB.trans (hb1.mono hB.size)
  clear hb1
  go_wp2
  rw [rounds_succ]
  go_wp2_with fail
  refine (rdepth_int n2 _).mono ?_
  rintro e w2 ⟨rfl, hb1⟩
  have q0 := (hb1.cell (p := ⟨g, 0, none⟩) (by show g < _; omega)).trans q0
  have q1 := (hb1.cell (p := ⟨g, 1, none⟩) (by show g < _; omega)).trans q1
  have q2 := (hb1.cell (p := ⟨g, 2, none⟩) (by show g < _; omega)).trans q2
  have q3 := (hb1.cell (p := ⟨g, 3, none⟩) (by show g < _; omega)).trans q3
  have q4 := (hb1.cell (p := ⟨g, 4, none⟩) (by show g < _; omega)).trans q4
  have q5 := (hb1.cell (p := ⟨g, 5, none⟩) (by show g < _; omega)).trans q5
  have q6 := (hb1.cell (p := ⟨g, 6, none⟩) (by show g < _; omega)).trans q6
  have q7 := (hb1.cell (p := ⟨g, 7, none⟩) (by show g < _; omega)).trans q7
  have k0 := (hb1.cell (p := ⟨w.heap.size, 0, none⟩) hs).trans k0
  have k1 := (hb1.cell (p := ⟨w.heap.size, 1, none⟩) hs).trans k1
  have k2 := (hb1.cell (p := ⟨w.heap.size, 2, none⟩) hs).trans k2
  have k3 := (hb1.cell (p := ⟨w.heap.size, 3, none⟩) hs).trans k3
  have hs := Nat.lt_of_lt_of_le hs hb1.size
  have hB := hB.trans (hb1.mono hB.size)
  clear hb1
  go_wp2
  rw [rounds_succ]
  go_wp2
  go_ret
  exact ⟨rfl, hB⟩
theorem rcheck_two (g c : Nat) (n1 n2 : Int) (w : World) (hr : Rd w w.heap.size 4 (some ⟨g, 0, none⟩) 2 (intCells [n1, n2])) :
    Calls Tryd.prog 42 #[listV (some ⟨g, 0, none⟩) 2 c] w fun e w' => e = .returned (.int .i64 0) ∧ Below w.heap.size w w' := by
  have hB := (Below.refl w.heap.size w).alloc (Nat.le_refl _) (lcells g c)
  have hR := (hr.alloc (Nat.le_refl _) (lcells g c)).more (B' := w.heap.size + 1) (by omega)
  have k0 : (w.alloc (lcells g c)).cell? ⟨w.heap.size, 0, none⟩ = some (.int .i64 3) := box_cell w _ _ 0 _ rfl
  have k1 : (w.alloc (lcells g c)).cell? ⟨w.heap.size, 1, none⟩ = some (.int .i64 0) := box_cell w _ _ 1 _ rfl
  have k2 : (w.alloc (lcells g c)).cell? ⟨w.heap.size, 2, none⟩ = some (.string ⟨#[]⟩) := box_cell w _ _ 2 _ rfl
  have k3 : (w.alloc (lcells g c)).cell? ⟨w.heap.size, 3, none⟩ = some (.slice (some ⟨g, 0, none⟩) 2 c) := box_cell w _ _ 3 _ rfl
  have hs : w.heap.size < (w.alloc (lcells g c)).heap.size := by simp
  have hRH := Lib.hid hR
  clear hr hR
  have hf := rformed_two g c n1 n2
  have hd := rdepth_two g c n1 n2
  unfold lcells at *
  unfold listV at *
  go_enter Tryd.func42, Tryd.ntmps42
  go_wp2_with fail
  refine (hf _ (by rw [World.size_alloc]; exact hRH.out)).mono ?_
  rintro e w1 ⟨rfl, hb1⟩
  have hR1 : Rd w1 w1.heap.size 4 (some ⟨g, 0, none⟩) 2 (intCells [n1, n2]) := ((hRH.out.below (hb1.mono (by simp))).more (by have := hb1.size; simp at this; omega))
  have k0 := (hb1.cell (p := ⟨w.heap.size, 0, none⟩) hs).trans k0
  have k1 := (hb1.cell (p := ⟨w.heap.size, 1, none⟩) hs).trans k1
  have k2 := (hb1.cell (p := ⟨w.heap.size, 2, none⟩) hs).trans k2
  have k3 := (hb1.cell (p := ⟨w.heap.size, 3, none⟩) hs).trans k3
  have hB := hB.trans (hb1.mono hB.size)
  have HR1 := Lib.hid hR1
  clear hb1 hR1
  go_wp2_with fail
  refine (hd _ HR1.out).mono ?_
  rintro e w2 ⟨rfl, hb2⟩
  have hB := hB.trans (hb2.mono hB.size)
  clear hb2
  go_wp2
  go_ret
  exact ⟨rfl, hB⟩
theorem runsigned_any (n : Nat) (h : n < 4611686018427387904) (w : World) : Calls Tryd.prog 56 #[.int .i64 n] w fun e w' => e = .returned (.int .u64 ((2 * n : Nat) : Int)) ∧ w = w' := by
  have h1 : (n : Int) < 4611686018427387904 := by omega
  go_enter Tryd.func56, Tryd.ntmps56
  go_wp2
  go_ret
  exact ⟨ret_int (by omega), rfl⟩
end Go.Proofs.YtllabahapaeedaaDoor
