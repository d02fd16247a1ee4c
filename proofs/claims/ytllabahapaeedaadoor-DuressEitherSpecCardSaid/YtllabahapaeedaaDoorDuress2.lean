/- Package duress: tags. -/
import Derived.Test.YtllabahapaeedaaDoorDuress
namespace Go.Proofs.YtllabahapaeedaaDoor
open Go.RowKit
set_option linter.unusedVariables false
def occV (a b c h : Int) : Value := .agg #[.int .i64 a, .int .i64 b, .int .i64 c, .int .i64 h]
theorem bel_keep {B : Nat} {W w1 : World} (hb : Below B W w1) : ∀ p : Addr, p.block < B → w1.cell? p = W.cell? p := fun p hp => hb.cell hp
set_option maxRecDepth 100000 in
set_option maxHeartbeats 400000 in
theorem tag_any (a b c h : Int) (co : Bool) (w : World) : Calls Tryd.prog 85 #[occV a b c h, .bool co] w fun e w' => e = .returned (.int .i64 (Du.tag a b c h co)) ∧ Below w.heap.size w w' := by
  have q0 : (w.alloc (.cells #[.int .i64 a, .int .i64 b, .int .i64 c, .int .i64 h] 62)).cell? ⟨w.heap.size, 0, none⟩ = some (.int .i64 a) := by rw [cell_of_row _ w.heap.size 0 _ _ _ (heap_alloc_new w _)]; rfl
  have q1 : (w.alloc (.cells #[.int .i64 a, .int .i64 b, .int .i64 c, .int .i64 h] 62)).cell? ⟨w.heap.size, 1, none⟩ = some (.int .i64 b) := by rw [cell_of_row _ w.heap.size 1 _ _ _ (heap_alloc_new w _)]; rfl
  have q2 : (w.alloc (.cells #[.int .i64 a, .int .i64 b, .int .i64 c, .int .i64 h] 62)).cell? ⟨w.heap.size, 2, none⟩ = some (.int .i64 c) := by rw [cell_of_row _ w.heap.size 2 _ _ _ (heap_alloc_new w _)]; rfl
  have q3 : (w.alloc (.cells #[.int .i64 a, .int .i64 b, .int .i64 c, .int .i64 h] 62)).cell? ⟨w.heap.size, 3, none⟩ = some (.int .i64 h) := by rw [cell_of_row _ w.heap.size 3 _ _ _ (heap_alloc_new w _)]; rfl
  unfold occV
  go_enter Tryd.func85, Tryd.ntmps85
  go_wp2
  go_region_held3 (fun w' => w'.cell? ⟨w.heap.size, 0, none⟩ = some (.int .i64 a) ∧ w'.cell? ⟨w.heap.size, 1, none⟩ = some (.int .i64 b) ∧ w'.cell? ⟨w.heap.size, 3, none⟩ = some (.int .i64 h))
    (first
      | (go_keep; done)
      | exact ⟨(hk ⟨w.heap.size, 0, none⟩ (by simp; omega)).trans (cell_box2 w _ _ q0), (hk ⟨w.heap.size, 1, none⟩ (by simp; omega)).trans (cell_box2 w _ _ q1), (hk ⟨w.heap.size, 3, none⟩ (by simp; omega)).trans (cell_box2 w _ _ q3)⟩)
    ((first | (go_at_call 21; (with_reducible refine (mul_any _ _ _).mono ?_); rintro e w' ⟨rfl, rfl⟩) | (go_at_call 28; (refine (dsum_two (w.heap.size + 1) a (Fm.ml b h) _ (by go_cell) (by go_cell) (by simp)).mono ?_); rintro e w1 ⟨rfl, hb1⟩; have hk := bel_keep hb1)))
  have hB1 := ((((Below.refl w.heap.size w).alloc (Nat.le_refl _) _).alloc (by simp) _).drew).trans (hb1.mono (by simp; omega))
  have q2' : w1.cell? ⟨w.heap.size, 2, none⟩ = some (.int .i64 c) := (hk ⟨w.heap.size, 2, none⟩ (by simp; omega)).trans (cell_box2 w _ _ q2)
  clear hk hb1 q0 q1 q2 q3
  cases co with
  | false =>
    go_wp2
    go_ret
    exact ⟨rfl, hB1⟩
  | true =>
    go_wp2_with fail
    refine (dsum_new _ _ _).mono ?_
    rintro e w2 ⟨rfl, hb2⟩
    go_wp2
    go_ret
    exact ⟨rfl, (hB1.alloc hB1.size _).trans (hb2.mono (by have := hB1.size; omega))⟩
/-- what read answers -/
def Du.said (a b c h t : Int) : Bool × Bool := if t = Du.tag a b c h false then (false, true) else if t = Du.tag a b c h true then (true, true) else (false, false)
theorem read_occ (a b c h t : Int) (w : World) : Calls Tryd.prog 84 #[occV a b c h, .int .i64 t] w fun e w' => e = .returned (.tuple #[.bool (Du.said a b c h t).1, .bool (Du.said a b c h t).2]) ∧ Below w.heap.size w w' := by
  have ht := tag_any a b c h
  unfold occV at ht ⊢
  have htf := ht false
  have htt := ht true
  clear ht
  obtain ⟨S, hS⟩ : ∃ S, Du.said a b c h t = S := ⟨_, rfl⟩
  have hS1 := hS
  unfold Du.said at hS1
  rw [hS]
  clear hS
  generalize Du.tag a b c h false = p at *
  generalize Du.tag a b c h true = r at *
  by_cases h1 : t = p
  · rw [if_pos h1] at hS1
    have H := Lib.hid hS1
    have hb : (t == p) = true := by simpa using h1
    clear h1 hS1
    go_enter Tryd.func84, Tryd.ntmps84
    go_wp2_with fail
    refine (htf _).mono ?_
    rintro e w1 ⟨rfl, hb1⟩
    go_wp2
    go_ret2
    exact ⟨by have h := H.out; subst h; rfl, ((Below.refl w.heap.size w).alloc (Nat.le_refl _) _).trans (hb1.mono (by simp))⟩
  · rw [if_neg h1] at hS1
    have hb : (t == p) = false := by simpa using h1
    have k0 : ∀ i, i < 4 → (w.alloc (.cells #[.int .i64 a, .int .i64 b, .int .i64 c, .int .i64 h] 62)).cell? ⟨w.heap.size, i, none⟩ = some (.int .i64 ([a, b, c, h].getD i 0)) := fun i hi => by
      rw [cell_of_row _ w.heap.size i _ _ _ (heap_alloc_new w _)]
      match i, hi with
      | 0, _ => rfl
      | 1, _ => rfl
      | 2, _ => rfl
      | 3, _ => rfl
    by_cases h2 : t = r
    all_goals
      first | rw [if_pos h2] at hS1 | rw [if_neg h2] at hS1
      have H := Lib.hid hS1
      have hb2 : (t == r) = decide (t = r) := by by_cases h : t = r <;> simp [h]
      first | rw [decide_eq_true h2] at hb2 | rw [decide_eq_false h2] at hb2
      clear h1 h2 hS1
      have K0 := Lib.hid k0
      clear k0
      go_enter Tryd.func84, Tryd.ntmps84
      go_wp2_with fail
      refine (htf _).mono ?_
      rintro e w1 ⟨rfl, hb1⟩
      have hB1 := ((Below.refl w.heap.size w).alloc (Nat.le_refl _) _).trans (hb1.mono (by simp))
      have p0 : w1.cell? ⟨w.heap.size, 0, none⟩ = some (.int .i64 a) := (hb1.cell (p := ⟨w.heap.size, 0, none⟩) (by simp)).trans (K0.out 0 (by omega))
      have p1 : w1.cell? ⟨w.heap.size, 1, none⟩ = some (.int .i64 b) := (hb1.cell (p := ⟨w.heap.size, 1, none⟩) (by simp)).trans (K0.out 1 (by omega))
      have p2 : w1.cell? ⟨w.heap.size, 2, none⟩ = some (.int .i64 c) := (hb1.cell (p := ⟨w.heap.size, 2, none⟩) (by simp)).trans (K0.out 2 (by omega))
      have p3 : w1.cell? ⟨w.heap.size, 3, none⟩ = some (.int .i64 h) := (hb1.cell (p := ⟨w.heap.size, 3, none⟩) (by simp)).trans (K0.out 3 (by omega))
      clear hb1
      go_wp2_with fail
      refine (htt _).mono ?_
      rintro e w2 ⟨rfl, hb2⟩
      go_wp2
      go_ret2
      exact ⟨by have h := H.out; subst h; rfl, hB1.trans (hb2.mono hB1.size)⟩
end Go.Proofs.YtllabahapaeedaaDoor
