/- The chapter's examples of duress: the sanity function of the duress laws answers true. -/
import Derived.Test.YtllabahapaeedaaDoorDuress5
namespace Go.Proofs.YtllabahapaeedaaDoor
open Go.RowKit
set_option linter.unusedVariables false
theorem ml_zero (h : Int) : Fm.ml 0 h = 0 := by unfold Fm.ml; rw [Int.zero_mul]; rfl
theorem tag_50f (h : Int) : Du.tag 5 0 1 h false = 5 := by unfold Du.tag; rw [if_neg (by decide), ml_zero]; rfl
theorem tag_50t (h : Int) : Du.tag 5 0 1 h true = 6 := by unfold Du.tag; rw [if_pos rfl, ml_zero]; rfl
theorem said_5 (h : Int) : Du.said 5 0 1 h 5 = (false, true) := by unfold Du.said; rw [tag_50f, if_pos rfl]
theorem said_6 (h : Int) : Du.said 5 0 1 h 6 = (true, true) := by unfold Du.said; rw [tag_50f, tag_50t, if_neg (by decide), if_pos rfl]
theorem said_7 (h : Int) : Du.said 5 0 1 h 7 = (false, false) := by unfold Du.said; rw [tag_50f, tag_50t, if_neg (by decide), if_neg (by decide)]

theorem sane_t1 (K : Sh.Cst) (w : World) (hL : Laid w) : Calls Tryd.prog 9 #[.agg #[.int .i64 5, .int .i64 0, .int .i64 1], .int .i64 3, .int .i64 4, .bool false] w fun e w' => e = .returned (.tuple #[.int .i64 5, .int .i64 0]) ∧ Below w.heap.size w w' := by
  have E : Du.tagR K 5 0 1 3 4 false = (5, 0) := by rw [Du.tagR_yes (by decide) (by decide), tag_50f]
  refine (dtag_any K 5 0 1 3 4 false w hL).mono fun e w' ⟨he, hb⟩ => ⟨?_, hb⟩
  rw [he, E]
theorem sane_t2 (K : Sh.Cst) (w : World) (hL : Laid w) : Calls Tryd.prog 9 #[.agg #[.int .i64 5, .int .i64 0, .int .i64 1], .int .i64 3, .int .i64 4, .bool true] w fun e w' => e = .returned (.tuple #[.int .i64 6, .int .i64 0]) ∧ Below w.heap.size w w' := by
  have E : Du.tagR K 5 0 1 3 4 true = (6, 0) := by rw [Du.tagR_yes (by decide) (by decide), tag_50t]
  refine (dtag_any K 5 0 1 3 4 true w hL).mono fun e w' ⟨he, hb⟩ => ⟨?_, hb⟩
  rw [he, E]
theorem sane_r3 (K : Sh.Cst) (w : World) (hL : Laid w) : Calls Tryd.prog 11 #[.agg #[.int .i64 5, .int .i64 0, .int .i64 1], .int .i64 3, .int .i64 4, .int .i64 5] w fun e w' => e = .returned (.tuple #[.bool false, .bool true, .int .i64 0]) ∧ Below w.heap.size w w' := by
  have E : Du.readR K 5 0 1 3 4 5 = (false, true, 0) := by rw [Du.readR_yes (by decide) (by decide) (by decide), said_5]
  refine (dread_any K 5 0 1 3 4 5 w hL).mono fun e w' ⟨he, hb⟩ => ⟨?_, hb⟩
  rw [he, E]
theorem sane_r4 (K : Sh.Cst) (w : World) (hL : Laid w) : Calls Tryd.prog 11 #[.agg #[.int .i64 5, .int .i64 0, .int .i64 1], .int .i64 3, .int .i64 4, .int .i64 6] w fun e w' => e = .returned (.tuple #[.bool true, .bool true, .int .i64 0]) ∧ Below w.heap.size w w' := by
  have E : Du.readR K 5 0 1 3 4 6 = (true, true, 0) := by rw [Du.readR_yes (by decide) (by decide) (by decide), said_6]
  refine (dread_any K 5 0 1 3 4 6 w hL).mono fun e w' ⟨he, hb⟩ => ⟨?_, hb⟩
  rw [he, E]
theorem sane_r5 (K : Sh.Cst) (w : World) (hL : Laid w) : Calls Tryd.prog 11 #[.agg #[.int .i64 5, .int .i64 0, .int .i64 1], .int .i64 0, .int .i64 0, .int .i64 7] w fun e w' => e = .returned (.tuple #[.bool false, .bool false, .int .i64 0]) ∧ Below w.heap.size w w' := by
  have E : Du.readR K 5 0 1 0 0 7 = (false, false, 0) := by rw [Du.readR_yes (by decide) (by decide) (by decide), said_7]
  refine (dread_any K 5 0 1 0 0 7 w hL).mono fun e w' ⟨he, hb⟩ => ⟨?_, hb⟩
  rw [he, E]
theorem sane_e6 (K : Sh.Cst) (w : World) (hL : Laid w) : Calls Tryd.prog 13 #[.int .i64 3, .int .i64 4, .int .i64 6, .agg #[.int .i64 5, .int .i64 0, .int .i64 1]] w fun e w' => e = .returned (.tuple #[.agg #[.int .i64 6, .int .i64 0, .int .i64 1], .bool true, .int .i64 0]) ∧ Below w.heap.size w w' := by
  have E : Du.eitherR K 5 0 1 3 4 6 = (6, 0, 1, true, 0) := by unfold Du.eitherR; rw [if_pos (by decide), if_pos (by decide), said_6]; rfl
  refine (deither_any K 5 0 1 3 4 6 w hL).mono fun e w' ⟨he, hb⟩ => ⟨?_, hb⟩
  rw [he, E]; rfl
theorem sane_e7 (K : Sh.Cst) (w : World) (hL : Laid w) : Calls Tryd.prog 13 #[.int .i64 0, .int .i64 0, .int .i64 7, .agg #[.int .i64 5, .int .i64 0, .int .i64 1]] w fun e w' => e = .returned (.tuple #[.agg #[.int .i64 0, .int .i64 0, .int .i64 0], .bool false, .int .i64 0]) ∧ Below w.heap.size w w' := by
  have E : Du.eitherR K 5 0 1 0 0 7 = (0, 0, 0, false, 0) := by unfold Du.eitherR; rw [if_pos (by decide), if_pos (by decide), said_7]; rfl
  refine (deither_any K 5 0 1 0 0 7 w hL).mono fun e w' ⟨he, hb⟩ => ⟨?_, hb⟩
  rw [he, E]; rfl
theorem sane_t8 (K : Sh.Cst) (w : World) (hL : Laid w) : Calls Tryd.prog 9 #[.agg #[.int .i64 0, .int .i64 0, .int .i64 0], .int .i64 0, .int .i64 0, .bool false] w fun e w' => e = .returned (.tuple #[.int .i64 0, .int .i64 470]) ∧ Below w.heap.size w w' := by
  have E : Du.tagR K 0 0 0 0 0 false = (0, 470) := by rw [Du.tagR_silent (by decide)]
  refine (dtag_any K 0 0 0 0 0 false w hL).mono fun e w' ⟨he, hb⟩ => ⟨?_, hb⟩
  rw [he, E]
theorem sane_t9 (K : Sh.Cst) (w : World) (hL : Laid w) : Calls Tryd.prog 9 #[.agg #[.int .i64 5, .int .i64 0, .int .i64 1], .int .i64 4096, .int .i64 0, .bool false] w fun e w' => e = .returned (.tuple #[.int .i64 0, .int .i64 1]) ∧ Below w.heap.size w w' := by
  have E : Du.tagR K 5 0 1 4096 0 false = (0, 1) := by rw [Du.tagR_arg (by decide) (by decide)]
  refine (dtag_any K 5 0 1 4096 0 false w hL).mono fun e w' ⟨he, hb⟩ => ⟨?_, hb⟩
  rw [he, E]
theorem sane_e10 (K : Sh.Cst) (w : World) (hL : Laid w) : Calls Tryd.prog 13 #[.int .i64 0, .int .i64 0, .int .i64 1073741789, .agg #[.int .i64 0, .int .i64 0, .int .i64 0]] w fun e w' => e = .returned (.tuple #[.agg #[.int .i64 0, .int .i64 0, .int .i64 0], .bool false, .int .i64 1]) ∧ Below w.heap.size w w' := by
  have E : Du.eitherR K 0 0 0 0 0 1073741789 = (0, 0, 0, false, 1) := by unfold Du.eitherR; rw [if_neg (by decide)]
  refine (deither_any K 0 0 0 0 0 1073741789 w hL).mono fun e w' ⟨he, hb⟩ => ⟨?_, hb⟩
  rw [he, E]; rfl
set_option maxRecDepth 100000 in
set_option maxHeartbeats 2000000 in
theorem dsane_any (K : Sh.Cst) (w : World) (hL : Laid w) : Calls Tryd.prog 8 #[] w fun e w' => e = .returned (.bool true) ∧ Below w.heap.size w w' := by
  have hS := Ints.new w 23 .i64 [5, 0, 1]
  have hB := (Below.refl w.heap.size w).alloc (Nat.le_refl _) (.cells ([5, 0, 1].map (Value.int .i64)).toArray 23)
  go_enter Tryd.func8, Tryd.ntmps8
  go_wp2_with fail
  refine (sane_t1 K _ (hL.below hB hL.size)).mono ?_
  rintro e w1 ⟨rfl, hb⟩
  have hS := hS.below hb hS.lt
  have hB := hB.trans (hb.mono hB.size)
  clear hb
  have s0 : _ = some (Value.int .i64 5) := hS.cell? 0
  have s1 : _ = some (Value.int .i64 0) := hS.cell? 1
  have s2 : _ = some (Value.int .i64 1) := hS.cell? 2
  go_wp2_with fail
  refine (sane_t2 K _ (hL.below hB hL.size)).mono ?_
  rintro e w2 ⟨rfl, hb⟩
  have hS := hS.below hb hS.lt
  have hB := hB.trans (hb.mono hB.size)
  clear hb
  have s0 : _ = some (Value.int .i64 5) := hS.cell? 0
  have s1 : _ = some (Value.int .i64 0) := hS.cell? 1
  have s2 : _ = some (Value.int .i64 1) := hS.cell? 2
  go_wp2_with fail
  refine (sane_r3 K _ (hL.below hB hL.size)).mono ?_
  rintro e w3 ⟨rfl, hb⟩
  have hS := hS.below hb hS.lt
  have hB := hB.trans (hb.mono hB.size)
  clear hb
  have s0 : _ = some (Value.int .i64 5) := hS.cell? 0
  have s1 : _ = some (Value.int .i64 0) := hS.cell? 1
  have s2 : _ = some (Value.int .i64 1) := hS.cell? 2
  go_wp2_with fail
  refine (sane_r4 K _ (hL.below hB hL.size)).mono ?_
  rintro e w4 ⟨rfl, hb⟩
  have hS := hS.below hb hS.lt
  have hB := hB.trans (hb.mono hB.size)
  clear hb
  have s0 : _ = some (Value.int .i64 5) := hS.cell? 0
  have s1 : _ = some (Value.int .i64 0) := hS.cell? 1
  have s2 : _ = some (Value.int .i64 1) := hS.cell? 2
  go_wp2_with fail
  refine (sane_r5 K _ (hL.below hB hL.size)).mono ?_
  rintro e w5 ⟨rfl, hb⟩
  have hS := hS.below hb hS.lt
  have hB := hB.trans (hb.mono hB.size)
  clear hb
  have s0 : _ = some (Value.int .i64 5) := hS.cell? 0
  have s1 : _ = some (Value.int .i64 0) := hS.cell? 1
  have s2 : _ = some (Value.int .i64 1) := hS.cell? 2
  go_wp2_with fail
  refine (sane_e6 K _ (hL.below hB hL.size)).mono ?_
  rintro e w6 ⟨rfl, hb⟩
  have hS := hS.below hb hS.lt
  have hB := hB.trans (hb.mono hB.size)
  clear hb
  have hX := Ints.new w6 23 .i64 [6, 0, 1]
  have hS := hS.alloc (.cells #[.int .i64 6, .int .i64 0, .int .i64 1] 23)
  have hB := hB.alloc hB.size (.cells #[.int .i64 6, .int .i64 0, .int .i64 1] 23)
  have s0 : _ = some (Value.int .i64 5) := hS.cell? 0
  have s1 : _ = some (Value.int .i64 0) := hS.cell? 1
  have s2 : _ = some (Value.int .i64 1) := hS.cell? 2
  go_wp2_with fail
  refine (sane_e7 K _ (hL.below hB hL.size)).mono ?_
  rintro e w7 ⟨rfl, hb⟩
  have hS := hS.below hb hS.lt
  have hX := hX.below hb hX.lt
  have hB := hB.trans (hb.mono hB.size)
  clear hb
  have hX := hX.alloc (.cells #[.int .i64 0, .int .i64 0, .int .i64 0] 23)
  have hS := hS.alloc (.cells #[.int .i64 0, .int .i64 0, .int .i64 0] 23)
  have hB := hB.alloc hB.size (.cells #[.int .i64 0, .int .i64 0, .int .i64 0] 23)
  have s0 : _ = some (Value.int .i64 5) := hS.cell? 0
  have s1 : _ = some (Value.int .i64 0) := hS.cell? 1
  have s2 : _ = some (Value.int .i64 1) := hS.cell? 2
  go_wp2_with fail
  refine (sane_t8 K _ (hL.below hB hL.size)).mono ?_
  rintro e w8 ⟨rfl, hb⟩
  have hS := hS.below hb hS.lt
  have hX := hX.below hb hX.lt
  have hB := hB.trans (hb.mono hB.size)
  clear hb
  have s0 : _ = some (Value.int .i64 5) := hS.cell? 0
  have s1 : _ = some (Value.int .i64 0) := hS.cell? 1
  have s2 : _ = some (Value.int .i64 1) := hS.cell? 2
  go_wp2_with fail
  refine (sane_t9 K _ (hL.below hB hL.size)).mono ?_
  rintro e w9 ⟨rfl, hb⟩
  have hS := hS.below hb hS.lt
  have hX := hX.below hb hX.lt
  have hB := hB.trans (hb.mono hB.size)
  clear hb
  have s0 : _ = some (Value.int .i64 5) := hS.cell? 0
  have s1 : _ = some (Value.int .i64 0) := hS.cell? 1
  have s2 : _ = some (Value.int .i64 1) := hS.cell? 2
  go_wp2_with fail
  refine (sane_e10 K _ (hL.below hB hL.size)).mono ?_
  rintro e w10 ⟨rfl, hb⟩
  have hS := hS.below hb hS.lt
  have hX := hX.below hb hX.lt
  have hB := hB.trans (hb.mono hB.size)
  clear hb
  have hX := hX.alloc (.cells #[.int .i64 0, .int .i64 0, .int .i64 0] 23)
  have hS := hS.alloc (.cells #[.int .i64 0, .int .i64 0, .int .i64 0] 23)
  have hB := hB.alloc hB.size (.cells #[.int .i64 0, .int .i64 0, .int .i64 0] 23)
  have s0 : _ = some (Value.int .i64 5) := hS.cell? 0
  have s1 : _ = some (Value.int .i64 0) := hS.cell? 1
  have s2 : _ = some (Value.int .i64 1) := hS.cell? 2
  have x0 : _ = some (Value.int .i64 6) := hX.cell? 0
  have x1 : _ = some (Value.int .i64 0) := hX.cell? 1
  have x2 : _ = some (Value.int .i64 1) := hX.cell? 2
  go_wp2
  go_ret
  exact ⟨rfl, hB⟩
end Go.Proofs.YtllabahapaeedaaDoor
