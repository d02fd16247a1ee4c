/- The walk of DuressEither. -/
import Derived.Test.YtllabahapaeedaaDoorDuReadWalk
namespace Go.Proofs.YtllabahapaeedaaDoor
open Go.RowKit
set_option linter.unusedVariables false
theorem ad_back (a c : Int) (h1 : 0 ≤ a) (h2 : a < 1073741789) : Fm.ad (Fm.ad a (-c)) c = a := by unfold Fm.ad; omega
theorem ad_back2 (a c : Int) (h1 : 0 ≤ a) (h2 : a < 1073741789) : Fm.ad (Fm.ad a c) (-c) = a := by unfold Fm.ad; omega
theorem ad_turn (a m c : Int) : Fm.ad (Fm.ad (Fm.ad a (-c)) m) c = Fm.ad a m := by unfold Fm.ad; omega
theorem ad_swap (a m c : Int) : Fm.ad (Fm.ad a c) m = Fm.ad (Fm.ad a m) c := by unfold Fm.ad; omega
theorem right_ad {a b c : Int} (x : Int) (h : Du.right a b c = true) : Du.right (Fm.ad a x) b c = true := by
  obtain ⟨_, h2, h3⟩ := Du.right_iff.1 h
  exact Du.right_iff.2 ⟨⟨Fm.ad_lo a x, Fm.ad_hi a x⟩, h2, h3⟩
set_option maxRecDepth 100000 in
set_option maxHeartbeats 2000000 in
theorem de_silent (K : Sh.Cst) (a b c d n t : Int) (w : World) (hL : Laid w) (hr : Du.right a b c = false) :
    Calls Tryd.prog 6 #[silV a b c, .int .i64 d, .int .i64 n, .int .i64 t] w fun e w' => e = .returned (.bool true) ∧ Below w.heap.size w w' := by
  have HR := Lib.hid hr
  have hra := rright_any a b c
  clear hr
  unfold silV at hra ⊢
  go_enter Tryd.func6, Tryd.ntmps6
  have hS := Ints.new w 23 .i64 [a, b, c]
  have hB := (Below.refl w.heap.size w).alloc (Nat.le_refl _) (.cells #[.int .i64 a, .int .i64 b, .int .i64 c] 23)
  go_wp2_with fail
  refine (dsane_any K _ (hL.below hB hL.size)).mono ?_
  rintro e w1 ⟨rfl, hb⟩
  have hS := hS.below hb hS.lt
  have hB := hB.trans (hb.mono hB.size)
  clear hb
  have s0 : _ = some (Value.int .i64 a) := hS.cell? 0
  have s1 : _ = some (Value.int .i64 b) := hS.cell? 1
  have s2 : _ = some (Value.int .i64 c) := hS.cell? 2
  go_wp2_with fail
  refine (hra _).mono ?_
  rintro e w2 ⟨he, hb⟩
  rw [HR.out] at he
  subst he
  have hS := hS.below hb hS.lt
  have hB := hB.trans (hb.mono hB.size)
  clear hb
  have s0 : _ = some (Value.int .i64 a) := hS.cell? 0
  have s1 : _ = some (Value.int .i64 b) := hS.cell? 1
  have s2 : _ = some (Value.int .i64 c) := hS.cell? 2
  go_wp2
  go_ret
  exact ⟨rfl, hB⟩
set_option maxRecDepth 100000 in
set_option maxHeartbeats 2000000 in
theorem de_arg (K : Sh.Cst) (a b c d n t : Int) (w : World) (hL : Laid w) (hr : Du.right a b c = true) (hp : Du.poss d n = false) :
    Calls Tryd.prog 6 #[silV a b c, .int .i64 d, .int .i64 n, .int .i64 t] w fun e w' => e = .returned (.bool true) ∧ Below w.heap.size w w' := by
  have HR := Lib.hid hr
  have hra := rright_any a b c
  have HP := Lib.hid hp
  clear hr hp
  unfold silV at hra ⊢
  go_enter Tryd.func6, Tryd.ntmps6
  have hS := Ints.new w 23 .i64 [a, b, c]
  have hB := (Below.refl w.heap.size w).alloc (Nat.le_refl _) (.cells #[.int .i64 a, .int .i64 b, .int .i64 c] 23)
  go_wp2_with fail
  refine (dsane_any K _ (hL.below hB hL.size)).mono ?_
  rintro e w1 ⟨rfl, hb⟩
  have hS := hS.below hb hS.lt
  have hB := hB.trans (hb.mono hB.size)
  clear hb
  have s0 : _ = some (Value.int .i64 a) := hS.cell? 0
  have s1 : _ = some (Value.int .i64 b) := hS.cell? 1
  have s2 : _ = some (Value.int .i64 c) := hS.cell? 2
  go_wp2_with fail
  refine (hra _).mono ?_
  rintro e w2 ⟨he, hb⟩
  rw [HR.out] at he
  subst he
  have hS := hS.below hb hS.lt
  have hB := hB.trans (hb.mono hB.size)
  clear hb
  have s0 : _ = some (Value.int .i64 a) := hS.cell? 0
  have s1 : _ = some (Value.int .i64 b) := hS.cell? 1
  have s2 : _ = some (Value.int .i64 c) := hS.cell? 2
  go_wp2_with fail
  refine (rocc_any _ _ _).mono ?_
  rintro e w' ⟨he, rfl⟩
  rw [HP.out] at he
  subst he
  go_wp2
  go_ret
  exact ⟨rfl, hB⟩
set_option maxRecDepth 100000 in
set_option maxHeartbeats 2000000 in
theorem de_num (K : Sh.Cst) (a b c d n t : Int) (w : World) (hL : Laid w) (hr : Du.right a b c = true) (hp : Du.poss d n = true) (hn : Du.num t = false) :
    Calls Tryd.prog 6 #[silV a b c, .int .i64 d, .int .i64 n, .int .i64 t] w fun e w' => e = .returned (.bool true) ∧ Below w.heap.size w w' := by
  have HR := Lib.hid hr
  have hra := rright_any a b c
  have HP := Lib.hid hp
  have HN := Lib.hid hn
  clear hr hp hn
  unfold silV at hra ⊢
  go_enter Tryd.func6, Tryd.ntmps6
  have hS := Ints.new w 23 .i64 [a, b, c]
  have hB := (Below.refl w.heap.size w).alloc (Nat.le_refl _) (.cells #[.int .i64 a, .int .i64 b, .int .i64 c] 23)
  go_wp2_with fail
  refine (dsane_any K _ (hL.below hB hL.size)).mono ?_
  rintro e w1 ⟨rfl, hb⟩
  have hS := hS.below hb hS.lt
  have hB := hB.trans (hb.mono hB.size)
  clear hb
  have s0 : _ = some (Value.int .i64 a) := hS.cell? 0
  have s1 : _ = some (Value.int .i64 b) := hS.cell? 1
  have s2 : _ = some (Value.int .i64 c) := hS.cell? 2
  go_wp2_with fail
  refine (hra _).mono ?_
  rintro e w2 ⟨he, hb⟩
  rw [HR.out] at he
  subst he
  have hS := hS.below hb hS.lt
  have hB := hB.trans (hb.mono hB.size)
  clear hb
  have s0 : _ = some (Value.int .i64 a) := hS.cell? 0
  have s1 : _ = some (Value.int .i64 b) := hS.cell? 1
  have s2 : _ = some (Value.int .i64 c) := hS.cell? 2
  go_wp2_with fail
  refine (rocc_any _ _ _).mono ?_
  rintro e w' ⟨he, rfl⟩
  rw [HP.out] at he
  subst he
  go_wp2_with fail
  refine (rnum_any _ _).mono ?_
  rintro e w' ⟨he, rfl⟩
  rw [HN.out] at he
  subst he
  go_wp2
  go_ret
  exact ⟨rfl, hB⟩
set_option maxRecDepth 100000 in
set_option maxHeartbeats 2000000 in
theorem de_none (K : Sh.Cst) (a b c d n t : Int) (w : World) (hL : Laid w) (hr : Du.right a b c = true) (hp : Du.poss d n = true) (hn : Du.num t = true) (z : Bool) (h1 : ∀ w, Laid w → Calls Tryd.prog 11 #[.agg #[.int .i64 a, .int .i64 b, .int .i64 c], .int .i64 d, .int .i64 n, .int .i64 t] w fun e w' => e = .returned (.tuple #[.bool z, .bool false, .int .i64 0]) ∧ Below w.heap.size w w') (h2 : ∀ w, Laid w → Calls Tryd.prog 13 #[.int .i64 d, .int .i64 n, .int .i64 t, .agg #[.int .i64 a, .int .i64 b, .int .i64 c]] w fun e w' => e = .returned (.tuple #[.agg #[.int .i64 0, .int .i64 0, .int .i64 0], .bool false, .int .i64 0]) ∧ Below w.heap.size w w') :
    Calls Tryd.prog 6 #[silV a b c, .int .i64 d, .int .i64 n, .int .i64 t] w fun e w' => e = .returned (.bool true) ∧ Below w.heap.size w w' := by
  have HR := Lib.hid hr
  have hra := rright_any a b c
  have HP := Lib.hid hp
  have HN := Lib.hid hn
  clear hr hp hn
  unfold silV at hra ⊢
  go_enter Tryd.func6, Tryd.ntmps6
  have hS := Ints.new w 23 .i64 [a, b, c]
  have hB := (Below.refl w.heap.size w).alloc (Nat.le_refl _) (.cells #[.int .i64 a, .int .i64 b, .int .i64 c] 23)
  go_wp2_with fail
  refine (dsane_any K _ (hL.below hB hL.size)).mono ?_
  rintro e w1 ⟨rfl, hb⟩
  have hS := hS.below hb hS.lt
  have hB := hB.trans (hb.mono hB.size)
  clear hb
  have s0 : _ = some (Value.int .i64 a) := hS.cell? 0
  have s1 : _ = some (Value.int .i64 b) := hS.cell? 1
  have s2 : _ = some (Value.int .i64 c) := hS.cell? 2
  go_wp2_with fail
  refine (hra _).mono ?_
  rintro e w2 ⟨he, hb⟩
  rw [HR.out] at he
  subst he
  have hS := hS.below hb hS.lt
  have hB := hB.trans (hb.mono hB.size)
  clear hb
  have s0 : _ = some (Value.int .i64 a) := hS.cell? 0
  have s1 : _ = some (Value.int .i64 b) := hS.cell? 1
  have s2 : _ = some (Value.int .i64 c) := hS.cell? 2
  go_wp2_with fail
  refine (rocc_any _ _ _).mono ?_
  rintro e w' ⟨he, rfl⟩
  rw [HP.out] at he
  subst he
  go_wp2_with fail
  refine (rnum_any _ _).mono ?_
  rintro e w' ⟨he, rfl⟩
  rw [HN.out] at he
  subst he
  go_wp2_with fail
  refine (h1 _ (hL.below hB hL.size)).mono ?_
  rintro e w3 ⟨rfl, hb⟩
  have hS := hS.below hb hS.lt
  have hB := hB.trans (hb.mono hB.size)
  clear hb
  have s0 : _ = some (Value.int .i64 a) := hS.cell? 0
  have s1 : _ = some (Value.int .i64 b) := hS.cell? 1
  have s2 : _ = some (Value.int .i64 c) := hS.cell? 2
  go_wp2_with fail
  refine (h2 _ (hL.below hB hL.size)).mono ?_
  rintro e w4 ⟨rfl, hb⟩
  have hS := hS.below hb hS.lt
  have hB := hB.trans (hb.mono hB.size)
  clear hb
  have s0 : _ = some (Value.int .i64 a) := hS.cell? 0
  have s1 : _ = some (Value.int .i64 b) := hS.cell? 1
  have s2 : _ = some (Value.int .i64 c) := hS.cell? 2
  have hX := Ints.new w4 23 .i64 [0, 0, 0]
  have hS := hS.alloc (.cells #[.int .i64 0, .int .i64 0, .int .i64 0] 23)
  have hB := hB.alloc hB.size (.cells #[.int .i64 0, .int .i64 0, .int .i64 0] 23)
  have s0 : _ = some (Value.int .i64 a) := hS.cell? 0
  have s1 : _ = some (Value.int .i64 b) := hS.cell? 1
  have s2 : _ = some (Value.int .i64 c) := hS.cell? 2
  have x0 : _ = some (Value.int .i64 0) := hX.cell? 0
  have x1 : _ = some (Value.int .i64 0) := hX.cell? 1
  have x2 : _ = some (Value.int .i64 0) := hX.cell? 2
  go_wp2
  go_ret
  exact ⟨rfl, hB⟩
set_option maxRecDepth 100000 in
set_option maxHeartbeats 2000000 in
theorem de_yes (K : Sh.Cst) (a b c d n t : Int) (w : World) (hL : Laid w) (hr : Du.right a b c = true) (hp : Du.poss d n = true) (hn : Du.num t = true) (q : Int) (hq : Du.right q b c = true) (h1 : ∀ w, Laid w → Calls Tryd.prog 11 #[.agg #[.int .i64 a, .int .i64 b, .int .i64 c], .int .i64 d, .int .i64 n, .int .i64 t] w fun e w' => e = .returned (.tuple #[.bool true, .bool true, .int .i64 0]) ∧ Below w.heap.size w w') (h2 : ∀ w, Laid w → Calls Tryd.prog 13 #[.int .i64 d, .int .i64 n, .int .i64 t, .agg #[.int .i64 a, .int .i64 b, .int .i64 c]] w fun e w' => e = .returned (.tuple #[.agg #[.int .i64 q, .int .i64 b, .int .i64 c], .bool true, .int .i64 0]) ∧ Below w.heap.size w w') (h3 : ∀ w, Laid w → Calls Tryd.prog 11 #[.agg #[.int .i64 q, .int .i64 b, .int .i64 c], .int .i64 d, .int .i64 n, .int .i64 t] w fun e w' => e = .returned (.tuple #[.bool false, .bool true, .int .i64 0]) ∧ Below w.heap.size w w') (h4 : ∀ w, Laid w → Calls Tryd.prog 13 #[.int .i64 d, .int .i64 n, .int .i64 t, .agg #[.int .i64 q, .int .i64 b, .int .i64 c]] w fun e w' => e = .returned (.tuple #[.agg #[.int .i64 a, .int .i64 b, .int .i64 c], .bool true, .int .i64 0]) ∧ Below w.heap.size w w') :
    Calls Tryd.prog 6 #[silV a b c, .int .i64 d, .int .i64 n, .int .i64 t] w fun e w' => e = .returned (.bool true) ∧ Below w.heap.size w w' := by
  have HR := Lib.hid hr
  have hra := rright_any a b c
  have HP := Lib.hid hp
  have HN := Lib.hid hn
  have HQ := Lib.hid hq
  have hrq := rright_any q b c
  clear hr hp hn hq
  unfold silV at hra hrq ⊢
  go_enter Tryd.func6, Tryd.ntmps6
  have hS := Ints.new w 23 .i64 [a, b, c]
  have hB := (Below.refl w.heap.size w).alloc (Nat.le_refl _) (.cells #[.int .i64 a, .int .i64 b, .int .i64 c] 23)
  go_wp2_with fail
  refine (dsane_any K _ (hL.below hB hL.size)).mono ?_
  rintro e w1 ⟨rfl, hb⟩
  have hS := hS.below hb hS.lt
  have hB := hB.trans (hb.mono hB.size)
  clear hb
  have s0 : _ = some (Value.int .i64 a) := hS.cell? 0
  have s1 : _ = some (Value.int .i64 b) := hS.cell? 1
  have s2 : _ = some (Value.int .i64 c) := hS.cell? 2
  go_wp2_with fail
  refine (hra _).mono ?_
  rintro e w2 ⟨he, hb⟩
  rw [HR.out] at he
  subst he
  have hS := hS.below hb hS.lt
  have hB := hB.trans (hb.mono hB.size)
  clear hb
  have s0 : _ = some (Value.int .i64 a) := hS.cell? 0
  have s1 : _ = some (Value.int .i64 b) := hS.cell? 1
  have s2 : _ = some (Value.int .i64 c) := hS.cell? 2
  go_wp2_with fail
  refine (rocc_any _ _ _).mono ?_
  rintro e w' ⟨he, rfl⟩
  rw [HP.out] at he
  subst he
  go_wp2_with fail
  refine (rnum_any _ _).mono ?_
  rintro e w' ⟨he, rfl⟩
  rw [HN.out] at he
  subst he
  go_wp2_with fail
  refine (h1 _ (hL.below hB hL.size)).mono ?_
  rintro e w3 ⟨rfl, hb⟩
  have hS := hS.below hb hS.lt
  have hB := hB.trans (hb.mono hB.size)
  clear hb
  have s0 : _ = some (Value.int .i64 a) := hS.cell? 0
  have s1 : _ = some (Value.int .i64 b) := hS.cell? 1
  have s2 : _ = some (Value.int .i64 c) := hS.cell? 2
  go_wp2_with fail
  refine (h2 _ (hL.below hB hL.size)).mono ?_
  rintro e w4 ⟨rfl, hb⟩
  have hS := hS.below hb hS.lt
  have hB := hB.trans (hb.mono hB.size)
  clear hb
  have s0 : _ = some (Value.int .i64 a) := hS.cell? 0
  have s1 : _ = some (Value.int .i64 b) := hS.cell? 1
  have s2 : _ = some (Value.int .i64 c) := hS.cell? 2
  have hX := Ints.new w4 23 .i64 [q, b, c]
  have hS := hS.alloc (.cells #[.int .i64 q, .int .i64 b, .int .i64 c] 23)
  have hB := hB.alloc hB.size (.cells #[.int .i64 q, .int .i64 b, .int .i64 c] 23)
  have s0 : _ = some (Value.int .i64 a) := hS.cell? 0
  have s1 : _ = some (Value.int .i64 b) := hS.cell? 1
  have s2 : _ = some (Value.int .i64 c) := hS.cell? 2
  have x0 : _ = some (Value.int .i64 q) := hX.cell? 0
  have x1 : _ = some (Value.int .i64 b) := hX.cell? 1
  have x2 : _ = some (Value.int .i64 c) := hX.cell? 2
  go_wp2_with fail
  refine (h3 _ (hL.below hB hL.size)).mono ?_
  rintro e w5 ⟨rfl, hb⟩
  have hS := hS.below hb hS.lt
  have hX := hX.below hb hX.lt
  have hB := hB.trans (hb.mono hB.size)
  clear hb
  have s0 : _ = some (Value.int .i64 a) := hS.cell? 0
  have s1 : _ = some (Value.int .i64 b) := hS.cell? 1
  have s2 : _ = some (Value.int .i64 c) := hS.cell? 2
  have x0 : _ = some (Value.int .i64 q) := hX.cell? 0
  have x1 : _ = some (Value.int .i64 b) := hX.cell? 1
  have x2 : _ = some (Value.int .i64 c) := hX.cell? 2
  go_wp2_with fail
  refine (h4 _ (hL.below hB hL.size)).mono ?_
  rintro e w6 ⟨rfl, hb⟩
  have hS := hS.below hb hS.lt
  have hX := hX.below hb hX.lt
  have hB := hB.trans (hb.mono hB.size)
  clear hb
  have s0 : _ = some (Value.int .i64 a) := hS.cell? 0
  have s1 : _ = some (Value.int .i64 b) := hS.cell? 1
  have s2 : _ = some (Value.int .i64 c) := hS.cell? 2
  have x0 : _ = some (Value.int .i64 q) := hX.cell? 0
  have x1 : _ = some (Value.int .i64 b) := hX.cell? 1
  have x2 : _ = some (Value.int .i64 c) := hX.cell? 2
  have hY := Ints.new w6 23 .i64 [a, b, c]
  have hS := hS.alloc (.cells #[.int .i64 a, .int .i64 b, .int .i64 c] 23)
  have hX := hX.alloc (.cells #[.int .i64 a, .int .i64 b, .int .i64 c] 23)
  have hB := hB.alloc hB.size (.cells #[.int .i64 a, .int .i64 b, .int .i64 c] 23)
  have s0 : _ = some (Value.int .i64 a) := hS.cell? 0
  have s1 : _ = some (Value.int .i64 b) := hS.cell? 1
  have s2 : _ = some (Value.int .i64 c) := hS.cell? 2
  have x0 : _ = some (Value.int .i64 q) := hX.cell? 0
  have x1 : _ = some (Value.int .i64 b) := hX.cell? 1
  have x2 : _ = some (Value.int .i64 c) := hX.cell? 2
  have y0 : _ = some (Value.int .i64 a) := hY.cell? 0
  have y1 : _ = some (Value.int .i64 b) := hY.cell? 1
  have y2 : _ = some (Value.int .i64 c) := hY.cell? 2
  go_wp2_with fail
  refine (hrq _).mono ?_
  rintro e w7 ⟨he, hb⟩
  rw [HQ.out] at he
  subst he
  have hS := hS.below hb hS.lt
  have hX := hX.below hb hX.lt
  have hY := hY.below hb hY.lt
  have hB := hB.trans (hb.mono hB.size)
  clear hb
  have s0 : _ = some (Value.int .i64 a) := hS.cell? 0
  have s1 : _ = some (Value.int .i64 b) := hS.cell? 1
  have s2 : _ = some (Value.int .i64 c) := hS.cell? 2
  have x0 : _ = some (Value.int .i64 q) := hX.cell? 0
  have x1 : _ = some (Value.int .i64 b) := hX.cell? 1
  have x2 : _ = some (Value.int .i64 c) := hX.cell? 2
  have y0 : _ = some (Value.int .i64 a) := hY.cell? 0
  have y1 : _ = some (Value.int .i64 b) := hY.cell? 1
  have y2 : _ = some (Value.int .i64 c) := hY.cell? 2
  go_wp2
  go_ret
  exact ⟨rfl, hB⟩
set_option maxRecDepth 100000 in
set_option maxHeartbeats 2000000 in
theorem de_no (K : Sh.Cst) (a b c d n t : Int) (w : World) (hL : Laid w) (hr : Du.right a b c = true) (hp : Du.poss d n = true) (hn : Du.num t = true) (q : Int) (hq : Du.right q b c = true) (h1 : ∀ w, Laid w → Calls Tryd.prog 11 #[.agg #[.int .i64 a, .int .i64 b, .int .i64 c], .int .i64 d, .int .i64 n, .int .i64 t] w fun e w' => e = .returned (.tuple #[.bool false, .bool true, .int .i64 0]) ∧ Below w.heap.size w w') (h2 : ∀ w, Laid w → Calls Tryd.prog 13 #[.int .i64 d, .int .i64 n, .int .i64 t, .agg #[.int .i64 a, .int .i64 b, .int .i64 c]] w fun e w' => e = .returned (.tuple #[.agg #[.int .i64 q, .int .i64 b, .int .i64 c], .bool true, .int .i64 0]) ∧ Below w.heap.size w w') (h3 : ∀ w, Laid w → Calls Tryd.prog 11 #[.agg #[.int .i64 q, .int .i64 b, .int .i64 c], .int .i64 d, .int .i64 n, .int .i64 t] w fun e w' => e = .returned (.tuple #[.bool true, .bool true, .int .i64 0]) ∧ Below w.heap.size w w') (h4 : ∀ w, Laid w → Calls Tryd.prog 13 #[.int .i64 d, .int .i64 n, .int .i64 t, .agg #[.int .i64 q, .int .i64 b, .int .i64 c]] w fun e w' => e = .returned (.tuple #[.agg #[.int .i64 a, .int .i64 b, .int .i64 c], .bool true, .int .i64 0]) ∧ Below w.heap.size w w') :
    Calls Tryd.prog 6 #[silV a b c, .int .i64 d, .int .i64 n, .int .i64 t] w fun e w' => e = .returned (.bool true) ∧ Below w.heap.size w w' := by
  have HR := Lib.hid hr
  have hra := rright_any a b c
  have HP := Lib.hid hp
  have HN := Lib.hid hn
  have HQ := Lib.hid hq
  have hrq := rright_any q b c
  clear hr hp hn hq
  unfold silV at hra hrq ⊢
  go_enter Tryd.func6, Tryd.ntmps6
  have hS := Ints.new w 23 .i64 [a, b, c]
  have hB := (Below.refl w.heap.size w).alloc (Nat.le_refl _) (.cells #[.int .i64 a, .int .i64 b, .int .i64 c] 23)
  go_wp2_with fail
  refine (dsane_any K _ (hL.below hB hL.size)).mono ?_
  rintro e w1 ⟨rfl, hb⟩
  have hS := hS.below hb hS.lt
  have hB := hB.trans (hb.mono hB.size)
  clear hb
  have s0 : _ = some (Value.int .i64 a) := hS.cell? 0
  have s1 : _ = some (Value.int .i64 b) := hS.cell? 1
  have s2 : _ = some (Value.int .i64 c) := hS.cell? 2
  go_wp2_with fail
  refine (hra _).mono ?_
  rintro e w2 ⟨he, hb⟩
  rw [HR.out] at he
  subst he
  have hS := hS.below hb hS.lt
  have hB := hB.trans (hb.mono hB.size)
  clear hb
  have s0 : _ = some (Value.int .i64 a) := hS.cell? 0
  have s1 : _ = some (Value.int .i64 b) := hS.cell? 1
  have s2 : _ = some (Value.int .i64 c) := hS.cell? 2
  go_wp2_with fail
  refine (rocc_any _ _ _).mono ?_
  rintro e w' ⟨he, rfl⟩
  rw [HP.out] at he
  subst he
  go_wp2_with fail
  refine (rnum_any _ _).mono ?_
  rintro e w' ⟨he, rfl⟩
  rw [HN.out] at he
  subst he
  go_wp2_with fail
  refine (h1 _ (hL.below hB hL.size)).mono ?_
  rintro e w3 ⟨rfl, hb⟩
  have hS := hS.below hb hS.lt
  have hB := hB.trans (hb.mono hB.size)
  clear hb
  have s0 : _ = some (Value.int .i64 a) := hS.cell? 0
  have s1 : _ = some (Value.int .i64 b) := hS.cell? 1
  have s2 : _ = some (Value.int .i64 c) := hS.cell? 2
  go_wp2_with fail
  refine (h2 _ (hL.below hB hL.size)).mono ?_
  rintro e w4 ⟨rfl, hb⟩
  have hS := hS.below hb hS.lt
  have hB := hB.trans (hb.mono hB.size)
  clear hb
  have s0 : _ = some (Value.int .i64 a) := hS.cell? 0
  have s1 : _ = some (Value.int .i64 b) := hS.cell? 1
  have s2 : _ = some (Value.int .i64 c) := hS.cell? 2
  have hX := Ints.new w4 23 .i64 [q, b, c]
  have hS := hS.alloc (.cells #[.int .i64 q, .int .i64 b, .int .i64 c] 23)
  have hB := hB.alloc hB.size (.cells #[.int .i64 q, .int .i64 b, .int .i64 c] 23)
  have s0 : _ = some (Value.int .i64 a) := hS.cell? 0
  have s1 : _ = some (Value.int .i64 b) := hS.cell? 1
  have s2 : _ = some (Value.int .i64 c) := hS.cell? 2
  have x0 : _ = some (Value.int .i64 q) := hX.cell? 0
  have x1 : _ = some (Value.int .i64 b) := hX.cell? 1
  have x2 : _ = some (Value.int .i64 c) := hX.cell? 2
  go_wp2_with fail
  refine (h3 _ (hL.below hB hL.size)).mono ?_
  rintro e w5 ⟨rfl, hb⟩
  have hS := hS.below hb hS.lt
  have hX := hX.below hb hX.lt
  have hB := hB.trans (hb.mono hB.size)
  clear hb
  have s0 : _ = some (Value.int .i64 a) := hS.cell? 0
  have s1 : _ = some (Value.int .i64 b) := hS.cell? 1
  have s2 : _ = some (Value.int .i64 c) := hS.cell? 2
  have x0 : _ = some (Value.int .i64 q) := hX.cell? 0
  have x1 : _ = some (Value.int .i64 b) := hX.cell? 1
  have x2 : _ = some (Value.int .i64 c) := hX.cell? 2
  go_wp2_with fail
  refine (h4 _ (hL.below hB hL.size)).mono ?_
  rintro e w6 ⟨rfl, hb⟩
  have hS := hS.below hb hS.lt
  have hX := hX.below hb hX.lt
  have hB := hB.trans (hb.mono hB.size)
  clear hb
  have s0 : _ = some (Value.int .i64 a) := hS.cell? 0
  have s1 : _ = some (Value.int .i64 b) := hS.cell? 1
  have s2 : _ = some (Value.int .i64 c) := hS.cell? 2
  have x0 : _ = some (Value.int .i64 q) := hX.cell? 0
  have x1 : _ = some (Value.int .i64 b) := hX.cell? 1
  have x2 : _ = some (Value.int .i64 c) := hX.cell? 2
  have hY := Ints.new w6 23 .i64 [a, b, c]
  have hS := hS.alloc (.cells #[.int .i64 a, .int .i64 b, .int .i64 c] 23)
  have hX := hX.alloc (.cells #[.int .i64 a, .int .i64 b, .int .i64 c] 23)
  have hB := hB.alloc hB.size (.cells #[.int .i64 a, .int .i64 b, .int .i64 c] 23)
  have s0 : _ = some (Value.int .i64 a) := hS.cell? 0
  have s1 : _ = some (Value.int .i64 b) := hS.cell? 1
  have s2 : _ = some (Value.int .i64 c) := hS.cell? 2
  have x0 : _ = some (Value.int .i64 q) := hX.cell? 0
  have x1 : _ = some (Value.int .i64 b) := hX.cell? 1
  have x2 : _ = some (Value.int .i64 c) := hX.cell? 2
  have y0 : _ = some (Value.int .i64 a) := hY.cell? 0
  have y1 : _ = some (Value.int .i64 b) := hY.cell? 1
  have y2 : _ = some (Value.int .i64 c) := hY.cell? 2
  go_wp2_with fail
  refine (hrq _).mono ?_
  rintro e w7 ⟨he, hb⟩
  rw [HQ.out] at he
  subst he
  have hS := hS.below hb hS.lt
  have hX := hX.below hb hX.lt
  have hY := hY.below hb hY.lt
  have hB := hB.trans (hb.mono hB.size)
  clear hb
  have s0 : _ = some (Value.int .i64 a) := hS.cell? 0
  have s1 : _ = some (Value.int .i64 b) := hS.cell? 1
  have s2 : _ = some (Value.int .i64 c) := hS.cell? 2
  have x0 : _ = some (Value.int .i64 q) := hX.cell? 0
  have x1 : _ = some (Value.int .i64 b) := hX.cell? 1
  have x2 : _ = some (Value.int .i64 c) := hX.cell? 2
  have y0 : _ = some (Value.int .i64 a) := hY.cell? 0
  have y1 : _ = some (Value.int .i64 b) := hY.cell? 1
  have y2 : _ = some (Value.int .i64 c) := hY.cell? 2
  go_wp2
  go_ret
  exact ⟨rfl, hB⟩
theorem ecall (K : Sh.Cst) (a b c d n t : Int) {x y z : Int} {o : Bool} {f : Int} (h : Du.eitherR K a b c d n t = (x, y, z, o, f)) (w : World) (hL : Laid w) : Calls Tryd.prog 13 #[.int .i64 d, .int .i64 n, .int .i64 t, .agg #[.int .i64 a, .int .i64 b, .int .i64 c]] w fun e w' => e = .returned (.tuple #[.agg #[.int .i64 x, .int .i64 y, .int .i64 z], .bool o, .int .i64 f]) ∧ Below w.heap.size w w' :=
  (deither_any K a b c d n t w hL).mono fun e w' ⟨he, hb⟩ => ⟨by rw [he, h]; rfl, hb⟩
theorem eitherR_none {K : Sh.Cst} {a b c d n t : Int} (hr : Du.right a b c = true) (hp : Du.poss d n = true) (hn : Du.num t = true) (h : (Du.said a b c (Du.hoI K d n) t).2 = false) : Du.eitherR K a b c d n t = (0, 0, 0, false, 0) := by
  unfold Du.eitherR; rw [hr, hp, hn, h]; rfl
theorem eitherR_yes {K : Sh.Cst} {a b c d n t : Int} (hr : Du.right a b c = true) (hp : Du.poss d n = true) (hn : Du.num t = true) (co : Bool) (h : Du.said a b c (Du.hoI K d n) t = (co, true)) : Du.eitherR K a b c d n t = (Fm.ad a (if co then c else -c), b, c, true, 0) := by
  unfold Du.eitherR; rw [hr, hp, hn, h]; rfl
theorem said_not {a b c h t : Int} (x : Bool) (hs : Du.said a b c h t = (x, false)) : t ≠ Du.tag a b c h false ∧ t ≠ Du.tag a b c h true := by
  constructor
  · intro e; rw [e, said_plain] at hs; cases hs
  · intro e
    unfold Du.said at hs
    by_cases h1 : t = Du.tag a b c h false
    · rw [if_pos h1] at hs; cases hs
    · rw [if_neg h1, if_pos e] at hs; cases hs
theorem de_walk (K : Sh.Cst) (a b c d n t : Int) (w : World) (hL : Laid w) :
    Calls Tryd.prog 6 #[silV a b c, .int .i64 d, .int .i64 n, .int .i64 t] w fun e w' => e = .returned (.bool true) ∧ Below w.heap.size w w' := by
  cases hr : Du.right a b c with
  | false => exact de_silent K a b c d n t w hL hr
  | true =>
    cases hp : Du.poss d n with
    | false => exact de_arg K a b c d n t w hL hr hp
    | true =>
      cases hn : Du.num t with
      | false => exact de_num K a b c d n t w hL hr hp hn
      | true =>
        obtain ⟨⟨ha1, ha2⟩, _, hc1, hc2⟩ := Du.right_iff.1 hr
        by_cases h1 : t = Du.tag a b c (Du.hoI K d n) false
        · have hs : Du.said a b c (Du.hoI K d n) t = (false, true) := by rw [h1, said_plain]
          have ht : t = Du.tag (Fm.ad a (-c)) b c (Du.hoI K d n) true := by rw [h1]; exact (ad_turn a (Fm.ml b (Du.hoI K d n)) c).symm
          have hq := right_ad (-c) hr
          have hs2 : Du.said (Fm.ad a (-c)) b c (Du.hoI K d n) t = (true, true) := by rw [ht, said_silent _ b c _ hc1 hc2]
          refine de_no K a b c d n t w hL hr hp hn (Fm.ad a (-c)) hq (rcall K a b c d n t (by rw [Du.readR_yes hr hp hn, hs])) (ecall K a b c d n t (eitherR_yes hr hp hn false hs)) (rcall K _ b c d n t (by rw [Du.readR_yes hq hp hn, hs2])) (ecall K _ b c d n t ?_)
          rw [eitherR_yes hq hp hn true hs2, if_pos rfl, ad_back a c ha1 ha2]
        · by_cases h2 : t = Du.tag a b c (Du.hoI K d n) true
          · have hs : Du.said a b c (Du.hoI K d n) t = (true, true) := by rw [h2, said_silent a b c _ hc1 hc2]
            have ht : t = Du.tag (Fm.ad a c) b c (Du.hoI K d n) false := by rw [h2]; exact (ad_swap a (Fm.ml b (Du.hoI K d n)) c).symm
            have hq := right_ad c hr
            have hs2 : Du.said (Fm.ad a c) b c (Du.hoI K d n) t = (false, true) := by rw [ht, said_plain]
            refine de_yes K a b c d n t w hL hr hp hn (Fm.ad a c) hq (rcall K a b c d n t (by rw [Du.readR_yes hr hp hn, hs])) (ecall K a b c d n t (eitherR_yes hr hp hn true hs)) (rcall K _ b c d n t (by rw [Du.readR_yes hq hp hn, hs2])) (ecall K _ b c d n t ?_)
            rw [eitherR_yes hq hp hn false hs2, if_neg (by decide), ad_back2 a c ha1 ha2]
          · have hs : Du.said a b c (Du.hoI K d n) t = (false, false) := by unfold Du.said; rw [if_neg h1, if_neg h2]
            exact de_none K a b c d n t w hL hr hp hn false (rcall K a b c d n t (by rw [Du.readR_yes hr hp hn, hs])) (ecall K a b c d n t (eitherR_none hr hp hn (by rw [hs])))
end Go.Proofs.YtllabahapaeedaaDoor
