/- The reference's Either, given that its Hash is the hash; the walk of DuressEitherSpec. -/
import Derived.Test.YtllabahapaeedaaDoorDuSpecRead
import Derived.Test.YtllabahapaeedaaDoorDuEitherWalk
namespace Go.Proofs.YtllabahapaeedaaDoor
open Go.RowKit
set_option linter.unusedVariables false
set_option maxRecDepth 100000 in
set_option maxHeartbeats 2000000 in
theorem re_occ (a b c d n t : Int) (w : World) (hp : Du.poss d n = false) :
    Calls Tryd.prog 14 #[.int .i64 d, .int .i64 n, .int .i64 t, silV a b c] w fun e w' => e = .returned (.tuple #[.agg #[.int .i64 0, .int .i64 0, .int .i64 0], .bool false, .int .i64 1]) ∧ Below w.heap.size w w' := by
  have HP := Lib.hid hp
  clear hp
  unfold silV
  go_enter Tryd.func14, Tryd.ntmps14
  have hS := (Ints.new w 23 .i64 [a, b, c]).alloc (.cells #[.int .i64 0, .int .i64 0, .int .i64 0] 23)
  have hX := Ints.new (w.alloc (.cells #[.int .i64 a, .int .i64 b, .int .i64 c] 23)) 23 .i64 [0, 0, 0]
  rw [World.size_alloc] at hX
  have hB := ((Below.refl w.heap.size w).alloc (Nat.le_refl _) (.cells #[.int .i64 a, .int .i64 b, .int .i64 c] 23)).alloc (by simp) (.cells #[.int .i64 0, .int .i64 0, .int .i64 0] 23)
  have s0 : _ = some (Value.int .i64 a) := hS.cell? 0
  have s1 : _ = some (Value.int .i64 b) := hS.cell? 1
  have s2 : _ = some (Value.int .i64 c) := hS.cell? 2
  go_wp2_with fail
  refine (rocc_any _ _ _).mono ?_
  rintro e w' ⟨he, rfl⟩
  rw [HP.out] at he
  subst he
  go_wp2_with (refine wpList_store_same rfl 23 (.tmp 8) (.tmp 24) rfl (w.heap.size + 1) _ (by rfl) (by rfl) 23 hX (by kernel_rfl) (ints_one .i64 _) ?_)
  refine bodyPost_ret (results_cell_tmp2 (p := 8) (q := 9) (r := 10) rfl _ _ (w.heap.size + 1) 23 _ (0, 0) _ (by rfl) hX Tryd.underlying23 (by rfl) (by kernel_rfl)) rfl ?_
  exact ⟨rfl, hB⟩
set_option maxRecDepth 100000 in
set_option maxHeartbeats 2000000 in
theorem re_num (a b c d n t : Int) (w : World) (hp : Du.poss d n = true) (hn : Du.num t = false) :
    Calls Tryd.prog 14 #[.int .i64 d, .int .i64 n, .int .i64 t, silV a b c] w fun e w' => e = .returned (.tuple #[.agg #[.int .i64 0, .int .i64 0, .int .i64 0], .bool false, .int .i64 1]) ∧ Below w.heap.size w w' := by
  have HP := Lib.hid hp
  have HN := Lib.hid hn
  clear hp hn
  unfold silV
  go_enter Tryd.func14, Tryd.ntmps14
  have hS := (Ints.new w 23 .i64 [a, b, c]).alloc (.cells #[.int .i64 0, .int .i64 0, .int .i64 0] 23)
  have hX := Ints.new (w.alloc (.cells #[.int .i64 a, .int .i64 b, .int .i64 c] 23)) 23 .i64 [0, 0, 0]
  rw [World.size_alloc] at hX
  have hB := ((Below.refl w.heap.size w).alloc (Nat.le_refl _) (.cells #[.int .i64 a, .int .i64 b, .int .i64 c] 23)).alloc (by simp) (.cells #[.int .i64 0, .int .i64 0, .int .i64 0] 23)
  have s0 : _ = some (Value.int .i64 a) := hS.cell? 0
  have s1 : _ = some (Value.int .i64 b) := hS.cell? 1
  have s2 : _ = some (Value.int .i64 c) := hS.cell? 2
  go_wp2_with fail
  refine (rocc_any _ _ _).mono ?_
  rintro e w' ⟨he, rfl⟩
  rw [HP.out] at he
  subst he
  go_wp2_with fail
  refine (rnum_any _ _).mono ?_
  rintro e w' ⟨he, rfl⟩
  rw [HN.out] at he
  subst he
  go_wp2_with (refine wpList_store_same rfl 23 (.tmp 8) (.tmp 24) rfl (w.heap.size + 1) _ (by rfl) (by rfl) 23 hX (by kernel_rfl) (ints_one .i64 _) ?_)
  refine bodyPost_ret (results_cell_tmp2 (p := 8) (q := 9) (r := 10) rfl _ _ (w.heap.size + 1) 23 _ (0, 0) _ (by rfl) hX Tryd.underlying23 (by rfl) (by kernel_rfl)) rfl ?_
  exact ⟨rfl, hB⟩
set_option maxRecDepth 100000 in
set_option maxHeartbeats 2000000 in
theorem re_bad (a b c d n t : Int) (w : World) (hp : Du.poss d n = true) (hn : Du.num t = true) (u v : Bool) (h1 : ∀ w, Calls Tryd.prog 12 #[.agg #[.int .i64 a, .int .i64 b, .int .i64 c], .int .i64 d, .int .i64 n, .int .i64 t] w fun e w' => e = .returned (.tuple #[.bool u, .bool v, .int .i64 470]) ∧ Below w.heap.size w w') :
    Calls Tryd.prog 14 #[.int .i64 d, .int .i64 n, .int .i64 t, silV a b c] w fun e w' => e = .returned (.tuple #[.agg #[.int .i64 0, .int .i64 0, .int .i64 0], .bool false, .int .i64 470]) ∧ Below w.heap.size w w' := by
  have HP := Lib.hid hp
  have HN := Lib.hid hn
  clear hp hn
  unfold silV
  go_enter Tryd.func14, Tryd.ntmps14
  have hS := (Ints.new w 23 .i64 [a, b, c]).alloc (.cells #[.int .i64 0, .int .i64 0, .int .i64 0] 23)
  have hX := Ints.new (w.alloc (.cells #[.int .i64 a, .int .i64 b, .int .i64 c] 23)) 23 .i64 [0, 0, 0]
  rw [World.size_alloc] at hX
  have hB := ((Below.refl w.heap.size w).alloc (Nat.le_refl _) (.cells #[.int .i64 a, .int .i64 b, .int .i64 c] 23)).alloc (by simp) (.cells #[.int .i64 0, .int .i64 0, .int .i64 0] 23)
  have s0 : _ = some (Value.int .i64 a) := hS.cell? 0
  have s1 : _ = some (Value.int .i64 b) := hS.cell? 1
  have s2 : _ = some (Value.int .i64 c) := hS.cell? 2
  go_wp2_with fail
  refine (rocc_any _ _ _).mono ?_
  rintro e w' ⟨he, rfl⟩
  rw [HP.out] at he
  subst he
  go_wp2_with fail
  refine (rnum_any _ _).mono ?_
  rintro e w' ⟨he, rfl⟩
  rw [HN.out] at he
  subst he
  go_wp2_with fail
  refine (h1 _).mono ?_
  rintro e w1 ⟨rfl, hb⟩
  clear s0 s1 s2
  have hS := hS.below hb hS.lt
  have hX := hX.below hb hX.lt
  have hB := hB.trans (hb.mono hB.size)
  clear hb
  have s0 : _ = some (Value.int .i64 a) := hS.cell? 0
  have s1 : _ = some (Value.int .i64 b) := hS.cell? 1
  have s2 : _ = some (Value.int .i64 c) := hS.cell? 2
  go_wp2_with (refine wpList_store_same rfl 23 (.tmp 8) (.tmp 36) rfl (w.heap.size + 1) _ (by rfl) (by rfl) 23 hX (by kernel_rfl) (ints_one .i64 _) ?_)
  refine bodyPost_ret (results_cell_tmp2 (p := 8) (q := 9) (r := 10) rfl _ _ (w.heap.size + 1) 23 _ (0, 0) _ (by rfl) hX Tryd.underlying23 (by rfl) (by kernel_rfl)) rfl ?_
  exact ⟨rfl, hB⟩
set_option maxRecDepth 100000 in
set_option maxHeartbeats 2000000 in
theorem re_none (a b c d n t : Int) (w : World) (hp : Du.poss d n = true) (hn : Du.num t = true) (u : Bool) (h1 : ∀ w, Calls Tryd.prog 12 #[.agg #[.int .i64 a, .int .i64 b, .int .i64 c], .int .i64 d, .int .i64 n, .int .i64 t] w fun e w' => e = .returned (.tuple #[.bool u, .bool false, .int .i64 0]) ∧ Below w.heap.size w w') :
    Calls Tryd.prog 14 #[.int .i64 d, .int .i64 n, .int .i64 t, silV a b c] w fun e w' => e = .returned (.tuple #[.agg #[.int .i64 0, .int .i64 0, .int .i64 0], .bool false, .int .i64 0]) ∧ Below w.heap.size w w' := by
  have HP := Lib.hid hp
  have HN := Lib.hid hn
  clear hp hn
  unfold silV
  go_enter Tryd.func14, Tryd.ntmps14
  have hS := (Ints.new w 23 .i64 [a, b, c]).alloc (.cells #[.int .i64 0, .int .i64 0, .int .i64 0] 23)
  have hX := Ints.new (w.alloc (.cells #[.int .i64 a, .int .i64 b, .int .i64 c] 23)) 23 .i64 [0, 0, 0]
  rw [World.size_alloc] at hX
  have hB := ((Below.refl w.heap.size w).alloc (Nat.le_refl _) (.cells #[.int .i64 a, .int .i64 b, .int .i64 c] 23)).alloc (by simp) (.cells #[.int .i64 0, .int .i64 0, .int .i64 0] 23)
  have s0 : _ = some (Value.int .i64 a) := hS.cell? 0
  have s1 : _ = some (Value.int .i64 b) := hS.cell? 1
  have s2 : _ = some (Value.int .i64 c) := hS.cell? 2
  go_wp2_with fail
  refine (rocc_any _ _ _).mono ?_
  rintro e w' ⟨he, rfl⟩
  rw [HP.out] at he
  subst he
  go_wp2_with fail
  refine (rnum_any _ _).mono ?_
  rintro e w' ⟨he, rfl⟩
  rw [HN.out] at he
  subst he
  go_wp2_with fail
  refine (h1 _).mono ?_
  rintro e w1 ⟨rfl, hb⟩
  clear s0 s1 s2
  have hS := hS.below hb hS.lt
  have hX := hX.below hb hX.lt
  have hB := hB.trans (hb.mono hB.size)
  clear hb
  have s0 : _ = some (Value.int .i64 a) := hS.cell? 0
  have s1 : _ = some (Value.int .i64 b) := hS.cell? 1
  have s2 : _ = some (Value.int .i64 c) := hS.cell? 2
  go_wp2_with (refine wpList_store_same rfl 23 (.tmp 8) (.tmp 40) rfl (w.heap.size + 1) _ (by rfl) (by rfl) 23 hX (by kernel_rfl) (ints_one .i64 _) ?_)
  refine bodyPost_ret (results_cell_tmp2 (p := 8) (q := 9) (r := 10) rfl _ _ (w.heap.size + 1) 23 _ (0, 0) _ (by rfl) hX Tryd.underlying23 (by rfl) (by kernel_rfl)) rfl ?_
  exact ⟨rfl, hB⟩
set_option maxRecDepth 100000 in
set_option maxHeartbeats 2000000 in
theorem re_true (a b c d n t : Int) (w : World) (hp : Du.poss d n = true) (hn : Du.num t = true) (k1 : 1 ≤ c) (k2 : c < 1073741789) (h1 : ∀ w, Calls Tryd.prog 12 #[.agg #[.int .i64 a, .int .i64 b, .int .i64 c], .int .i64 d, .int .i64 n, .int .i64 t] w fun e w' => e = .returned (.tuple #[.bool true, .bool true, .int .i64 0]) ∧ Below w.heap.size w w') :
    Calls Tryd.prog 14 #[.int .i64 d, .int .i64 n, .int .i64 t, silV a b c] w fun e w' => e = .returned (.tuple #[.agg #[.int .i64 (Fm.ad a c), .int .i64 b, .int .i64 c], .bool true, .int .i64 0]) ∧ Below w.heap.size w w' := by
  have HP := Lib.hid hp
  have HN := Lib.hid hn
  clear hp hn
  unfold silV
  go_enter Tryd.func14, Tryd.ntmps14
  have hS := (Ints.new w 23 .i64 [a, b, c]).alloc (.cells #[.int .i64 0, .int .i64 0, .int .i64 0] 23)
  have hX := Ints.new (w.alloc (.cells #[.int .i64 a, .int .i64 b, .int .i64 c] 23)) 23 .i64 [0, 0, 0]
  rw [World.size_alloc] at hX
  have hB := ((Below.refl w.heap.size w).alloc (Nat.le_refl _) (.cells #[.int .i64 a, .int .i64 b, .int .i64 c] 23)).alloc (by simp) (.cells #[.int .i64 0, .int .i64 0, .int .i64 0] 23)
  have s0 : _ = some (Value.int .i64 a) := hS.cell? 0
  have s1 : _ = some (Value.int .i64 b) := hS.cell? 1
  have s2 : _ = some (Value.int .i64 c) := hS.cell? 2
  go_wp2_with fail
  refine (rocc_any _ _ _).mono ?_
  rintro e w' ⟨he, rfl⟩
  rw [HP.out] at he
  subst he
  go_wp2_with fail
  refine (rnum_any _ _).mono ?_
  rintro e w' ⟨he, rfl⟩
  rw [HN.out] at he
  subst he
  go_wp2_with fail
  refine (h1 _).mono ?_
  rintro e w1 ⟨rfl, hb⟩
  clear s0 s1 s2
  have hS := hS.below hb hS.lt
  have hX := hX.below hb hX.lt
  have hB := hB.trans (hb.mono hB.size)
  clear hb
  have s0 : _ = some (Value.int .i64 a) := hS.cell? 0
  have s1 : _ = some (Value.int .i64 b) := hS.cell? 1
  have s2 : _ = some (Value.int .i64 c) := hS.cell? 2
  have hl := hX.lt
  have hY := Ints.new w1 23 .i64 [a, b, c]
  have hS2 := hS.alloc (.cells #[.int .i64 a, .int .i64 b, .int .i64 c] 23)
  have hX2 := hX.alloc (.cells #[.int .i64 a, .int .i64 b, .int .i64 c] 23)
  have hB2 := hB.alloc hB.size (.cells #[.int .i64 a, .int .i64 b, .int .i64 c] 23)
  have p0 : _ = some (Value.int .i64 a) := hS2.cell? 0
  have p1 : _ = some (Value.int .i64 b) := hS2.cell? 1
  have p2 : _ = some (Value.int .i64 c) := hS2.cell? 2
  go_wp2_with fail
  refine (radd_any _ _ _).mono ?_
  rintro e w' ⟨rfl, rfl⟩
  have y0 : _ = some (Value.int .i64 a) := hY.cell? 0
  have f0 := hY.frozen 0
  have hY3 := Ints.new w1 23 .i64 [(Fm.ad a c), b, c]
  have hX3 := hX.alloc (.cells #[.int .i64 (Fm.ad a c), .int .i64 b, .int .i64 c] 23)
  have hB3 := hB.alloc hB.size (.cells #[.int .i64 (Fm.ad a c), .int .i64 b, .int .i64 c] 23)
  have z0 : _ = some (Value.int .i64 (Fm.ad a c)) := hY3.cell? 0
  have z1 : _ = some (Value.int .i64 b) := hY3.cell? 1
  have z2 : _ = some (Value.int .i64 c) := hY3.cell? 2
  go_wp2_with (refine wpList_store_ints rfl 23 (.tmp 8) (.tmp 56) rfl (w.heap.size + 1) .i64 [(Fm.ad a c), b, c] (by rfl) (by rfl) 23 _ hX3 (by rfl) (by kernel_rfl) ?_; intro w2 hX4 hg4)
  have hB4 := hB3.grown hg4 hB3.size (fun g e => by injection e with e; omega)
  refine bodyPost_ret (results_cell_tmp2 (p := 8) (q := 9) (r := 10) rfl _ _ (w.heap.size + 1) 23 _ (0, 0) _ (by rfl) hX4 Tryd.underlying23 (by rfl) (by kernel_rfl)) rfl ?_
  exact ⟨rfl, hB4⟩
set_option maxRecDepth 100000 in
set_option maxHeartbeats 2000000 in
theorem re_false (a b c d n t : Int) (w : World) (hp : Du.poss d n = true) (hn : Du.num t = true) (k1 : 1 ≤ c) (k2 : c < 1073741789) (h1 : ∀ w, Calls Tryd.prog 12 #[.agg #[.int .i64 a, .int .i64 b, .int .i64 c], .int .i64 d, .int .i64 n, .int .i64 t] w fun e w' => e = .returned (.tuple #[.bool false, .bool true, .int .i64 0]) ∧ Below w.heap.size w w') :
    Calls Tryd.prog 14 #[.int .i64 d, .int .i64 n, .int .i64 t, silV a b c] w fun e w' => e = .returned (.tuple #[.agg #[.int .i64 (Fm.ad a (-c)), .int .i64 b, .int .i64 c], .bool true, .int .i64 0]) ∧ Below w.heap.size w w' := by
  have HP := Lib.hid hp
  have HN := Lib.hid hn
  clear hp hn
  unfold silV
  go_enter Tryd.func14, Tryd.ntmps14
  have hS := (Ints.new w 23 .i64 [a, b, c]).alloc (.cells #[.int .i64 0, .int .i64 0, .int .i64 0] 23)
  have hX := Ints.new (w.alloc (.cells #[.int .i64 a, .int .i64 b, .int .i64 c] 23)) 23 .i64 [0, 0, 0]
  rw [World.size_alloc] at hX
  have hB := ((Below.refl w.heap.size w).alloc (Nat.le_refl _) (.cells #[.int .i64 a, .int .i64 b, .int .i64 c] 23)).alloc (by simp) (.cells #[.int .i64 0, .int .i64 0, .int .i64 0] 23)
  have s0 : _ = some (Value.int .i64 a) := hS.cell? 0
  have s1 : _ = some (Value.int .i64 b) := hS.cell? 1
  have s2 : _ = some (Value.int .i64 c) := hS.cell? 2
  go_wp2_with fail
  refine (rocc_any _ _ _).mono ?_
  rintro e w' ⟨he, rfl⟩
  rw [HP.out] at he
  subst he
  go_wp2_with fail
  refine (rnum_any _ _).mono ?_
  rintro e w' ⟨he, rfl⟩
  rw [HN.out] at he
  subst he
  go_wp2_with fail
  refine (h1 _).mono ?_
  rintro e w1 ⟨rfl, hb⟩
  clear s0 s1 s2
  have hS := hS.below hb hS.lt
  have hX := hX.below hb hX.lt
  have hB := hB.trans (hb.mono hB.size)
  clear hb
  have s0 : _ = some (Value.int .i64 a) := hS.cell? 0
  have s1 : _ = some (Value.int .i64 b) := hS.cell? 1
  have s2 : _ = some (Value.int .i64 c) := hS.cell? 2
  have hl := hX.lt
  have hY := Ints.new w1 23 .i64 [a, b, c]
  have hS2 := hS.alloc (.cells #[.int .i64 a, .int .i64 b, .int .i64 c] 23)
  have hX2 := hX.alloc (.cells #[.int .i64 a, .int .i64 b, .int .i64 c] 23)
  have hB2 := hB.alloc hB.size (.cells #[.int .i64 a, .int .i64 b, .int .i64 c] 23)
  have p0 : _ = some (Value.int .i64 a) := hS2.cell? 0
  have p1 : _ = some (Value.int .i64 b) := hS2.cell? 1
  have p2 : _ = some (Value.int .i64 c) := hS2.cell? 2
  go_wp2_with fail
  refine (radd_any _ _ _).mono ?_
  rintro e w' ⟨rfl, rfl⟩
  have y0 : _ = some (Value.int .i64 a) := hY.cell? 0
  have f0 := hY.frozen 0
  have hY3 := Ints.new w1 23 .i64 [(Fm.ad a (-c)), b, c]
  have hX3 := hX.alloc (.cells #[.int .i64 (Fm.ad a (-c)), .int .i64 b, .int .i64 c] 23)
  have hB3 := hB.alloc hB.size (.cells #[.int .i64 (Fm.ad a (-c)), .int .i64 b, .int .i64 c] 23)
  have z0 : _ = some (Value.int .i64 (Fm.ad a (-c))) := hY3.cell? 0
  have z1 : _ = some (Value.int .i64 b) := hY3.cell? 1
  have z2 : _ = some (Value.int .i64 c) := hY3.cell? 2
  go_wp2_with (refine wpList_store_ints rfl 23 (.tmp 8) (.tmp 56) rfl (w.heap.size + 1) .i64 [(Fm.ad a (-c)), b, c] (by rfl) (by rfl) 23 _ hX3 (by rfl) (by kernel_rfl) ?_; intro w2 hX4 hg4)
  have hB4 := hB3.grown hg4 hB3.size (fun g e => by injection e with e; omega)
  refine bodyPost_ret (results_cell_tmp2 (p := 8) (q := 9) (r := 10) rfl _ _ (w.heap.size + 1) 23 _ (0, 0) _ (by rfl) hX4 Tryd.underlying23 (by rfl) (by kernel_rfl)) rfl ?_
  exact ⟨rfl, hB4⟩
theorem rrcall (K : Sh.Cst) (RH : RHash K) (a b c d n t : Int) {x y : Bool} {z : Int} (h : Du.readR K a b c d n t = (x, y, z)) (w : World) : Calls Tryd.prog 12 #[.agg #[.int .i64 a, .int .i64 b, .int .i64 c], .int .i64 d, .int .i64 n, .int .i64 t] w fun e w' => e = .returned (.tuple #[.bool x, .bool y, .int .i64 z]) ∧ Below w.heap.size w w' :=
  (rread_any K RH a b c d n t w).mono fun e w' ⟨he, hb⟩ => ⟨by rw [he, h], hb⟩
theorem reither_any (K : Sh.Cst) (RH : RHash K) (a b c d n t : Int) (w : World) :
    Calls Tryd.prog 14 #[.int .i64 d, .int .i64 n, .int .i64 t, silV a b c] w fun e w' => e = .returned (eithV (Du.eitherR K a b c d n t)) ∧ Below w.heap.size w w' := by
  cases hp : Du.poss d n with
  | false =>
    rw [show Du.eitherR K a b c d n t = (0, 0, 0, false, 1) by simp [Du.eitherR, hp]]
    exact re_occ a b c d n t w hp
  | true =>
    cases hn : Du.num t with
    | false =>
      rw [show Du.eitherR K a b c d n t = (0, 0, 0, false, 1) by simp [Du.eitherR, hn]]
      exact re_num a b c d n t w hp hn
    | true =>
      cases hr : Du.right a b c with
      | false =>
        rw [show Du.eitherR K a b c d n t = (0, 0, 0, false, 470) by simp [Du.eitherR, hp, hn, hr]]
        exact re_bad a b c d n t w hp hn _ _ (rrcall K RH a b c d n t (Du.readR_silent hr))
      | true =>
        obtain ⟨_, _, hc1, hc2⟩ := Du.right_iff.1 hr
        have hR := Du.readR_yes (K := K) hr hp hn
        cases h2 : (Du.said a b c (Du.hoI K d n) t).2 with
        | false =>
          rw [eitherR_none hr hp hn h2]
          exact re_none a b c d n t w hp hn _ (rrcall K RH a b c d n t (by rw [hR, h2]))
        | true =>
          cases h1 : (Du.said a b c (Du.hoI K d n) t).1 with
          | false =>
            rw [eitherR_yes hr hp hn false (Prod.ext h1 h2), if_neg (by decide)]
            exact re_false a b c d n t w hp hn hc1 hc2 (rrcall K RH a b c d n t (by rw [hR, h1, h2]))
          | true =>
            rw [eitherR_yes hr hp hn true (Prod.ext h1 h2), if_pos rfl]
            exact re_true a b c d n t w hp hn hc1 hc2 (rrcall K RH a b c d n t (by rw [hR, h1, h2]))
set_option maxRecDepth 100000 in
set_option maxHeartbeats 2000000 in
theorem des_core (K : Sh.Cst) (a b c d n t : Int) (w : World) (hL : Laid w) (x y z u : Int) (v : Bool) (h1 : ∀ w, Laid w → Calls Tryd.prog 13 #[.int .i64 d, .int .i64 n, .int .i64 t, .agg #[.int .i64 a, .int .i64 b, .int .i64 c]] w fun e w' => e = .returned (.tuple #[.agg #[.int .i64 x, .int .i64 y, .int .i64 z], .bool v, .int .i64 u]) ∧ Below w.heap.size w w') (h2 : ∀ w, Calls Tryd.prog 14 #[.int .i64 d, .int .i64 n, .int .i64 t, .agg #[.int .i64 a, .int .i64 b, .int .i64 c]] w fun e w' => e = .returned (.tuple #[.agg #[.int .i64 x, .int .i64 y, .int .i64 z], .bool v, .int .i64 u]) ∧ Below w.heap.size w w') :
    Calls Tryd.prog 4 #[.int .i64 d, .int .i64 n, .int .i64 t, silV a b c] w fun e w' => e = .returned (.bool true) ∧ Below w.heap.size w w' := by
  unfold silV
  go_enter Tryd.func4, Tryd.ntmps4
  have hS := Ints.new w 23 .i64 [a, b, c]
  have hB := (Below.refl w.heap.size w).alloc (Nat.le_refl _) (.cells #[.int .i64 a, .int .i64 b, .int .i64 c] 23)
  have s0 : _ = some (Value.int .i64 a) := hS.cell? 0
  have s1 : _ = some (Value.int .i64 b) := hS.cell? 1
  have s2 : _ = some (Value.int .i64 c) := hS.cell? 2
  go_wp2_with fail
  refine (dsane_any K _ (hL.below hB hL.size)).mono ?_
  rintro e w1 ⟨rfl, hb⟩
  clear s0 s1 s2
  have hS := hS.below hb hS.lt
  have hB := hB.trans (hb.mono hB.size)
  clear hb
  have s0 : _ = some (Value.int .i64 a) := hS.cell? 0
  have s1 : _ = some (Value.int .i64 b) := hS.cell? 1
  have s2 : _ = some (Value.int .i64 c) := hS.cell? 2
  go_wp2_with fail
  refine (h1 _ (hL.below hB hL.size)).mono ?_
  rintro e w2 ⟨rfl, hb⟩
  clear s0 s1 s2
  have hS := hS.below hb hS.lt
  have hB := hB.trans (hb.mono hB.size)
  clear hb
  have hX := Ints.new w2 23 .i64 [x, y, z]
  have hS := hS.alloc (.cells #[.int .i64 x, .int .i64 y, .int .i64 z] 23)
  have hB := hB.alloc hB.size (.cells #[.int .i64 x, .int .i64 y, .int .i64 z] 23)
  have s0 : _ = some (Value.int .i64 a) := hS.cell? 0
  have s1 : _ = some (Value.int .i64 b) := hS.cell? 1
  have s2 : _ = some (Value.int .i64 c) := hS.cell? 2
  go_wp2_with fail
  refine (h2 _).mono ?_
  rintro e w3 ⟨rfl, hb⟩
  clear s0 s1 s2
  have hS := hS.below hb hS.lt
  have hX := hX.below hb hX.lt
  have hB := hB.trans (hb.mono hB.size)
  clear hb
  have hY := Ints.new w3 23 .i64 [x, y, z]
  have hX := hX.alloc (.cells #[.int .i64 x, .int .i64 y, .int .i64 z] 23)
  have hB := hB.alloc hB.size (.cells #[.int .i64 x, .int .i64 y, .int .i64 z] 23)
  have x0 : _ = some (Value.int .i64 x) := hX.cell? 0
  have x1 : _ = some (Value.int .i64 y) := hX.cell? 1
  have x2 : _ = some (Value.int .i64 z) := hX.cell? 2
  have y0 : _ = some (Value.int .i64 x) := hY.cell? 0
  have y1 : _ = some (Value.int .i64 y) := hY.cell? 1
  have y2 : _ = some (Value.int .i64 z) := hY.cell? 2
  go_wp2
  go_ret
  exact ⟨rfl, hB⟩
theorem des_walk (RHA : ∀ K, RHash K) (K : Sh.Cst) (d n t a b c : Int) (w : World) (hL : Laid w) :
    Calls Tryd.prog 4 #[.int .i64 d, .int .i64 n, .int .i64 t, silV a b c] w fun e w' => e = .returned (.bool true) ∧ Below w.heap.size w w' :=
  des_core K a b c d n t w hL _ _ _ _ _ (fun w hL => deither_any K a b c d n t w hL) (fun w => reither_any K (RHA K) a b c d n t w)
end Go.Proofs.YtllabahapaeedaaDoor
