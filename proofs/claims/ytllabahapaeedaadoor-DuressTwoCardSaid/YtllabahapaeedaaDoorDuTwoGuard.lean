/- The walk of DuressTwo (the guards). -/
import Derived.Test.YtllabahapaeedaaDoorDuTwoMath
namespace Go.Proofs.YtllabahapaeedaaDoor
open Go.RowKit
set_option linter.unusedVariables false
/-- a block of two truths -/
def Bo (w : World) (g : Nat) (t : TypeId) (p q : Bool) : Prop := w.heap[g]? = some (.cells #[.bool p, .bool q] t (0, 0))
theorem Bo.lt {w : World} {g : Nat} {t : TypeId} {p q : Bool} (h : Bo w g t p q) : g < w.heap.size := heap_lt h
theorem Bo.cell0 {w : World} {g : Nat} {t : TypeId} {p q : Bool} (h : Bo w g t p q) : w.cell? ⟨g, 0, none⟩ = some (.bool p) := by rw [cell_of_row w g 0 _ _ _ h]; rfl
theorem Bo.cell1 {w : World} {g : Nat} {t : TypeId} {p q : Bool} (h : Bo w g t p q) : w.cell? ⟨g, 1, none⟩ = some (.bool q) := by rw [cell_of_row w g 1 _ _ _ h]; rfl
theorem Bo.alloc {w : World} {g : Nat} {t : TypeId} {p q : Bool} (h : Bo w g t p q) (ob : Obj) : Bo (w.alloc ob) g t p q := (Below.heap_alloc w ob g h.lt).trans h
theorem Bo.far {w : World} {g : Nat} {t : TypeId} {p q : Bool} (h : Bo w g t p q) {a : Addr} (hp : g ≠ a.block) (u : Value) : Bo (w.setCell a u) g t p q := (Below.heap_setCell w a u g hp).trans h
theorem Bo.below {w w' : World} {B g : Nat} {t : TypeId} {p q : Bool} (h : Bo w g t p q) (hb : Below B w w') (hg : g < B) : Bo w' g t p q := (hb.block g hg).trans h
theorem Bo.new (w : World) (t : TypeId) (p q : Bool) : Bo (w.alloc (.cells #[.bool p, .bool q] t)) w.heap.size t p q := heap_alloc_new w _
theorem undraw {B : Nat} {w w' : World} (h : Below B w.drew w') : Below B w w' := ⟨h.os, h.tape, h.output, h.size, h.block⟩
def pr (a b : Int) : Value := .agg #[.int .i64 a, .int .i64 b]
def prb (a b : Bool) : Value := .agg #[.bool a, .bool b]
set_option maxRecDepth 100000 in
set_option maxHeartbeats 4000000 in
theorem dt_g0 (K : Sh.Cst) (t0 t1 d0 d1 n0 n1 c by_ : Int) (b0 b1 : Bool) (w : World) (hL : Laid w) (q0 : Du.poss d0 n0 = false)  :
    Calls Tryd.prog 7 #[pr t0 t1, pr d0 d1, pr n0 n1, .int .i64 c, prb b0 b1, .int .i64 by_] w fun e w' => e = .returned (.bool true) ∧ Below w.heap.size w w' := by
  have Q0 := Lib.hid q0
  clear q0
  unfold pr prb
  go_enter Tryd.func7, Tryd.ntmps7
  have hT := ((((Ints.new w 38 .i64 [t0, t1]).alloc (.cells #[.int .i64 d0, .int .i64 d1] 38)).alloc (.cells #[.int .i64 n0, .int .i64 n1] 38)).alloc (.cells #[.bool b0, .bool b1] 39))
  have hD := ((((Ints.new (w.alloc (.cells #[.int .i64 t0, .int .i64 t1] 38)) 38 .i64 [d0, d1])).alloc (.cells #[.int .i64 n0, .int .i64 n1] 38)).alloc (.cells #[.bool b0, .bool b1] 39))
  have hN := ((Ints.new ((w.alloc (.cells #[.int .i64 t0, .int .i64 t1] 38)).alloc (.cells #[.int .i64 d0, .int .i64 d1] 38)) 38 .i64 [n0, n1]).alloc (.cells #[.bool b0, .bool b1] 39))
  have hO := Bo.new (((w.alloc (.cells #[.int .i64 t0, .int .i64 t1] 38)).alloc (.cells #[.int .i64 d0, .int .i64 d1] 38)).alloc (.cells #[.int .i64 n0, .int .i64 n1] 38)) 39 b0 b1
  have hB := (((((Below.refl w.heap.size w).alloc (Nat.le_refl _) (.cells #[.int .i64 t0, .int .i64 t1] 38)).alloc (by simp) (.cells #[.int .i64 d0, .int .i64 d1] 38)).alloc (by simp; omega) (.cells #[.int .i64 n0, .int .i64 n1] 38)).alloc (by simp; omega) (.cells #[.bool b0, .bool b1] 39))
  rw [World.size_alloc] at hD
  rw [World.size_alloc, World.size_alloc] at hN
  rw [World.size_alloc, World.size_alloc, World.size_alloc] at hO
  have t_0 : _ = some (Value.int .i64 t0) := hT.cell? 0
  have t_1 : _ = some (Value.int .i64 t1) := hT.cell? 1
  have d_0 : _ = some (Value.int .i64 d0) := hD.cell? 0
  have d_1 : _ = some (Value.int .i64 d1) := hD.cell? 1
  have n_0 : _ = some (Value.int .i64 n0) := hN.cell? 0
  have n_1 : _ = some (Value.int .i64 n1) := hN.cell? 1
  have o0 : _ = some (Value.bool b0) := hO.cell0
  have o1 : _ = some (Value.bool b1) := hO.cell1
  go_wp2_with fail
  refine (dsane_any K _ (hL.below hB hL.size)).mono ?_
  rintro e w1 ⟨rfl, hb⟩
  clear t_0 t_1 d_0 d_1 n_0 n_1 o0 o1
  have hT := hT.below hb hT.lt
  have hD := hD.below hb hD.lt
  have hN := hN.below hb hN.lt
  have hO := hO.below hb hO.lt
  have hB := hB.trans (hb.mono hB.size)
  clear hb
  have t_0 : _ = some (Value.int .i64 t0) := hT.cell? 0
  have t_1 : _ = some (Value.int .i64 t1) := hT.cell? 1
  have d_0 : _ = some (Value.int .i64 d0) := hD.cell? 0
  have d_1 : _ = some (Value.int .i64 d1) := hD.cell? 1
  have n_0 : _ = some (Value.int .i64 n0) := hN.cell? 0
  have n_1 : _ = some (Value.int .i64 n1) := hN.cell? 1
  have o0 : _ = some (Value.bool b0) := hO.cell0
  have o1 : _ = some (Value.bool b1) := hO.cell1
  go_wp2_with fail
  refine (rocc_any _ _ _).mono ?_
  rintro e w' ⟨he, rfl⟩
  rw [Q0.out] at he
  subst he
  go_wp2
  go_ret
  exact ⟨rfl, hB⟩
set_option maxRecDepth 100000 in
set_option maxHeartbeats 4000000 in
theorem dt_g1 (K : Sh.Cst) (t0 t1 d0 d1 n0 n1 c by_ : Int) (b0 b1 : Bool) (w : World) (hL : Laid w) (q0 : Du.poss d0 n0 = true) (q1 : Du.poss d1 n1 = false)  :
    Calls Tryd.prog 7 #[pr t0 t1, pr d0 d1, pr n0 n1, .int .i64 c, prb b0 b1, .int .i64 by_] w fun e w' => e = .returned (.bool true) ∧ Below w.heap.size w w' := by
  have Q0 := Lib.hid q0
  clear q0
  have Q1 := Lib.hid q1
  clear q1
  unfold pr prb
  go_enter Tryd.func7, Tryd.ntmps7
  have hT := ((((Ints.new w 38 .i64 [t0, t1]).alloc (.cells #[.int .i64 d0, .int .i64 d1] 38)).alloc (.cells #[.int .i64 n0, .int .i64 n1] 38)).alloc (.cells #[.bool b0, .bool b1] 39))
  have hD := ((((Ints.new (w.alloc (.cells #[.int .i64 t0, .int .i64 t1] 38)) 38 .i64 [d0, d1])).alloc (.cells #[.int .i64 n0, .int .i64 n1] 38)).alloc (.cells #[.bool b0, .bool b1] 39))
  have hN := ((Ints.new ((w.alloc (.cells #[.int .i64 t0, .int .i64 t1] 38)).alloc (.cells #[.int .i64 d0, .int .i64 d1] 38)) 38 .i64 [n0, n1]).alloc (.cells #[.bool b0, .bool b1] 39))
  have hO := Bo.new (((w.alloc (.cells #[.int .i64 t0, .int .i64 t1] 38)).alloc (.cells #[.int .i64 d0, .int .i64 d1] 38)).alloc (.cells #[.int .i64 n0, .int .i64 n1] 38)) 39 b0 b1
  have hB := (((((Below.refl w.heap.size w).alloc (Nat.le_refl _) (.cells #[.int .i64 t0, .int .i64 t1] 38)).alloc (by simp) (.cells #[.int .i64 d0, .int .i64 d1] 38)).alloc (by simp; omega) (.cells #[.int .i64 n0, .int .i64 n1] 38)).alloc (by simp; omega) (.cells #[.bool b0, .bool b1] 39))
  rw [World.size_alloc] at hD
  rw [World.size_alloc, World.size_alloc] at hN
  rw [World.size_alloc, World.size_alloc, World.size_alloc] at hO
  have t_0 : _ = some (Value.int .i64 t0) := hT.cell? 0
  have t_1 : _ = some (Value.int .i64 t1) := hT.cell? 1
  have d_0 : _ = some (Value.int .i64 d0) := hD.cell? 0
  have d_1 : _ = some (Value.int .i64 d1) := hD.cell? 1
  have n_0 : _ = some (Value.int .i64 n0) := hN.cell? 0
  have n_1 : _ = some (Value.int .i64 n1) := hN.cell? 1
  have o0 : _ = some (Value.bool b0) := hO.cell0
  have o1 : _ = some (Value.bool b1) := hO.cell1
  go_wp2_with fail
  refine (dsane_any K _ (hL.below hB hL.size)).mono ?_
  rintro e w1 ⟨rfl, hb⟩
  clear t_0 t_1 d_0 d_1 n_0 n_1 o0 o1
  have hT := hT.below hb hT.lt
  have hD := hD.below hb hD.lt
  have hN := hN.below hb hN.lt
  have hO := hO.below hb hO.lt
  have hB := hB.trans (hb.mono hB.size)
  clear hb
  have t_0 : _ = some (Value.int .i64 t0) := hT.cell? 0
  have t_1 : _ = some (Value.int .i64 t1) := hT.cell? 1
  have d_0 : _ = some (Value.int .i64 d0) := hD.cell? 0
  have d_1 : _ = some (Value.int .i64 d1) := hD.cell? 1
  have n_0 : _ = some (Value.int .i64 n0) := hN.cell? 0
  have n_1 : _ = some (Value.int .i64 n1) := hN.cell? 1
  have o0 : _ = some (Value.bool b0) := hO.cell0
  have o1 : _ = some (Value.bool b1) := hO.cell1
  go_wp2_with fail
  refine (rocc_any _ _ _).mono ?_
  rintro e w' ⟨he, rfl⟩
  rw [Q0.out] at he
  subst he
  go_wp2_with fail
  refine (rocc_any _ _ _).mono ?_
  rintro e w' ⟨he, rfl⟩
  rw [Q1.out] at he
  subst he
  go_wp2
  go_ret
  exact ⟨rfl, hB⟩
set_option maxRecDepth 100000 in
set_option maxHeartbeats 4000000 in
theorem dt_g2 (K : Sh.Cst) (t0 t1 d0 d1 n0 n1 c by_ : Int) (b0 b1 : Bool) (w : World) (hL : Laid w) (q0 : Du.poss d0 n0 = true) (q1 : Du.poss d1 n1 = true) (q2 : Du.num t0 = false)  :
    Calls Tryd.prog 7 #[pr t0 t1, pr d0 d1, pr n0 n1, .int .i64 c, prb b0 b1, .int .i64 by_] w fun e w' => e = .returned (.bool true) ∧ Below w.heap.size w w' := by
  have Q0 := Lib.hid q0
  clear q0
  have Q1 := Lib.hid q1
  clear q1
  have Q2 := Lib.hid q2
  clear q2
  unfold pr prb
  go_enter Tryd.func7, Tryd.ntmps7
  have hT := ((((Ints.new w 38 .i64 [t0, t1]).alloc (.cells #[.int .i64 d0, .int .i64 d1] 38)).alloc (.cells #[.int .i64 n0, .int .i64 n1] 38)).alloc (.cells #[.bool b0, .bool b1] 39))
  have hD := ((((Ints.new (w.alloc (.cells #[.int .i64 t0, .int .i64 t1] 38)) 38 .i64 [d0, d1])).alloc (.cells #[.int .i64 n0, .int .i64 n1] 38)).alloc (.cells #[.bool b0, .bool b1] 39))
  have hN := ((Ints.new ((w.alloc (.cells #[.int .i64 t0, .int .i64 t1] 38)).alloc (.cells #[.int .i64 d0, .int .i64 d1] 38)) 38 .i64 [n0, n1]).alloc (.cells #[.bool b0, .bool b1] 39))
  have hO := Bo.new (((w.alloc (.cells #[.int .i64 t0, .int .i64 t1] 38)).alloc (.cells #[.int .i64 d0, .int .i64 d1] 38)).alloc (.cells #[.int .i64 n0, .int .i64 n1] 38)) 39 b0 b1
  have hB := (((((Below.refl w.heap.size w).alloc (Nat.le_refl _) (.cells #[.int .i64 t0, .int .i64 t1] 38)).alloc (by simp) (.cells #[.int .i64 d0, .int .i64 d1] 38)).alloc (by simp; omega) (.cells #[.int .i64 n0, .int .i64 n1] 38)).alloc (by simp; omega) (.cells #[.bool b0, .bool b1] 39))
  rw [World.size_alloc] at hD
  rw [World.size_alloc, World.size_alloc] at hN
  rw [World.size_alloc, World.size_alloc, World.size_alloc] at hO
  have t_0 : _ = some (Value.int .i64 t0) := hT.cell? 0
  have t_1 : _ = some (Value.int .i64 t1) := hT.cell? 1
  have d_0 : _ = some (Value.int .i64 d0) := hD.cell? 0
  have d_1 : _ = some (Value.int .i64 d1) := hD.cell? 1
  have n_0 : _ = some (Value.int .i64 n0) := hN.cell? 0
  have n_1 : _ = some (Value.int .i64 n1) := hN.cell? 1
  have o0 : _ = some (Value.bool b0) := hO.cell0
  have o1 : _ = some (Value.bool b1) := hO.cell1
  go_wp2_with fail
  refine (dsane_any K _ (hL.below hB hL.size)).mono ?_
  rintro e w1 ⟨rfl, hb⟩
  clear t_0 t_1 d_0 d_1 n_0 n_1 o0 o1
  have hT := hT.below hb hT.lt
  have hD := hD.below hb hD.lt
  have hN := hN.below hb hN.lt
  have hO := hO.below hb hO.lt
  have hB := hB.trans (hb.mono hB.size)
  clear hb
  have t_0 : _ = some (Value.int .i64 t0) := hT.cell? 0
  have t_1 : _ = some (Value.int .i64 t1) := hT.cell? 1
  have d_0 : _ = some (Value.int .i64 d0) := hD.cell? 0
  have d_1 : _ = some (Value.int .i64 d1) := hD.cell? 1
  have n_0 : _ = some (Value.int .i64 n0) := hN.cell? 0
  have n_1 : _ = some (Value.int .i64 n1) := hN.cell? 1
  have o0 : _ = some (Value.bool b0) := hO.cell0
  have o1 : _ = some (Value.bool b1) := hO.cell1
  go_wp2_with fail
  refine (rocc_any _ _ _).mono ?_
  rintro e w' ⟨he, rfl⟩
  rw [Q0.out] at he
  subst he
  go_wp2_with fail
  refine (rocc_any _ _ _).mono ?_
  rintro e w' ⟨he, rfl⟩
  rw [Q1.out] at he
  subst he
  go_wp2_with fail
  refine (rnum_any _ _).mono ?_
  rintro e w' ⟨he, rfl⟩
  rw [Q2.out] at he
  subst he
  go_wp2
  go_ret
  exact ⟨rfl, hB⟩
set_option maxRecDepth 100000 in
set_option maxHeartbeats 4000000 in
theorem dt_g3 (K : Sh.Cst) (t0 t1 d0 d1 n0 n1 c by_ : Int) (b0 b1 : Bool) (w : World) (hL : Laid w) (q0 : Du.poss d0 n0 = true) (q1 : Du.poss d1 n1 = true) (q2 : Du.num t0 = true) (q3 : Du.num t1 = false)  :
    Calls Tryd.prog 7 #[pr t0 t1, pr d0 d1, pr n0 n1, .int .i64 c, prb b0 b1, .int .i64 by_] w fun e w' => e = .returned (.bool true) ∧ Below w.heap.size w w' := by
  have Q0 := Lib.hid q0
  clear q0
  have Q1 := Lib.hid q1
  clear q1
  have Q2 := Lib.hid q2
  clear q2
  have Q3 := Lib.hid q3
  clear q3
  unfold pr prb
  go_enter Tryd.func7, Tryd.ntmps7
  have hT := ((((Ints.new w 38 .i64 [t0, t1]).alloc (.cells #[.int .i64 d0, .int .i64 d1] 38)).alloc (.cells #[.int .i64 n0, .int .i64 n1] 38)).alloc (.cells #[.bool b0, .bool b1] 39))
  have hD := ((((Ints.new (w.alloc (.cells #[.int .i64 t0, .int .i64 t1] 38)) 38 .i64 [d0, d1])).alloc (.cells #[.int .i64 n0, .int .i64 n1] 38)).alloc (.cells #[.bool b0, .bool b1] 39))
  have hN := ((Ints.new ((w.alloc (.cells #[.int .i64 t0, .int .i64 t1] 38)).alloc (.cells #[.int .i64 d0, .int .i64 d1] 38)) 38 .i64 [n0, n1]).alloc (.cells #[.bool b0, .bool b1] 39))
  have hO := Bo.new (((w.alloc (.cells #[.int .i64 t0, .int .i64 t1] 38)).alloc (.cells #[.int .i64 d0, .int .i64 d1] 38)).alloc (.cells #[.int .i64 n0, .int .i64 n1] 38)) 39 b0 b1
  have hB := (((((Below.refl w.heap.size w).alloc (Nat.le_refl _) (.cells #[.int .i64 t0, .int .i64 t1] 38)).alloc (by simp) (.cells #[.int .i64 d0, .int .i64 d1] 38)).alloc (by simp; omega) (.cells #[.int .i64 n0, .int .i64 n1] 38)).alloc (by simp; omega) (.cells #[.bool b0, .bool b1] 39))
  rw [World.size_alloc] at hD
  rw [World.size_alloc, World.size_alloc] at hN
  rw [World.size_alloc, World.size_alloc, World.size_alloc] at hO
  have t_0 : _ = some (Value.int .i64 t0) := hT.cell? 0
  have t_1 : _ = some (Value.int .i64 t1) := hT.cell? 1
  have d_0 : _ = some (Value.int .i64 d0) := hD.cell? 0
  have d_1 : _ = some (Value.int .i64 d1) := hD.cell? 1
  have n_0 : _ = some (Value.int .i64 n0) := hN.cell? 0
  have n_1 : _ = some (Value.int .i64 n1) := hN.cell? 1
  have o0 : _ = some (Value.bool b0) := hO.cell0
  have o1 : _ = some (Value.bool b1) := hO.cell1
  go_wp2_with fail
  refine (dsane_any K _ (hL.below hB hL.size)).mono ?_
  rintro e w1 ⟨rfl, hb⟩
  clear t_0 t_1 d_0 d_1 n_0 n_1 o0 o1
  have hT := hT.below hb hT.lt
  have hD := hD.below hb hD.lt
  have hN := hN.below hb hN.lt
  have hO := hO.below hb hO.lt
  have hB := hB.trans (hb.mono hB.size)
  clear hb
  have t_0 : _ = some (Value.int .i64 t0) := hT.cell? 0
  have t_1 : _ = some (Value.int .i64 t1) := hT.cell? 1
  have d_0 : _ = some (Value.int .i64 d0) := hD.cell? 0
  have d_1 : _ = some (Value.int .i64 d1) := hD.cell? 1
  have n_0 : _ = some (Value.int .i64 n0) := hN.cell? 0
  have n_1 : _ = some (Value.int .i64 n1) := hN.cell? 1
  have o0 : _ = some (Value.bool b0) := hO.cell0
  have o1 : _ = some (Value.bool b1) := hO.cell1
  go_wp2_with fail
  refine (rocc_any _ _ _).mono ?_
  rintro e w' ⟨he, rfl⟩
  rw [Q0.out] at he
  subst he
  go_wp2_with fail
  refine (rocc_any _ _ _).mono ?_
  rintro e w' ⟨he, rfl⟩
  rw [Q1.out] at he
  subst he
  go_wp2_with fail
  refine (rnum_any _ _).mono ?_
  rintro e w' ⟨he, rfl⟩
  rw [Q2.out] at he
  subst he
  go_wp2_with fail
  refine (rnum_any _ _).mono ?_
  rintro e w' ⟨he, rfl⟩
  rw [Q3.out] at he
  subst he
  go_wp2
  go_ret
  exact ⟨rfl, hB⟩
set_option maxRecDepth 100000 in
set_option maxHeartbeats 4000000 in
theorem dt_g4 (K : Sh.Cst) (t0 t1 d0 d1 n0 n1 c by_ : Int) (b0 b1 : Bool) (w : World) (hL : Laid w) (q0 : Du.poss d0 n0 = true) (q1 : Du.poss d1 n1 = true) (q2 : Du.num t0 = true) (q3 : Du.num t1 = true) (q4 : c < 1)  :
    Calls Tryd.prog 7 #[pr t0 t1, pr d0 d1, pr n0 n1, .int .i64 c, prb b0 b1, .int .i64 by_] w fun e w' => e = .returned (.bool true) ∧ Below w.heap.size w w' := by
  have Q0 := Lib.hid q0
  clear q0
  have Q1 := Lib.hid q1
  clear q1
  have Q2 := Lib.hid q2
  clear q2
  have Q3 := Lib.hid q3
  clear q3
  unfold pr prb
  go_enter Tryd.func7, Tryd.ntmps7
  have hT := ((((Ints.new w 38 .i64 [t0, t1]).alloc (.cells #[.int .i64 d0, .int .i64 d1] 38)).alloc (.cells #[.int .i64 n0, .int .i64 n1] 38)).alloc (.cells #[.bool b0, .bool b1] 39))
  have hD := ((((Ints.new (w.alloc (.cells #[.int .i64 t0, .int .i64 t1] 38)) 38 .i64 [d0, d1])).alloc (.cells #[.int .i64 n0, .int .i64 n1] 38)).alloc (.cells #[.bool b0, .bool b1] 39))
  have hN := ((Ints.new ((w.alloc (.cells #[.int .i64 t0, .int .i64 t1] 38)).alloc (.cells #[.int .i64 d0, .int .i64 d1] 38)) 38 .i64 [n0, n1]).alloc (.cells #[.bool b0, .bool b1] 39))
  have hO := Bo.new (((w.alloc (.cells #[.int .i64 t0, .int .i64 t1] 38)).alloc (.cells #[.int .i64 d0, .int .i64 d1] 38)).alloc (.cells #[.int .i64 n0, .int .i64 n1] 38)) 39 b0 b1
  have hB := (((((Below.refl w.heap.size w).alloc (Nat.le_refl _) (.cells #[.int .i64 t0, .int .i64 t1] 38)).alloc (by simp) (.cells #[.int .i64 d0, .int .i64 d1] 38)).alloc (by simp; omega) (.cells #[.int .i64 n0, .int .i64 n1] 38)).alloc (by simp; omega) (.cells #[.bool b0, .bool b1] 39))
  rw [World.size_alloc] at hD
  rw [World.size_alloc, World.size_alloc] at hN
  rw [World.size_alloc, World.size_alloc, World.size_alloc] at hO
  have t_0 : _ = some (Value.int .i64 t0) := hT.cell? 0
  have t_1 : _ = some (Value.int .i64 t1) := hT.cell? 1
  have d_0 : _ = some (Value.int .i64 d0) := hD.cell? 0
  have d_1 : _ = some (Value.int .i64 d1) := hD.cell? 1
  have n_0 : _ = some (Value.int .i64 n0) := hN.cell? 0
  have n_1 : _ = some (Value.int .i64 n1) := hN.cell? 1
  have o0 : _ = some (Value.bool b0) := hO.cell0
  have o1 : _ = some (Value.bool b1) := hO.cell1
  go_wp2_with fail
  refine (dsane_any K _ (hL.below hB hL.size)).mono ?_
  rintro e w1 ⟨rfl, hb⟩
  clear t_0 t_1 d_0 d_1 n_0 n_1 o0 o1
  have hT := hT.below hb hT.lt
  have hD := hD.below hb hD.lt
  have hN := hN.below hb hN.lt
  have hO := hO.below hb hO.lt
  have hB := hB.trans (hb.mono hB.size)
  clear hb
  have t_0 : _ = some (Value.int .i64 t0) := hT.cell? 0
  have t_1 : _ = some (Value.int .i64 t1) := hT.cell? 1
  have d_0 : _ = some (Value.int .i64 d0) := hD.cell? 0
  have d_1 : _ = some (Value.int .i64 d1) := hD.cell? 1
  have n_0 : _ = some (Value.int .i64 n0) := hN.cell? 0
  have n_1 : _ = some (Value.int .i64 n1) := hN.cell? 1
  have o0 : _ = some (Value.bool b0) := hO.cell0
  have o1 : _ = some (Value.bool b1) := hO.cell1
  go_wp2_with fail
  refine (rocc_any _ _ _).mono ?_
  rintro e w' ⟨he, rfl⟩
  rw [Q0.out] at he
  subst he
  go_wp2_with fail
  refine (rocc_any _ _ _).mono ?_
  rintro e w' ⟨he, rfl⟩
  rw [Q1.out] at he
  subst he
  go_wp2_with fail
  refine (rnum_any _ _).mono ?_
  rintro e w' ⟨he, rfl⟩
  rw [Q2.out] at he
  subst he
  go_wp2_with fail
  refine (rnum_any _ _).mono ?_
  rintro e w' ⟨he, rfl⟩
  rw [Q3.out] at he
  subst he
  go_wp2
  go_ret
  exact ⟨rfl, hB⟩
set_option maxRecDepth 100000 in
set_option maxHeartbeats 4000000 in
theorem dt_g5 (K : Sh.Cst) (t0 t1 d0 d1 n0 n1 c by_ : Int) (b0 b1 : Bool) (w : World) (hL : Laid w) (q0 : Du.poss d0 n0 = true) (q1 : Du.poss d1 n1 = true) (q2 : Du.num t0 = true) (q3 : Du.num t1 = true) (q4 : 1 ≤ c) (q5 : Du.num c = false)  :
    Calls Tryd.prog 7 #[pr t0 t1, pr d0 d1, pr n0 n1, .int .i64 c, prb b0 b1, .int .i64 by_] w fun e w' => e = .returned (.bool true) ∧ Below w.heap.size w w' := by
  have Q0 := Lib.hid q0
  clear q0
  have Q1 := Lib.hid q1
  clear q1
  have Q2 := Lib.hid q2
  clear q2
  have Q3 := Lib.hid q3
  clear q3
  have Q5 := Lib.hid q5
  clear q5
  unfold pr prb
  go_enter Tryd.func7, Tryd.ntmps7
  have hT := ((((Ints.new w 38 .i64 [t0, t1]).alloc (.cells #[.int .i64 d0, .int .i64 d1] 38)).alloc (.cells #[.int .i64 n0, .int .i64 n1] 38)).alloc (.cells #[.bool b0, .bool b1] 39))
  have hD := ((((Ints.new (w.alloc (.cells #[.int .i64 t0, .int .i64 t1] 38)) 38 .i64 [d0, d1])).alloc (.cells #[.int .i64 n0, .int .i64 n1] 38)).alloc (.cells #[.bool b0, .bool b1] 39))
  have hN := ((Ints.new ((w.alloc (.cells #[.int .i64 t0, .int .i64 t1] 38)).alloc (.cells #[.int .i64 d0, .int .i64 d1] 38)) 38 .i64 [n0, n1]).alloc (.cells #[.bool b0, .bool b1] 39))
  have hO := Bo.new (((w.alloc (.cells #[.int .i64 t0, .int .i64 t1] 38)).alloc (.cells #[.int .i64 d0, .int .i64 d1] 38)).alloc (.cells #[.int .i64 n0, .int .i64 n1] 38)) 39 b0 b1
  have hB := (((((Below.refl w.heap.size w).alloc (Nat.le_refl _) (.cells #[.int .i64 t0, .int .i64 t1] 38)).alloc (by simp) (.cells #[.int .i64 d0, .int .i64 d1] 38)).alloc (by simp; omega) (.cells #[.int .i64 n0, .int .i64 n1] 38)).alloc (by simp; omega) (.cells #[.bool b0, .bool b1] 39))
  rw [World.size_alloc] at hD
  rw [World.size_alloc, World.size_alloc] at hN
  rw [World.size_alloc, World.size_alloc, World.size_alloc] at hO
  have t_0 : _ = some (Value.int .i64 t0) := hT.cell? 0
  have t_1 : _ = some (Value.int .i64 t1) := hT.cell? 1
  have d_0 : _ = some (Value.int .i64 d0) := hD.cell? 0
  have d_1 : _ = some (Value.int .i64 d1) := hD.cell? 1
  have n_0 : _ = some (Value.int .i64 n0) := hN.cell? 0
  have n_1 : _ = some (Value.int .i64 n1) := hN.cell? 1
  have o0 : _ = some (Value.bool b0) := hO.cell0
  have o1 : _ = some (Value.bool b1) := hO.cell1
  go_wp2_with fail
  refine (dsane_any K _ (hL.below hB hL.size)).mono ?_
  rintro e w1 ⟨rfl, hb⟩
  clear t_0 t_1 d_0 d_1 n_0 n_1 o0 o1
  have hT := hT.below hb hT.lt
  have hD := hD.below hb hD.lt
  have hN := hN.below hb hN.lt
  have hO := hO.below hb hO.lt
  have hB := hB.trans (hb.mono hB.size)
  clear hb
  have t_0 : _ = some (Value.int .i64 t0) := hT.cell? 0
  have t_1 : _ = some (Value.int .i64 t1) := hT.cell? 1
  have d_0 : _ = some (Value.int .i64 d0) := hD.cell? 0
  have d_1 : _ = some (Value.int .i64 d1) := hD.cell? 1
  have n_0 : _ = some (Value.int .i64 n0) := hN.cell? 0
  have n_1 : _ = some (Value.int .i64 n1) := hN.cell? 1
  have o0 : _ = some (Value.bool b0) := hO.cell0
  have o1 : _ = some (Value.bool b1) := hO.cell1
  go_wp2_with fail
  refine (rocc_any _ _ _).mono ?_
  rintro e w' ⟨he, rfl⟩
  rw [Q0.out] at he
  subst he
  go_wp2_with fail
  refine (rocc_any _ _ _).mono ?_
  rintro e w' ⟨he, rfl⟩
  rw [Q1.out] at he
  subst he
  go_wp2_with fail
  refine (rnum_any _ _).mono ?_
  rintro e w' ⟨he, rfl⟩
  rw [Q2.out] at he
  subst he
  go_wp2_with fail
  refine (rnum_any _ _).mono ?_
  rintro e w' ⟨he, rfl⟩
  rw [Q3.out] at he
  subst he
  go_wp2_with fail
  refine (rnum_any _ _).mono ?_
  rintro e w' ⟨he, rfl⟩
  rw [Q5.out] at he
  subst he
  go_wp2
  go_ret
  exact ⟨rfl, hB⟩
set_option maxRecDepth 100000 in
set_option maxHeartbeats 4000000 in
theorem dt_same (K : Sh.Cst) (t0 t1 d0 d1 n0 n1 c by_ : Int) (b0 b1 : Bool) (w : World) (hL : Laid w) (g : Int) (q0 : Du.poss d0 n0 = true) (q1 : Du.poss d1 n1 = true) (q2 : Du.num t0 = true) (q3 : Du.num t1 = true) (q4 : 1 ≤ c) (q5 : Du.num c = true) (h1 : ∀ w, Laid w → Calls Tryd.prog 18 #[.int .i64 d0, .int .i64 n0] w fun e w' => e = .returned (.tuple #[.int .i64 g, .bool true]) ∧ Below w.heap.size w w') (h2 : ∀ w, Laid w → Calls Tryd.prog 18 #[.int .i64 d1, .int .i64 n1] w fun e w' => e = .returned (.tuple #[.int .i64 g, .bool true]) ∧ Below w.heap.size w w') :
    Calls Tryd.prog 7 #[pr t0 t1, pr d0 d1, pr n0 n1, .int .i64 c, prb b0 b1, .int .i64 by_] w fun e w' => e = .returned (.bool true) ∧ Below w.heap.size w w' := by
  have Q0 := Lib.hid q0
  clear q0
  have Q1 := Lib.hid q1
  clear q1
  have Q2 := Lib.hid q2
  clear q2
  have Q3 := Lib.hid q3
  clear q3
  have Q5 := Lib.hid q5
  clear q5
  unfold pr prb
  go_enter Tryd.func7, Tryd.ntmps7
  have hT := ((((Ints.new w 38 .i64 [t0, t1]).alloc (.cells #[.int .i64 d0, .int .i64 d1] 38)).alloc (.cells #[.int .i64 n0, .int .i64 n1] 38)).alloc (.cells #[.bool b0, .bool b1] 39))
  have hD := ((((Ints.new (w.alloc (.cells #[.int .i64 t0, .int .i64 t1] 38)) 38 .i64 [d0, d1])).alloc (.cells #[.int .i64 n0, .int .i64 n1] 38)).alloc (.cells #[.bool b0, .bool b1] 39))
  have hN := ((Ints.new ((w.alloc (.cells #[.int .i64 t0, .int .i64 t1] 38)).alloc (.cells #[.int .i64 d0, .int .i64 d1] 38)) 38 .i64 [n0, n1]).alloc (.cells #[.bool b0, .bool b1] 39))
  have hO := Bo.new (((w.alloc (.cells #[.int .i64 t0, .int .i64 t1] 38)).alloc (.cells #[.int .i64 d0, .int .i64 d1] 38)).alloc (.cells #[.int .i64 n0, .int .i64 n1] 38)) 39 b0 b1
  have hB := (((((Below.refl w.heap.size w).alloc (Nat.le_refl _) (.cells #[.int .i64 t0, .int .i64 t1] 38)).alloc (by simp) (.cells #[.int .i64 d0, .int .i64 d1] 38)).alloc (by simp; omega) (.cells #[.int .i64 n0, .int .i64 n1] 38)).alloc (by simp; omega) (.cells #[.bool b0, .bool b1] 39))
  rw [World.size_alloc] at hD
  rw [World.size_alloc, World.size_alloc] at hN
  rw [World.size_alloc, World.size_alloc, World.size_alloc] at hO
  have t_0 : _ = some (Value.int .i64 t0) := hT.cell? 0
  have t_1 : _ = some (Value.int .i64 t1) := hT.cell? 1
  have d_0 : _ = some (Value.int .i64 d0) := hD.cell? 0
  have d_1 : _ = some (Value.int .i64 d1) := hD.cell? 1
  have n_0 : _ = some (Value.int .i64 n0) := hN.cell? 0
  have n_1 : _ = some (Value.int .i64 n1) := hN.cell? 1
  have o0 : _ = some (Value.bool b0) := hO.cell0
  have o1 : _ = some (Value.bool b1) := hO.cell1
  go_wp2_with fail
  refine (dsane_any K _ (hL.below hB hL.size)).mono ?_
  rintro e w1 ⟨rfl, hb⟩
  clear t_0 t_1 d_0 d_1 n_0 n_1 o0 o1
  have hT := hT.below hb hT.lt
  have hD := hD.below hb hD.lt
  have hN := hN.below hb hN.lt
  have hO := hO.below hb hO.lt
  have hB := hB.trans (hb.mono hB.size)
  clear hb
  have t_0 : _ = some (Value.int .i64 t0) := hT.cell? 0
  have t_1 : _ = some (Value.int .i64 t1) := hT.cell? 1
  have d_0 : _ = some (Value.int .i64 d0) := hD.cell? 0
  have d_1 : _ = some (Value.int .i64 d1) := hD.cell? 1
  have n_0 : _ = some (Value.int .i64 n0) := hN.cell? 0
  have n_1 : _ = some (Value.int .i64 n1) := hN.cell? 1
  have o0 : _ = some (Value.bool b0) := hO.cell0
  have o1 : _ = some (Value.bool b1) := hO.cell1
  go_wp2_with fail
  refine (rocc_any _ _ _).mono ?_
  rintro e w' ⟨he, rfl⟩
  rw [Q0.out] at he
  subst he
  go_wp2_with fail
  refine (rocc_any _ _ _).mono ?_
  rintro e w' ⟨he, rfl⟩
  rw [Q1.out] at he
  subst he
  go_wp2_with fail
  refine (rnum_any _ _).mono ?_
  rintro e w' ⟨he, rfl⟩
  rw [Q2.out] at he
  subst he
  go_wp2_with fail
  refine (rnum_any _ _).mono ?_
  rintro e w' ⟨he, rfl⟩
  rw [Q3.out] at he
  subst he
  go_wp2_with fail
  refine (rnum_any _ _).mono ?_
  rintro e w' ⟨he, rfl⟩
  rw [Q5.out] at he
  subst he
  go_wp2_with fail
  refine (h1 _ (hL.below hB hL.size)).mono ?_
  rintro e w2 ⟨rfl, hb⟩
  clear t_0 t_1 d_0 d_1 n_0 n_1 o0 o1
  have hT := hT.below hb hT.lt
  have hD := hD.below hb hD.lt
  have hN := hN.below hb hN.lt
  have hO := hO.below hb hO.lt
  have hB := hB.trans (hb.mono hB.size)
  clear hb
  have t_0 : _ = some (Value.int .i64 t0) := hT.cell? 0
  have t_1 : _ = some (Value.int .i64 t1) := hT.cell? 1
  have d_0 : _ = some (Value.int .i64 d0) := hD.cell? 0
  have d_1 : _ = some (Value.int .i64 d1) := hD.cell? 1
  have n_0 : _ = some (Value.int .i64 n0) := hN.cell? 0
  have n_1 : _ = some (Value.int .i64 n1) := hN.cell? 1
  have o0 : _ = some (Value.bool b0) := hO.cell0
  have o1 : _ = some (Value.bool b1) := hO.cell1
  go_wp2_with fail
  refine (h2 _ (hL.below hB hL.size)).mono ?_
  rintro e w3 ⟨rfl, hb⟩
  clear t_0 t_1 d_0 d_1 n_0 n_1 o0 o1
  have hT := hT.below hb hT.lt
  have hD := hD.below hb hD.lt
  have hN := hN.below hb hN.lt
  have hO := hO.below hb hO.lt
  have hB := hB.trans (hb.mono hB.size)
  clear hb
  have t_0 : _ = some (Value.int .i64 t0) := hT.cell? 0
  have t_1 : _ = some (Value.int .i64 t1) := hT.cell? 1
  have d_0 : _ = some (Value.int .i64 d0) := hD.cell? 0
  have d_1 : _ = some (Value.int .i64 d1) := hD.cell? 1
  have n_0 : _ = some (Value.int .i64 n0) := hN.cell? 0
  have n_1 : _ = some (Value.int .i64 n1) := hN.cell? 1
  have o0 : _ = some (Value.bool b0) := hO.cell0
  have o1 : _ = some (Value.bool b1) := hO.cell1
  go_wp2
  go_ret
  exact ⟨rfl, hB⟩
end Go.Proofs.YtllabahapaeedaaDoor
