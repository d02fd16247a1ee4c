/- The walk of DuressTwo (answers true, false). -/
import Derived.Test.YtllabahapaeedaaDoorDuTwoGuard
namespace Go.Proofs.YtllabahapaeedaaDoor
open Go.RowKit
set_option linter.unusedVariables false
set_option maxRecDepth 100000 in
set_option maxHeartbeats 4000000 in
theorem dt_tf (K : Sh.Cst) (t0 t1 d0 d1 n0 n1 c by_ : Int) (w : World) (hL : Laid w) (g h l0 l1 x one y b m a a2 : Int) (q0 : Du.poss d0 n0 = true) (q1 : Du.poss d1 n1 = true) (q2 : Du.num t0 = true) (q3 : Du.num t1 = true) (q4 : 1 ≤ c) (q5 : Du.num c = true) (h1 : ∀ w, Laid w → Calls Tryd.prog 18 #[.int .i64 d0, .int .i64 n0] w fun e w' => e = .returned (.tuple #[.int .i64 g, .bool true]) ∧ Below w.heap.size w w') (h2 : ∀ w, Laid w → Calls Tryd.prog 18 #[.int .i64 d1, .int .i64 n1] w fun e w' => e = .returned (.tuple #[.int .i64 h, .bool true]) ∧ Below w.heap.size w w') (hne : g ≠ h) (bh : 0 ≤ h ∧ h < 1073741789) (bl : 0 ≤ l1 ∧ l1 < 1073741789) (bm : 0 ≤ m ∧ m < 1073741789) (bc : c < 1073741789) (hl0 : ∀ w, Calls Tryd.prog 19 #[.int .i64 t0, .int .i64 (-c)] w fun e w' => e = .returned (.int .i64 l0) ∧ Below w.heap.size w w') (el1 : t1 = l1) (ha1 : ∀ w, Calls Tryd.prog 19 #[.int .i64 g, .int .i64 (-h)] w fun e w' => e = .returned (.int .i64 x) ∧ Below w.heap.size w w') (hi : ∀ w, Calls Tryd.prog 20 #[.int .i64 x] w fun e w' => e = .returned (.tuple #[.int .i64 one, .int .i64 0]) ∧ w = w') (ha2 : ∀ w, Calls Tryd.prog 19 #[.int .i64 l0, .int .i64 (-l1)] w fun e w' => e = .returned (.int .i64 y) ∧ Below w.heap.size w w') (hm1 : ∀ w, Calls Tryd.prog 21 #[.int .i64 y, .int .i64 one] w fun e w' => e = .returned (.int .i64 b) ∧ w = w') (hm2 : ∀ w, Calls Tryd.prog 21 #[.int .i64 b, .int .i64 g] w fun e w' => e = .returned (.int .i64 m) ∧ w = w') (ha3 : ∀ w, Calls Tryd.prog 19 #[.int .i64 l0, .int .i64 (IntKind.i64.wrap (-m))] w fun e w' => e = .returned (.int .i64 a) ∧ Below w.heap.size w w') (hr : Du.right a b c = true) (hr1 : ∀ w, Laid w → Calls Tryd.prog 11 #[.agg #[.int .i64 a, .int .i64 b, .int .i64 c], .int .i64 d0, .int .i64 n0, .int .i64 t0] w fun e w' => e = .returned (.tuple #[.bool true, .bool true, .int .i64 0]) ∧ Below w.heap.size w w') (hr2 : ∀ w, Laid w → Calls Tryd.prog 11 #[.agg #[.int .i64 a, .int .i64 b, .int .i64 c], .int .i64 d1, .int .i64 n1, .int .i64 t1] w fun e w' => e = .returned (.tuple #[.bool false, .bool true, .int .i64 0]) ∧ Below w.heap.size w w') (hby : by_ < 1 ∨ 1 ≤ by_) (ha4 : ∀ w, Calls Tryd.prog 19 #[.int .i64 a, .int .i64 by_] w fun e w' => e = .returned (.int .i64 a2) ∧ Below w.heap.size w w') (u v : Bool) (hu : 1 ≤ by_ → Du.num by_ = true → ∃ x1 y1 : Bool, ((y1 = true ∧ x1 = false) ∨ (y1 = false ∧ x1 = false)) ∧ ∀ w, Laid w → Calls Tryd.prog 11 #[.agg #[.int .i64 a2, .int .i64 b, .int .i64 c], .int .i64 d0, .int .i64 n0, .int .i64 t0] w fun e w' => e = .returned (.tuple #[.bool x1, .bool y1, .int .i64 0]) ∧ Below w.heap.size w w') (hr4 : ∀ w, Laid w → Calls Tryd.prog 11 #[.agg #[.int .i64 a2, .int .i64 b, .int .i64 c], .int .i64 d1, .int .i64 n1, .int .i64 t1] w fun e w' => e = .returned (.tuple #[.bool u, .bool v, .int .i64 0]) ∧ Below w.heap.size w w') :
    Calls Tryd.prog 7 #[pr t0 t1, pr d0 d1, pr n0 n1, .int .i64 c, prb true false, .int .i64 by_] w fun e w' => e = .returned (.bool true) ∧ Below w.heap.size w w' := by
  subst el1
  have HNE := Lib.hid (show (g == h) = false by simpa using hne)
  have Q0 := Lib.hid q0
  clear q0
  have Q1 := Lib.hid q1
  clear q1
  have Q2 := Lib.hid q2
  clear q2
  have Q3 := Lib.hid q3
  clear q3
  have Q5 := Lib.hid q5
  clear q5
  have HR := Lib.hid hr
  have hra := rright_any a b c
  have HU := Lib.hid hu
  clear hr hu hne
  unfold silV at hra
  unfold pr prb
  go_enter Tryd.func7, Tryd.ntmps7
  have hT := ((((Ints.new w 38 .i64 [t0, t1]).alloc (.cells #[.int .i64 d0, .int .i64 d1] 38)).alloc (.cells #[.int .i64 n0, .int .i64 n1] 38)).alloc (.cells #[.bool true, .bool false] 39))
  have hD := ((((Ints.new (w.alloc (.cells #[.int .i64 t0, .int .i64 t1] 38)) 38 .i64 [d0, d1])).alloc (.cells #[.int .i64 n0, .int .i64 n1] 38)).alloc (.cells #[.bool true, .bool false] 39))
  have hN := ((Ints.new ((w.alloc (.cells #[.int .i64 t0, .int .i64 t1] 38)).alloc (.cells #[.int .i64 d0, .int .i64 d1] 38)) 38 .i64 [n0, n1]).alloc (.cells #[.bool true, .bool false] 39))
  have hO := Bo.new (((w.alloc (.cells #[.int .i64 t0, .int .i64 t1] 38)).alloc (.cells #[.int .i64 d0, .int .i64 d1] 38)).alloc (.cells #[.int .i64 n0, .int .i64 n1] 38)) 39 true false
  have hB := (((((Below.refl w.heap.size w).alloc (Nat.le_refl _) (.cells #[.int .i64 t0, .int .i64 t1] 38)).alloc (by simp) (.cells #[.int .i64 d0, .int .i64 d1] 38)).alloc (by simp; omega) (.cells #[.int .i64 n0, .int .i64 n1] 38)).alloc (by simp; omega) (.cells #[.bool true, .bool false] 39))
  rw [World.size_alloc] at hD
  rw [World.size_alloc, World.size_alloc] at hN
  rw [World.size_alloc, World.size_alloc, World.size_alloc] at hO
  have t_0 : _ = some (Value.int .i64 t0) := hT.cell? 0
  have t_1 : _ = some (Value.int .i64 t1) := hT.cell? 1
  have d_0 : _ = some (Value.int .i64 d0) := hD.cell? 0
  have d_1 : _ = some (Value.int .i64 d1) := hD.cell? 1
  have n_0 : _ = some (Value.int .i64 n0) := hN.cell? 0
  have n_1 : _ = some (Value.int .i64 n1) := hN.cell? 1
  have o0 : _ = some (Value.bool true) := hO.cell0
  have o1 : _ = some (Value.bool false) := hO.cell1
  go_wp2_with fail
  refine (dsane_any K _ (hL.below hB hL.size)).mono ?_
  rintro e w1 ⟨rfl, hb⟩
  clear t_0 t_1 d_0 d_1 n_0 n_1 o0 o1
  have hT := hT.below hb hT.lt
  have hD := hD.below hb hD.lt
  have hN := hN.below hb hN.lt
  have hO := hO.below hb hO.lt
  have hB := hB.trans (hb.mono hB.size)
  clear hb
  have t_0 : _ = some (Value.int .i64 t0) := hT.cell? 0
  have t_1 : _ = some (Value.int .i64 t1) := hT.cell? 1
  have d_0 : _ = some (Value.int .i64 d0) := hD.cell? 0
  have d_1 : _ = some (Value.int .i64 d1) := hD.cell? 1
  have n_0 : _ = some (Value.int .i64 n0) := hN.cell? 0
  have n_1 : _ = some (Value.int .i64 n1) := hN.cell? 1
  have o0 : _ = some (Value.bool true) := hO.cell0
  have o1 : _ = some (Value.bool false) := hO.cell1
  go_wp2_with fail
  refine (rocc_any _ _ _).mono ?_
  rintro e w' ⟨he, rfl⟩
  rw [Q0.out] at he
  subst he
  go_wp2_with fail
  refine (rocc_any _ _ _).mono ?_
  rintro e w' ⟨he, rfl⟩
  rw [Q1.out] at he
  subst he
  go_wp2_with fail
  refine (rnum_any _ _).mono ?_
  rintro e w' ⟨he, rfl⟩
  rw [Q2.out] at he
  subst he
  go_wp2_with fail
  refine (rnum_any _ _).mono ?_
  rintro e w' ⟨he, rfl⟩
  rw [Q3.out] at he
  subst he
  go_wp2_with fail
  refine (rnum_any _ _).mono ?_
  rintro e w' ⟨he, rfl⟩
  rw [Q5.out] at he
  subst he
  go_wp2_with fail
  refine (h1 _ (hL.below hB hL.size)).mono ?_
  rintro e w2 ⟨rfl, hb⟩
  clear t_0 t_1 d_0 d_1 n_0 n_1 o0 o1
  have hT := hT.below hb hT.lt
  have hD := hD.below hb hD.lt
  have hN := hN.below hb hN.lt
  have hO := hO.below hb hO.lt
  have hB := hB.trans (hb.mono hB.size)
  clear hb
  have t_0 : _ = some (Value.int .i64 t0) := hT.cell? 0
  have t_1 : _ = some (Value.int .i64 t1) := hT.cell? 1
  have d_0 : _ = some (Value.int .i64 d0) := hD.cell? 0
  have d_1 : _ = some (Value.int .i64 d1) := hD.cell? 1
  have n_0 : _ = some (Value.int .i64 n0) := hN.cell? 0
  have n_1 : _ = some (Value.int .i64 n1) := hN.cell? 1
  have o0 : _ = some (Value.bool true) := hO.cell0
  have o1 : _ = some (Value.bool false) := hO.cell1
  go_wp2_with fail
  refine (h2 _ (hL.below hB hL.size)).mono ?_
  rintro e w3 ⟨rfl, hb⟩
  clear t_0 t_1 d_0 d_1 n_0 n_1 o0 o1
  have hT := hT.below hb hT.lt
  have hD := hD.below hb hD.lt
  have hN := hN.below hb hN.lt
  have hO := hO.below hb hO.lt
  have hB := hB.trans (hb.mono hB.size)
  clear hb
  have t_0 : _ = some (Value.int .i64 t0) := hT.cell? 0
  have t_1 : _ = some (Value.int .i64 t1) := hT.cell? 1
  have d_0 : _ = some (Value.int .i64 d0) := hD.cell? 0
  have d_1 : _ = some (Value.int .i64 d1) := hD.cell? 1
  have n_0 : _ = some (Value.int .i64 n0) := hN.cell? 0
  have n_1 : _ = some (Value.int .i64 n1) := hN.cell? 1
  have o0 : _ = some (Value.bool true) := hO.cell0
  have o1 : _ = some (Value.bool false) := hO.cell1
  have hne : g ≠ h := by simpa using HNE.out
  have hw3 := hB.size
  have lO := hO.lt
  go_wp2_with fail
  clear t_0 t_1 d_0 d_1 n_0 n_1 o0 o1
  have hF := Ints.new w3 38 .i64 [t0, t1]
  have hT := hT.alloc (.cells #[.int .i64 t0, .int .i64 t1] 38)
  have hD := hD.alloc (.cells #[.int .i64 t0, .int .i64 t1] 38)
  have hN := hN.alloc (.cells #[.int .i64 t0, .int .i64 t1] 38)
  have hO := hO.alloc (.cells #[.int .i64 t0, .int .i64 t1] 38)
  have hB := hB.alloc hB.size (.cells #[.int .i64 t0, .int .i64 t1] 38)
  have t_0 : _ = some (Value.int .i64 t0) := hT.cell? 0
  have t_1 : _ = some (Value.int .i64 t1) := hT.cell? 1
  have d_0 : _ = some (Value.int .i64 d0) := hD.cell? 0
  have d_1 : _ = some (Value.int .i64 d1) := hD.cell? 1
  have n_0 : _ = some (Value.int .i64 n0) := hN.cell? 0
  have n_1 : _ = some (Value.int .i64 n1) := hN.cell? 1
  have o0 : _ = some (Value.bool true) := hO.cell0
  have o1 : _ = some (Value.bool false) := hO.cell1
  have f_0 : _ = some (Value.int .i64 t0) := hF.cell? 0
  have f_1 : _ = some (Value.int .i64 t1) := hF.cell? 1
  have f_f0 := hF.frozen 0
  have f_f1 := hF.frozen 1
  refine wp_loop_rounds 3 ?_
  rw [rounds_succ]
  go_wp2_with fail
  refine (hl0 _).mono ?_
  rintro e w4 ⟨rfl, hb⟩
  clear t_0 t_1 d_0 d_1 n_0 n_1 o0 o1 f_0 f_1
  clear f_f0 f_f1
  have hT := hT.below hb hT.lt
  have hD := hD.below hb hD.lt
  have hN := hN.below hb hN.lt
  have hO := hO.below hb hO.lt
  have hF := hF.below hb hF.lt
  have hB := hB.trans (hb.mono hB.size)
  clear hb
  have t_0 : _ = some (Value.int .i64 t0) := hT.cell? 0
  have t_1 : _ = some (Value.int .i64 t1) := hT.cell? 1
  have d_0 : _ = some (Value.int .i64 d0) := hD.cell? 0
  have d_1 : _ = some (Value.int .i64 d1) := hD.cell? 1
  have n_0 : _ = some (Value.int .i64 n0) := hN.cell? 0
  have n_1 : _ = some (Value.int .i64 n1) := hN.cell? 1
  have o0 : _ = some (Value.bool true) := hO.cell0
  have o1 : _ = some (Value.bool false) := hO.cell1
  have f_0 : _ = some (Value.int .i64 t0) := hF.cell? 0
  have f_1 : _ = some (Value.int .i64 t1) := hF.cell? 1
  have f_f0 := hF.frozen 0
  have f_f1 := hF.frozen 1
  go_wp2
  clear f_f0 f_f1
  clear t_0 t_1 d_0 d_1 n_0 n_1 o0 o1 f_0 f_1
  have hT := hT.far (p := ⟨w3.heap.size, 0, none⟩) (by show _ ≠ w3.heap.size; omega) (.int .i64 l0)
  have hD := hD.far (p := ⟨w3.heap.size, 0, none⟩) (by show _ ≠ w3.heap.size; omega) (.int .i64 l0)
  have hN := hN.far (p := ⟨w3.heap.size, 0, none⟩) (by show _ ≠ w3.heap.size; omega) (.int .i64 l0)
  have hO := hO.far (a := ⟨w3.heap.size, 0, none⟩) (by show _ ≠ w3.heap.size; omega) (.int .i64 l0)
  have hF := hF.set_ 0 l0
  have hB := hB.setCell (p := ⟨w3.heap.size, 0, none⟩) (by have := hB.size; exact hw3) (.int .i64 l0)
  have t_0 : _ = some (Value.int .i64 t0) := hT.cell? 0
  have t_1 : _ = some (Value.int .i64 t1) := hT.cell? 1
  have d_0 : _ = some (Value.int .i64 d0) := hD.cell? 0
  have d_1 : _ = some (Value.int .i64 d1) := hD.cell? 1
  have n_0 : _ = some (Value.int .i64 n0) := hN.cell? 0
  have n_1 : _ = some (Value.int .i64 n1) := hN.cell? 1
  have o0 : _ = some (Value.bool true) := hO.cell0
  have o1 : _ = some (Value.bool false) := hO.cell1
  have f_0 : _ = some (Value.int .i64 l0) := hF.cell? 0
  have f_1 : _ = some (Value.int .i64 t1) := hF.cell? 1
  have f_f0 := hF.frozen 0
  have f_f1 := hF.frozen 1
  rw [rounds_succ]
  go_wp2
  rw [rounds_succ]
  clear f_f0 f_f1
  go_wp2_with fail
  refine (ha1 _).mono ?_
  rintro e w5 ⟨rfl, hb⟩
  clear t_0 t_1 d_0 d_1 n_0 n_1 o0 o1 f_0 f_1
  have hT := hT.below hb hT.lt
  have hD := hD.below hb hD.lt
  have hN := hN.below hb hN.lt
  have hO := hO.below hb hO.lt
  have hF := hF.below hb hF.lt
  have hB := hB.trans (hb.mono hB.size)
  clear hb
  have t_0 : _ = some (Value.int .i64 t0) := hT.cell? 0
  have t_1 : _ = some (Value.int .i64 t1) := hT.cell? 1
  have d_0 : _ = some (Value.int .i64 d0) := hD.cell? 0
  have d_1 : _ = some (Value.int .i64 d1) := hD.cell? 1
  have n_0 : _ = some (Value.int .i64 n0) := hN.cell? 0
  have n_1 : _ = some (Value.int .i64 n1) := hN.cell? 1
  have o0 : _ = some (Value.bool true) := hO.cell0
  have o1 : _ = some (Value.bool false) := hO.cell1
  have f_0 : _ = some (Value.int .i64 l0) := hF.cell? 0
  have f_1 : _ = some (Value.int .i64 t1) := hF.cell? 1
  go_wp2_with fail
  refine (hi _).mono ?_
  rintro e w' ⟨rfl, rfl⟩
  go_wp2_with fail
  refine (ha2 _).mono ?_
  rintro e w6 ⟨rfl, hb⟩
  clear t_0 t_1 d_0 d_1 n_0 n_1 o0 o1 f_0 f_1
  have hT := hT.below hb hT.lt
  have hD := hD.below hb hD.lt
  have hN := hN.below hb hN.lt
  have hO := hO.below hb hO.lt
  have hF := hF.below hb hF.lt
  have hB := hB.trans (hb.mono hB.size)
  clear hb
  have t_0 : _ = some (Value.int .i64 t0) := hT.cell? 0
  have t_1 : _ = some (Value.int .i64 t1) := hT.cell? 1
  have d_0 : _ = some (Value.int .i64 d0) := hD.cell? 0
  have d_1 : _ = some (Value.int .i64 d1) := hD.cell? 1
  have n_0 : _ = some (Value.int .i64 n0) := hN.cell? 0
  have n_1 : _ = some (Value.int .i64 n1) := hN.cell? 1
  have o0 : _ = some (Value.bool true) := hO.cell0
  have o1 : _ = some (Value.bool false) := hO.cell1
  have f_0 : _ = some (Value.int .i64 l0) := hF.cell? 0
  have f_1 : _ = some (Value.int .i64 t1) := hF.cell? 1
  go_wp2_with fail
  refine (hm1 _).mono ?_
  rintro e w' ⟨rfl, rfl⟩
  go_wp2
  go_region_held3 (fun w' => w'.cell? ⟨w3.heap.size, 0, none⟩ = some (.int .i64 l0))
    (first | (go_keep; done) | exact (hk3 ⟨w3.heap.size, 0, none⟩ hF.lt).trans f_0)
    ((first | (go_at_call 21; (refine (hm2 _).mono ?_); rintro e w' ⟨rfl, rfl⟩) | (go_at_call 19; (refine (ha3 _).mono ?_); rintro e w7 ⟨rfl, hb3⟩; have hk3 := bel_keep hb3)))
  have hb := undraw hb3
  clear hb3 hk3
  clear t_0 t_1 d_0 d_1 n_0 n_1 o0 o1 f_0 f_1
  have hT := hT.below hb hT.lt
  have hD := hD.below hb hD.lt
  have hN := hN.below hb hN.lt
  have hO := hO.below hb hO.lt
  have hF := hF.below hb hF.lt
  have hB := hB.trans (hb.mono hB.size)
  clear hb
  have t_0 : _ = some (Value.int .i64 t0) := hT.cell? 0
  have t_1 : _ = some (Value.int .i64 t1) := hT.cell? 1
  have d_0 : _ = some (Value.int .i64 d0) := hD.cell? 0
  have d_1 : _ = some (Value.int .i64 d1) := hD.cell? 1
  have n_0 : _ = some (Value.int .i64 n0) := hN.cell? 0
  have n_1 : _ = some (Value.int .i64 n1) := hN.cell? 1
  have o0 : _ = some (Value.bool true) := hO.cell0
  have o1 : _ = some (Value.bool false) := hO.cell1
  have f_0 : _ = some (Value.int .i64 l0) := hF.cell? 0
  have f_1 : _ = some (Value.int .i64 t1) := hF.cell? 1
  have hwS := hB.size
  have lF := hF.lt
  have lO2 := hO.lt
  clear t_0 t_1 d_0 d_1 n_0 n_1 o0 o1 f_0 f_1
  have hS := Ints.new w7 23 .i64 [a, b, c]
  have hT := hT.alloc (.cells #[.int .i64 a, .int .i64 b, .int .i64 c] 23)
  have hD := hD.alloc (.cells #[.int .i64 a, .int .i64 b, .int .i64 c] 23)
  have hN := hN.alloc (.cells #[.int .i64 a, .int .i64 b, .int .i64 c] 23)
  have hO := hO.alloc (.cells #[.int .i64 a, .int .i64 b, .int .i64 c] 23)
  have hF := hF.alloc (.cells #[.int .i64 a, .int .i64 b, .int .i64 c] 23)
  have hB := hB.alloc hB.size (.cells #[.int .i64 a, .int .i64 b, .int .i64 c] 23)
  have t_0 : _ = some (Value.int .i64 t0) := hT.cell? 0
  have t_1 : _ = some (Value.int .i64 t1) := hT.cell? 1
  have d_0 : _ = some (Value.int .i64 d0) := hD.cell? 0
  have d_1 : _ = some (Value.int .i64 d1) := hD.cell? 1
  have n_0 : _ = some (Value.int .i64 n0) := hN.cell? 0
  have n_1 : _ = some (Value.int .i64 n1) := hN.cell? 1
  have o0 : _ = some (Value.bool true) := hO.cell0
  have o1 : _ = some (Value.bool false) := hO.cell1
  have f_0 : _ = some (Value.int .i64 l0) := hF.cell? 0
  have f_1 : _ = some (Value.int .i64 t1) := hF.cell? 1
  have s_0 : _ = some (Value.int .i64 a) := hS.cell? 0
  have s_1 : _ = some (Value.int .i64 b) := hS.cell? 1
  have s_2 : _ = some (Value.int .i64 c) := hS.cell? 2
  go_wp2_with fail
  refine (hra _).mono ?_
  rintro e w8 ⟨he, hb⟩
  rw [HR.out] at he
  subst he
  clear t_0 t_1 d_0 d_1 n_0 n_1 o0 o1 f_0 f_1 s_0 s_1 s_2
  have hT := hT.below hb hT.lt
  have hD := hD.below hb hD.lt
  have hN := hN.below hb hN.lt
  have hO := hO.below hb hO.lt
  have hF := hF.below hb hF.lt
  have hS := hS.below hb hS.lt
  have hB := hB.trans (hb.mono hB.size)
  clear hb
  have t_0 : _ = some (Value.int .i64 t0) := hT.cell? 0
  have t_1 : _ = some (Value.int .i64 t1) := hT.cell? 1
  have d_0 : _ = some (Value.int .i64 d0) := hD.cell? 0
  have d_1 : _ = some (Value.int .i64 d1) := hD.cell? 1
  have n_0 : _ = some (Value.int .i64 n0) := hN.cell? 0
  have n_1 : _ = some (Value.int .i64 n1) := hN.cell? 1
  have o0 : _ = some (Value.bool true) := hO.cell0
  have o1 : _ = some (Value.bool false) := hO.cell1
  have f_0 : _ = some (Value.int .i64 l0) := hF.cell? 0
  have f_1 : _ = some (Value.int .i64 t1) := hF.cell? 1
  have s_0 : _ = some (Value.int .i64 a) := hS.cell? 0
  have s_1 : _ = some (Value.int .i64 b) := hS.cell? 1
  have s_2 : _ = some (Value.int .i64 c) := hS.cell? 2
  go_wp2_with fail
  refine wp_loop_rounds 3 ?_
  rw [rounds_succ]
  have hLw := Lib.hid (hL.below hB hL.size)
  go_wp2
  go_region_held3 (fun w' => w'.cell? ⟨w7.heap.size, 0, none⟩ = some (.int .i64 a) ∧ w'.cell? ⟨w7.heap.size, 1, none⟩ = some (.int .i64 b) ∧ w'.cell? ⟨w7.heap.size, 2, none⟩ = some (.int .i64 c) ∧ w'.cell? ⟨w.heap.size + 1, 0, none⟩ = some (.int .i64 d0) ∧ w'.cell? ⟨w.heap.size + 1 + 1, 0, none⟩ = some (.int .i64 n0) ∧ w'.cell? ⟨w.heap.size, 0, none⟩ = some (.int .i64 t0))
    (first | (go_keep; done) | exact ⟨(hk3 ⟨w7.heap.size, 0, none⟩ hS.lt).trans s_0, (hk3 ⟨w7.heap.size, 1, none⟩ hS.lt).trans s_1, (hk3 ⟨w7.heap.size, 2, none⟩ hS.lt).trans s_2, (hk3 ⟨w.heap.size + 1, 0, none⟩ hD.lt).trans d_0, (hk3 ⟨w.heap.size + 1 + 1, 0, none⟩ hN.lt).trans n_0, (hk3 ⟨w.heap.size, 0, none⟩ hT.lt).trans t_0⟩)
    ((go_at_call 11; (refine (hr1 _ hLw.out.drew).mono ?_); rintro e w9 ⟨rfl, hb3⟩; have hk3 := bel_keep hb3))
  have hb := undraw hb3
  clear hb3 hk3 hLw
  clear t_0 t_1 d_0 d_1 n_0 n_1 o0 o1 f_0 f_1 s_0 s_1 s_2
  have hT := hT.below hb hT.lt
  have hD := hD.below hb hD.lt
  have hN := hN.below hb hN.lt
  have hO := hO.below hb hO.lt
  have hF := hF.below hb hF.lt
  have hS := hS.below hb hS.lt
  have hB := hB.trans (hb.mono hB.size)
  clear hb
  have t_0 : _ = some (Value.int .i64 t0) := hT.cell? 0
  have t_1 : _ = some (Value.int .i64 t1) := hT.cell? 1
  have d_0 : _ = some (Value.int .i64 d0) := hD.cell? 0
  have d_1 : _ = some (Value.int .i64 d1) := hD.cell? 1
  have n_0 : _ = some (Value.int .i64 n0) := hN.cell? 0
  have n_1 : _ = some (Value.int .i64 n1) := hN.cell? 1
  have o0 : _ = some (Value.bool true) := hO.cell0
  have o1 : _ = some (Value.bool false) := hO.cell1
  have f_0 : _ = some (Value.int .i64 l0) := hF.cell? 0
  have f_1 : _ = some (Value.int .i64 t1) := hF.cell? 1
  have s_0 : _ = some (Value.int .i64 a) := hS.cell? 0
  have s_1 : _ = some (Value.int .i64 b) := hS.cell? 1
  have s_2 : _ = some (Value.int .i64 c) := hS.cell? 2
  go_wp2
  rw [rounds_succ]
  have hLw := Lib.hid (hL.below hB hL.size)
  go_wp2
  go_region_held3 (fun w' => w'.cell? ⟨w7.heap.size, 0, none⟩ = some (.int .i64 a) ∧ w'.cell? ⟨w7.heap.size, 1, none⟩ = some (.int .i64 b) ∧ w'.cell? ⟨w7.heap.size, 2, none⟩ = some (.int .i64 c) ∧ w'.cell? ⟨w.heap.size + 1, 1, none⟩ = some (.int .i64 d1) ∧ w'.cell? ⟨w.heap.size + 1 + 1, 1, none⟩ = some (.int .i64 n1) ∧ w'.cell? ⟨w.heap.size, 1, none⟩ = some (.int .i64 t1))
    (first | (go_keep; done) | exact ⟨(hk3 ⟨w7.heap.size, 0, none⟩ hS.lt).trans s_0, (hk3 ⟨w7.heap.size, 1, none⟩ hS.lt).trans s_1, (hk3 ⟨w7.heap.size, 2, none⟩ hS.lt).trans s_2, (hk3 ⟨w.heap.size + 1, 1, none⟩ hD.lt).trans d_1, (hk3 ⟨w.heap.size + 1 + 1, 1, none⟩ hN.lt).trans n_1, (hk3 ⟨w.heap.size, 1, none⟩ hT.lt).trans t_1⟩)
    ((go_at_call 11; (refine (hr2 _ hLw.out.drew).mono ?_); rintro e w10 ⟨rfl, hb3⟩; have hk3 := bel_keep hb3))
  have hb := undraw hb3
  clear hb3 hk3 hLw
  clear t_0 t_1 d_0 d_1 n_0 n_1 o0 o1 f_0 f_1 s_0 s_1 s_2
  have hT := hT.below hb hT.lt
  have hD := hD.below hb hD.lt
  have hN := hN.below hb hN.lt
  have hO := hO.below hb hO.lt
  have hF := hF.below hb hF.lt
  have hS := hS.below hb hS.lt
  have hB := hB.trans (hb.mono hB.size)
  clear hb
  have t_0 : _ = some (Value.int .i64 t0) := hT.cell? 0
  have t_1 : _ = some (Value.int .i64 t1) := hT.cell? 1
  have d_0 : _ = some (Value.int .i64 d0) := hD.cell? 0
  have d_1 : _ = some (Value.int .i64 d1) := hD.cell? 1
  have n_0 : _ = some (Value.int .i64 n0) := hN.cell? 0
  have n_1 : _ = some (Value.int .i64 n1) := hN.cell? 1
  have o0 : _ = some (Value.bool true) := hO.cell0
  have o1 : _ = some (Value.bool false) := hO.cell1
  have f_0 : _ = some (Value.int .i64 l0) := hF.cell? 0
  have f_1 : _ = some (Value.int .i64 t1) := hF.cell? 1
  have s_0 : _ = some (Value.int .i64 a) := hS.cell? 0
  have s_1 : _ = some (Value.int .i64 b) := hS.cell? 1
  have s_2 : _ = some (Value.int .i64 c) := hS.cell? 2
  go_wp2
  rw [rounds_succ]
  rcases hby with hb1 | hb1
  · go_wp2
    go_ret
    exact ⟨rfl, hB⟩
  · go_wp2_with fail
    cases hn : Du.num by_ with
    | false =>
      have HN1 := Lib.hid hn
      clear hn
      refine (rnum_any _ _).mono ?_
      rintro e w' ⟨he, rfl⟩
      rw [HN1.out] at he
      subst he
      go_wp2
      go_ret
      exact ⟨rfl, hB⟩
    | true =>
      obtain ⟨x1, y1, hxy, hr3⟩ := HU.out hb1 hn
      have HN1 := Lib.hid hn
      clear hn
      refine (rnum_any _ _).mono ?_
      rintro e w' ⟨he, rfl⟩
      rw [HN1.out] at he
      subst he
      go_wp2_with fail
      have lS := hS.lt
      have lO3 := hO.lt
      have hwX := hB.size
      clear t_0 t_1 d_0 d_1 n_0 n_1 o0 o1 f_0 f_1 s_0 s_1 s_2
      have hX := Ints.new w10 23 .i64 [a, b, c]
      have hT := hT.alloc (.cells #[.int .i64 a, .int .i64 b, .int .i64 c] 23)
      have hD := hD.alloc (.cells #[.int .i64 a, .int .i64 b, .int .i64 c] 23)
      have hN := hN.alloc (.cells #[.int .i64 a, .int .i64 b, .int .i64 c] 23)
      have hO := hO.alloc (.cells #[.int .i64 a, .int .i64 b, .int .i64 c] 23)
      have hF := hF.alloc (.cells #[.int .i64 a, .int .i64 b, .int .i64 c] 23)
      have hS := hS.alloc (.cells #[.int .i64 a, .int .i64 b, .int .i64 c] 23)
      have hB := hB.alloc hB.size (.cells #[.int .i64 a, .int .i64 b, .int .i64 c] 23)
      have t_0 : _ = some (Value.int .i64 t0) := hT.cell? 0
      have t_1 : _ = some (Value.int .i64 t1) := hT.cell? 1
      have d_0 : _ = some (Value.int .i64 d0) := hD.cell? 0
      have d_1 : _ = some (Value.int .i64 d1) := hD.cell? 1
      have n_0 : _ = some (Value.int .i64 n0) := hN.cell? 0
      have n_1 : _ = some (Value.int .i64 n1) := hN.cell? 1
      have o0 : _ = some (Value.bool true) := hO.cell0
      have o1 : _ = some (Value.bool false) := hO.cell1
      have f_0 : _ = some (Value.int .i64 l0) := hF.cell? 0
      have f_1 : _ = some (Value.int .i64 t1) := hF.cell? 1
      have s_0 : _ = some (Value.int .i64 a) := hS.cell? 0
      have s_1 : _ = some (Value.int .i64 b) := hS.cell? 1
      have s_2 : _ = some (Value.int .i64 c) := hS.cell? 2
      have x_0 : _ = some (Value.int .i64 a) := hX.cell? 0
      have x_1 : _ = some (Value.int .i64 b) := hX.cell? 1
      have x_2 : _ = some (Value.int .i64 c) := hX.cell? 2
      refine (ha4 _).mono ?_
      rintro e w11 ⟨rfl, hb⟩
      clear t_0 t_1 d_0 d_1 n_0 n_1 o0 o1 f_0 f_1 s_0 s_1 s_2 x_0 x_1 x_2
      have hT := hT.below hb hT.lt
      have hD := hD.below hb hD.lt
      have hN := hN.below hb hN.lt
      have hO := hO.below hb hO.lt
      have hF := hF.below hb hF.lt
      have hS := hS.below hb hS.lt
      have hX := hX.below hb hX.lt
      have hB := hB.trans (hb.mono hB.size)
      clear hb
      have t_0 : _ = some (Value.int .i64 t0) := hT.cell? 0
      have t_1 : _ = some (Value.int .i64 t1) := hT.cell? 1
      have d_0 : _ = some (Value.int .i64 d0) := hD.cell? 0
      have d_1 : _ = some (Value.int .i64 d1) := hD.cell? 1
      have n_0 : _ = some (Value.int .i64 n0) := hN.cell? 0
      have n_1 : _ = some (Value.int .i64 n1) := hN.cell? 1
      have o0 : _ = some (Value.bool true) := hO.cell0
      have o1 : _ = some (Value.bool false) := hO.cell1
      have f_0 : _ = some (Value.int .i64 l0) := hF.cell? 0
      have f_1 : _ = some (Value.int .i64 t1) := hF.cell? 1
      have s_0 : _ = some (Value.int .i64 a) := hS.cell? 0
      have s_1 : _ = some (Value.int .i64 b) := hS.cell? 1
      have s_2 : _ = some (Value.int .i64 c) := hS.cell? 2
      have x_0 : _ = some (Value.int .i64 a) := hX.cell? 0
      have x_1 : _ = some (Value.int .i64 b) := hX.cell? 1
      have x_2 : _ = some (Value.int .i64 c) := hX.cell? 2
      have x_f0 := hX.frozen 0
      go_wp2_with fail
      clear x_f0
      clear t_0 t_1 d_0 d_1 n_0 n_1 o0 o1 f_0 f_1 s_0 s_1 s_2 x_0 x_1 x_2
      have hT := hT.far (p := ⟨w10.heap.size, 0, none⟩) (by show _ ≠ w10.heap.size; omega) (.int .i64 a2)
      have hD := hD.far (p := ⟨w10.heap.size, 0, none⟩) (by show _ ≠ w10.heap.size; omega) (.int .i64 a2)
      have hN := hN.far (p := ⟨w10.heap.size, 0, none⟩) (by show _ ≠ w10.heap.size; omega) (.int .i64 a2)
      have hO := hO.far (a := ⟨w10.heap.size, 0, none⟩) (by show _ ≠ w10.heap.size; omega) (.int .i64 a2)
      have hF := hF.far (p := ⟨w10.heap.size, 0, none⟩) (by show _ ≠ w10.heap.size; omega) (.int .i64 a2)
      have hS := hS.far (p := ⟨w10.heap.size, 0, none⟩) (by show _ ≠ w10.heap.size; omega) (.int .i64 a2)
      have hX := hX.set_ 0 a2
      have hB := hB.setCell (p := ⟨w10.heap.size, 0, none⟩) hwX (.int .i64 a2)
      have t_0 : _ = some (Value.int .i64 t0) := hT.cell? 0
      have t_1 : _ = some (Value.int .i64 t1) := hT.cell? 1
      have d_0 : _ = some (Value.int .i64 d0) := hD.cell? 0
      have d_1 : _ = some (Value.int .i64 d1) := hD.cell? 1
      have n_0 : _ = some (Value.int .i64 n0) := hN.cell? 0
      have n_1 : _ = some (Value.int .i64 n1) := hN.cell? 1
      have o0 : _ = some (Value.bool true) := hO.cell0
      have o1 : _ = some (Value.bool false) := hO.cell1
      have f_0 : _ = some (Value.int .i64 l0) := hF.cell? 0
      have f_1 : _ = some (Value.int .i64 t1) := hF.cell? 1
      have s_0 : _ = some (Value.int .i64 a) := hS.cell? 0
      have s_1 : _ = some (Value.int .i64 b) := hS.cell? 1
      have s_2 : _ = some (Value.int .i64 c) := hS.cell? 2
      have x_0 : _ = some (Value.int .i64 a2) := hX.cell? 0
      have x_1 : _ = some (Value.int .i64 b) := hX.cell? 1
      have x_2 : _ = some (Value.int .i64 c) := hX.cell? 2
      refine wp_loop_rounds 3 ?_
      rw [rounds_succ]
      rcases hxy with ⟨rfl, rfl⟩ | ⟨rfl, rfl⟩
      · have hLw := Lib.hid (hL.below hB hL.size)
        go_wp2
        go_region_held3 (fun w' => w'.cell? ⟨w10.heap.size, 0, none⟩ = some (.int .i64 a2) ∧ w'.cell? ⟨w10.heap.size, 1, none⟩ = some (.int .i64 b) ∧ w'.cell? ⟨w10.heap.size, 2, none⟩ = some (.int .i64 c) ∧ w'.cell? ⟨w.heap.size + 1, 0, none⟩ = some (.int .i64 d0) ∧ w'.cell? ⟨w.heap.size + 1 + 1, 0, none⟩ = some (.int .i64 n0) ∧ w'.cell? ⟨w.heap.size, 0, none⟩ = some (.int .i64 t0))
          (first | (go_keep; done) | exact ⟨(hk3 ⟨w10.heap.size, 0, none⟩ hX.lt).trans x_0, (hk3 ⟨w10.heap.size, 1, none⟩ hX.lt).trans x_1, (hk3 ⟨w10.heap.size, 2, none⟩ hX.lt).trans x_2, (hk3 ⟨w.heap.size + 1, 0, none⟩ hD.lt).trans d_0, (hk3 ⟨w.heap.size + 1 + 1, 0, none⟩ hN.lt).trans n_0, (hk3 ⟨w.heap.size, 0, none⟩ hT.lt).trans t_0⟩)
          ((go_at_call 11; (refine (hr3 _ hLw.out.drew).mono ?_); rintro e w12 ⟨rfl, hb3⟩; have hk3 := bel_keep hb3))
        have hb := undraw hb3
        clear hb3 hk3 hLw
        clear t_0 t_1 d_0 d_1 n_0 n_1 o0 o1 f_0 f_1 s_0 s_1 s_2 x_0 x_1 x_2
        have hT := hT.below hb hT.lt
        have hD := hD.below hb hD.lt
        have hN := hN.below hb hN.lt
        have hO := hO.below hb hO.lt
        have hF := hF.below hb hF.lt
        have hS := hS.below hb hS.lt
        have hX := hX.below hb hX.lt
        have hB := hB.trans (hb.mono hB.size)
        clear hb
        have t_0 : _ = some (Value.int .i64 t0) := hT.cell? 0
        have t_1 : _ = some (Value.int .i64 t1) := hT.cell? 1
        have d_0 : _ = some (Value.int .i64 d0) := hD.cell? 0
        have d_1 : _ = some (Value.int .i64 d1) := hD.cell? 1
        have n_0 : _ = some (Value.int .i64 n0) := hN.cell? 0
        have n_1 : _ = some (Value.int .i64 n1) := hN.cell? 1
        have o0 : _ = some (Value.bool true) := hO.cell0
        have o1 : _ = some (Value.bool false) := hO.cell1
        have f_0 : _ = some (Value.int .i64 l0) := hF.cell? 0
        have f_1 : _ = some (Value.int .i64 t1) := hF.cell? 1
        have s_0 : _ = some (Value.int .i64 a) := hS.cell? 0
        have s_1 : _ = some (Value.int .i64 b) := hS.cell? 1
        have s_2 : _ = some (Value.int .i64 c) := hS.cell? 2
        have x_0 : _ = some (Value.int .i64 a2) := hX.cell? 0
        have x_1 : _ = some (Value.int .i64 b) := hX.cell? 1
        have x_2 : _ = some (Value.int .i64 c) := hX.cell? 2
        go_wp2
        rw [rounds_succ]
        have hLw := Lib.hid (hL.below hB hL.size)
        go_wp2
        go_region_held3 (fun w' => w'.cell? ⟨w10.heap.size, 0, none⟩ = some (.int .i64 a2) ∧ w'.cell? ⟨w10.heap.size, 1, none⟩ = some (.int .i64 b) ∧ w'.cell? ⟨w10.heap.size, 2, none⟩ = some (.int .i64 c) ∧ w'.cell? ⟨w.heap.size + 1, 1, none⟩ = some (.int .i64 d1) ∧ w'.cell? ⟨w.heap.size + 1 + 1, 1, none⟩ = some (.int .i64 n1) ∧ w'.cell? ⟨w.heap.size, 1, none⟩ = some (.int .i64 t1))
          (first | (go_keep; done) | exact ⟨(hk3 ⟨w10.heap.size, 0, none⟩ hX.lt).trans x_0, (hk3 ⟨w10.heap.size, 1, none⟩ hX.lt).trans x_1, (hk3 ⟨w10.heap.size, 2, none⟩ hX.lt).trans x_2, (hk3 ⟨w.heap.size + 1, 1, none⟩ hD.lt).trans d_1, (hk3 ⟨w.heap.size + 1 + 1, 1, none⟩ hN.lt).trans n_1, (hk3 ⟨w.heap.size, 1, none⟩ hT.lt).trans t_1⟩)
          ((go_at_call 11; (refine (hr4 _ hLw.out.drew).mono ?_); rintro e w13 ⟨rfl, hb3⟩; have hk3 := bel_keep hb3))
        have hb := undraw hb3
        clear hb3 hk3 hLw
        clear t_0 t_1 d_0 d_1 n_0 n_1 o0 o1 f_0 f_1 s_0 s_1 s_2 x_0 x_1 x_2
        have hT := hT.below hb hT.lt
        have hD := hD.below hb hD.lt
        have hN := hN.below hb hN.lt
        have hO := hO.below hb hO.lt
        have hF := hF.below hb hF.lt
        have hS := hS.below hb hS.lt
        have hX := hX.below hb hX.lt
        have hB := hB.trans (hb.mono hB.size)
        clear hb
        have t_0 : _ = some (Value.int .i64 t0) := hT.cell? 0
        have t_1 : _ = some (Value.int .i64 t1) := hT.cell? 1
        have d_0 : _ = some (Value.int .i64 d0) := hD.cell? 0
        have d_1 : _ = some (Value.int .i64 d1) := hD.cell? 1
        have n_0 : _ = some (Value.int .i64 n0) := hN.cell? 0
        have n_1 : _ = some (Value.int .i64 n1) := hN.cell? 1
        have o0 : _ = some (Value.bool true) := hO.cell0
        have o1 : _ = some (Value.bool false) := hO.cell1
        have f_0 : _ = some (Value.int .i64 l0) := hF.cell? 0
        have f_1 : _ = some (Value.int .i64 t1) := hF.cell? 1
        have s_0 : _ = some (Value.int .i64 a) := hS.cell? 0
        have s_1 : _ = some (Value.int .i64 b) := hS.cell? 1
        have s_2 : _ = some (Value.int .i64 c) := hS.cell? 2
        have x_0 : _ = some (Value.int .i64 a2) := hX.cell? 0
        have x_1 : _ = some (Value.int .i64 b) := hX.cell? 1
        have x_2 : _ = some (Value.int .i64 c) := hX.cell? 2
        go_wp2
        rw [rounds_succ]
        go_wp2
        go_ret
        exact ⟨rfl, hB⟩
      · have hLw := Lib.hid (hL.below hB hL.size)
        go_wp2
        go_region_held3 (fun w' => w'.cell? ⟨w10.heap.size, 0, none⟩ = some (.int .i64 a2) ∧ w'.cell? ⟨w10.heap.size, 1, none⟩ = some (.int .i64 b) ∧ w'.cell? ⟨w10.heap.size, 2, none⟩ = some (.int .i64 c) ∧ w'.cell? ⟨w.heap.size + 1, 0, none⟩ = some (.int .i64 d0) ∧ w'.cell? ⟨w.heap.size + 1 + 1, 0, none⟩ = some (.int .i64 n0) ∧ w'.cell? ⟨w.heap.size, 0, none⟩ = some (.int .i64 t0))
          (first | (go_keep; done) | exact ⟨(hk3 ⟨w10.heap.size, 0, none⟩ hX.lt).trans x_0, (hk3 ⟨w10.heap.size, 1, none⟩ hX.lt).trans x_1, (hk3 ⟨w10.heap.size, 2, none⟩ hX.lt).trans x_2, (hk3 ⟨w.heap.size + 1, 0, none⟩ hD.lt).trans d_0, (hk3 ⟨w.heap.size + 1 + 1, 0, none⟩ hN.lt).trans n_0, (hk3 ⟨w.heap.size, 0, none⟩ hT.lt).trans t_0⟩)
          ((go_at_call 11; (refine (hr3 _ hLw.out.drew).mono ?_); rintro e w12 ⟨rfl, hb3⟩; have hk3 := bel_keep hb3))
        have hb := undraw hb3
        clear hb3 hk3 hLw
        clear t_0 t_1 d_0 d_1 n_0 n_1 o0 o1 f_0 f_1 s_0 s_1 s_2 x_0 x_1 x_2
        have hT := hT.below hb hT.lt
        have hD := hD.below hb hD.lt
        have hN := hN.below hb hN.lt
        have hO := hO.below hb hO.lt
        have hF := hF.below hb hF.lt
        have hS := hS.below hb hS.lt
        have hX := hX.below hb hX.lt
        have hB := hB.trans (hb.mono hB.size)
        clear hb
        have t_0 : _ = some (Value.int .i64 t0) := hT.cell? 0
        have t_1 : _ = some (Value.int .i64 t1) := hT.cell? 1
        have d_0 : _ = some (Value.int .i64 d0) := hD.cell? 0
        have d_1 : _ = some (Value.int .i64 d1) := hD.cell? 1
        have n_0 : _ = some (Value.int .i64 n0) := hN.cell? 0
        have n_1 : _ = some (Value.int .i64 n1) := hN.cell? 1
        have o0 : _ = some (Value.bool true) := hO.cell0
        have o1 : _ = some (Value.bool false) := hO.cell1
        have f_0 : _ = some (Value.int .i64 l0) := hF.cell? 0
        have f_1 : _ = some (Value.int .i64 t1) := hF.cell? 1
        have s_0 : _ = some (Value.int .i64 a) := hS.cell? 0
        have s_1 : _ = some (Value.int .i64 b) := hS.cell? 1
        have s_2 : _ = some (Value.int .i64 c) := hS.cell? 2
        have x_0 : _ = some (Value.int .i64 a2) := hX.cell? 0
        have x_1 : _ = some (Value.int .i64 b) := hX.cell? 1
        have x_2 : _ = some (Value.int .i64 c) := hX.cell? 2
        go_wp2
        rw [rounds_succ]
        have hLw := Lib.hid (hL.below hB hL.size)
        go_wp2
        go_region_held3 (fun w' => w'.cell? ⟨w10.heap.size, 0, none⟩ = some (.int .i64 a2) ∧ w'.cell? ⟨w10.heap.size, 1, none⟩ = some (.int .i64 b) ∧ w'.cell? ⟨w10.heap.size, 2, none⟩ = some (.int .i64 c) ∧ w'.cell? ⟨w.heap.size + 1, 1, none⟩ = some (.int .i64 d1) ∧ w'.cell? ⟨w.heap.size + 1 + 1, 1, none⟩ = some (.int .i64 n1) ∧ w'.cell? ⟨w.heap.size, 1, none⟩ = some (.int .i64 t1))
          (first | (go_keep; done) | exact ⟨(hk3 ⟨w10.heap.size, 0, none⟩ hX.lt).trans x_0, (hk3 ⟨w10.heap.size, 1, none⟩ hX.lt).trans x_1, (hk3 ⟨w10.heap.size, 2, none⟩ hX.lt).trans x_2, (hk3 ⟨w.heap.size + 1, 1, none⟩ hD.lt).trans d_1, (hk3 ⟨w.heap.size + 1 + 1, 1, none⟩ hN.lt).trans n_1, (hk3 ⟨w.heap.size, 1, none⟩ hT.lt).trans t_1⟩)
          ((go_at_call 11; (refine (hr4 _ hLw.out.drew).mono ?_); rintro e w13 ⟨rfl, hb3⟩; have hk3 := bel_keep hb3))
        have hb := undraw hb3
        clear hb3 hk3 hLw
        clear t_0 t_1 d_0 d_1 n_0 n_1 o0 o1 f_0 f_1 s_0 s_1 s_2 x_0 x_1 x_2
        have hT := hT.below hb hT.lt
        have hD := hD.below hb hD.lt
        have hN := hN.below hb hN.lt
        have hO := hO.below hb hO.lt
        have hF := hF.below hb hF.lt
        have hS := hS.below hb hS.lt
        have hX := hX.below hb hX.lt
        have hB := hB.trans (hb.mono hB.size)
        clear hb
        have t_0 : _ = some (Value.int .i64 t0) := hT.cell? 0
        have t_1 : _ = some (Value.int .i64 t1) := hT.cell? 1
        have d_0 : _ = some (Value.int .i64 d0) := hD.cell? 0
        have d_1 : _ = some (Value.int .i64 d1) := hD.cell? 1
        have n_0 : _ = some (Value.int .i64 n0) := hN.cell? 0
        have n_1 : _ = some (Value.int .i64 n1) := hN.cell? 1
        have o0 : _ = some (Value.bool true) := hO.cell0
        have o1 : _ = some (Value.bool false) := hO.cell1
        have f_0 : _ = some (Value.int .i64 l0) := hF.cell? 0
        have f_1 : _ = some (Value.int .i64 t1) := hF.cell? 1
        have s_0 : _ = some (Value.int .i64 a) := hS.cell? 0
        have s_1 : _ = some (Value.int .i64 b) := hS.cell? 1
        have s_2 : _ = some (Value.int .i64 c) := hS.cell? 2
        have x_0 : _ = some (Value.int .i64 a2) := hX.cell? 0
        have x_1 : _ = some (Value.int .i64 b) := hX.cell? 1
        have x_2 : _ = some (Value.int .i64 c) := hX.cell? 2
        go_wp2
        rw [rounds_succ]
        go_wp2
        go_ret
        exact ⟨rfl, hB⟩
end Go.Proofs.YtllabahapaeedaaDoor
