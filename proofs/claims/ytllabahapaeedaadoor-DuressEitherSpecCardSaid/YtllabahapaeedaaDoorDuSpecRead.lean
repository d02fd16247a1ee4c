/- The reference's Read, given that its Hash is the hash. -/
import Derived.Test.YtllabahapaeedaaDoorDuSpecTag
namespace Go.Proofs.YtllabahapaeedaaDoor
open Go.RowKit
set_option linter.unusedVariables false
set_option maxRecDepth 100000 in
set_option maxHeartbeats 2000000 in
theorem rread_no470 (a b c d n t : Int) (w : World) (ht1 : ∀ w, Calls Tryd.prog 10 #[.agg #[.int .i64 a, .int .i64 b, .int .i64 c], .int .i64 d, .int .i64 n, .bool false] w fun e w' => e = .returned (.tuple #[.int .i64 0, .int .i64 470]) ∧ Below w.heap.size w w') :
    Calls Tryd.prog 12 #[silV a b c, .int .i64 d, .int .i64 n, .int .i64 t] w fun e w' => e = .returned (.tuple #[.bool false, .bool false, .int .i64 470]) ∧ Below w.heap.size w w' := by
  unfold silV
  go_enter Tryd.func12, Tryd.ntmps12
  have hS := Ints.new w 23 .i64 [a, b, c]
  have hB := (Below.refl w.heap.size w).alloc (Nat.le_refl _) (.cells #[.int .i64 a, .int .i64 b, .int .i64 c] 23)
  have s0 : _ = some (Value.int .i64 a) := hS.cell? 0
  have s1 : _ = some (Value.int .i64 b) := hS.cell? 1
  have s2 : _ = some (Value.int .i64 c) := hS.cell? 2
  go_wp2_with fail
  refine (ht1 _).mono ?_
  rintro e w1 ⟨rfl, hb⟩
  clear s0 s1 s2
  have hS := hS.below hb hS.lt
  have hB := hB.trans (hb.mono hB.size)
  clear hb
  have s0 : _ = some (Value.int .i64 a) := hS.cell? 0
  have s1 : _ = some (Value.int .i64 b) := hS.cell? 1
  have s2 : _ = some (Value.int .i64 c) := hS.cell? 2
  go_wp2
  go_ret3
  exact ⟨rfl, hB⟩
set_option maxRecDepth 100000 in
set_option maxHeartbeats 2000000 in
theorem rread_no1 (a b c d n t : Int) (w : World) (ht1 : ∀ w, Calls Tryd.prog 10 #[.agg #[.int .i64 a, .int .i64 b, .int .i64 c], .int .i64 d, .int .i64 n, .bool false] w fun e w' => e = .returned (.tuple #[.int .i64 0, .int .i64 1]) ∧ Below w.heap.size w w') :
    Calls Tryd.prog 12 #[silV a b c, .int .i64 d, .int .i64 n, .int .i64 t] w fun e w' => e = .returned (.tuple #[.bool false, .bool false, .int .i64 1]) ∧ Below w.heap.size w w' := by
  unfold silV
  go_enter Tryd.func12, Tryd.ntmps12
  have hS := Ints.new w 23 .i64 [a, b, c]
  have hB := (Below.refl w.heap.size w).alloc (Nat.le_refl _) (.cells #[.int .i64 a, .int .i64 b, .int .i64 c] 23)
  have s0 : _ = some (Value.int .i64 a) := hS.cell? 0
  have s1 : _ = some (Value.int .i64 b) := hS.cell? 1
  have s2 : _ = some (Value.int .i64 c) := hS.cell? 2
  go_wp2_with fail
  refine (ht1 _).mono ?_
  rintro e w1 ⟨rfl, hb⟩
  clear s0 s1 s2
  have hS := hS.below hb hS.lt
  have hB := hB.trans (hb.mono hB.size)
  clear hb
  have s0 : _ = some (Value.int .i64 a) := hS.cell? 0
  have s1 : _ = some (Value.int .i64 b) := hS.cell? 1
  have s2 : _ = some (Value.int .i64 c) := hS.cell? 2
  go_wp2
  go_ret3
  exact ⟨rfl, hB⟩
set_option maxRecDepth 100000 in
set_option maxHeartbeats 2000000 in
theorem rread_num (p : Int) (a b c d n t : Int) (w : World) (ht1 : ∀ w, Calls Tryd.prog 10 #[.agg #[.int .i64 a, .int .i64 b, .int .i64 c], .int .i64 d, .int .i64 n, .bool false] w fun e w' => e = .returned (.tuple #[.int .i64 p, .int .i64 0]) ∧ Below w.heap.size w w') (hn : Du.num t = false) :
    Calls Tryd.prog 12 #[silV a b c, .int .i64 d, .int .i64 n, .int .i64 t] w fun e w' => e = .returned (.tuple #[.bool false, .bool false, .int .i64 1]) ∧ Below w.heap.size w w' := by
  have HN := Lib.hid hn
  clear hn
  unfold silV
  go_enter Tryd.func12, Tryd.ntmps12
  have hS := Ints.new w 23 .i64 [a, b, c]
  have hB := (Below.refl w.heap.size w).alloc (Nat.le_refl _) (.cells #[.int .i64 a, .int .i64 b, .int .i64 c] 23)
  have s0 : _ = some (Value.int .i64 a) := hS.cell? 0
  have s1 : _ = some (Value.int .i64 b) := hS.cell? 1
  have s2 : _ = some (Value.int .i64 c) := hS.cell? 2
  go_wp2_with fail
  refine (ht1 _).mono ?_
  rintro e w1 ⟨rfl, hb⟩
  clear s0 s1 s2
  have hS := hS.below hb hS.lt
  have hB := hB.trans (hb.mono hB.size)
  clear hb
  have s0 : _ = some (Value.int .i64 a) := hS.cell? 0
  have s1 : _ = some (Value.int .i64 b) := hS.cell? 1
  have s2 : _ = some (Value.int .i64 c) := hS.cell? 2
  go_wp2_with fail
  refine (rnum_any _ _).mono ?_
  rintro e w' ⟨he, rfl⟩
  rw [HN.out] at he
  subst he
  go_wp2
  go_ret3
  exact ⟨rfl, hB⟩
set_option maxRecDepth 100000 in
set_option maxHeartbeats 2000000 in
theorem rread_false_true (p r : Int) (a b c d n t : Int) (w : World) (ht1 : ∀ w, Calls Tryd.prog 10 #[.agg #[.int .i64 a, .int .i64 b, .int .i64 c], .int .i64 d, .int .i64 n, .bool false] w fun e w' => e = .returned (.tuple #[.int .i64 p, .int .i64 0]) ∧ Below w.heap.size w w') (ht2 : ∀ w, Calls Tryd.prog 10 #[.agg #[.int .i64 a, .int .i64 b, .int .i64 c], .int .i64 d, .int .i64 n, .bool true] w fun e w' => e = .returned (.tuple #[.int .i64 r, .int .i64 0]) ∧ Below w.heap.size w w') (hn : Du.num t = true) (f1 : (t == p) = true) (f2 : (t == r) = false) :
    Calls Tryd.prog 12 #[silV a b c, .int .i64 d, .int .i64 n, .int .i64 t] w fun e w' => e = .returned (.tuple #[.bool false, .bool true, .int .i64 0]) ∧ Below w.heap.size w w' := by
  have HN := Lib.hid hn
  clear hn
  unfold silV
  go_enter Tryd.func12, Tryd.ntmps12
  have hS := Ints.new w 23 .i64 [a, b, c]
  have hB := (Below.refl w.heap.size w).alloc (Nat.le_refl _) (.cells #[.int .i64 a, .int .i64 b, .int .i64 c] 23)
  have s0 : _ = some (Value.int .i64 a) := hS.cell? 0
  have s1 : _ = some (Value.int .i64 b) := hS.cell? 1
  have s2 : _ = some (Value.int .i64 c) := hS.cell? 2
  go_wp2_with fail
  refine (ht1 _).mono ?_
  rintro e w1 ⟨rfl, hb⟩
  clear s0 s1 s2
  have hS := hS.below hb hS.lt
  have hB := hB.trans (hb.mono hB.size)
  clear hb
  have s0 : _ = some (Value.int .i64 a) := hS.cell? 0
  have s1 : _ = some (Value.int .i64 b) := hS.cell? 1
  have s2 : _ = some (Value.int .i64 c) := hS.cell? 2
  go_wp2_with fail
  refine (rnum_any _ _).mono ?_
  rintro e w' ⟨he, rfl⟩
  rw [HN.out] at he
  subst he
  go_wp2_with fail
  refine (ht2 _).mono ?_
  rintro e w2 ⟨rfl, hb⟩
  clear s0 s1 s2
  have hS := hS.below hb hS.lt
  have hB := hB.trans (hb.mono hB.size)
  clear hb
  have s0 : _ = some (Value.int .i64 a) := hS.cell? 0
  have s1 : _ = some (Value.int .i64 b) := hS.cell? 1
  have s2 : _ = some (Value.int .i64 c) := hS.cell? 2
  go_wp2
  go_ret3
  exact ⟨rfl, hB⟩
set_option maxRecDepth 100000 in
set_option maxHeartbeats 2000000 in
theorem rread_true_true (p r : Int) (a b c d n t : Int) (w : World) (ht1 : ∀ w, Calls Tryd.prog 10 #[.agg #[.int .i64 a, .int .i64 b, .int .i64 c], .int .i64 d, .int .i64 n, .bool false] w fun e w' => e = .returned (.tuple #[.int .i64 p, .int .i64 0]) ∧ Below w.heap.size w w') (ht2 : ∀ w, Calls Tryd.prog 10 #[.agg #[.int .i64 a, .int .i64 b, .int .i64 c], .int .i64 d, .int .i64 n, .bool true] w fun e w' => e = .returned (.tuple #[.int .i64 r, .int .i64 0]) ∧ Below w.heap.size w w') (hn : Du.num t = true) (f1 : (t == p) = false) (f2 : (t == r) = true) :
    Calls Tryd.prog 12 #[silV a b c, .int .i64 d, .int .i64 n, .int .i64 t] w fun e w' => e = .returned (.tuple #[.bool true, .bool true, .int .i64 0]) ∧ Below w.heap.size w w' := by
  have HN := Lib.hid hn
  clear hn
  unfold silV
  go_enter Tryd.func12, Tryd.ntmps12
  have hS := Ints.new w 23 .i64 [a, b, c]
  have hB := (Below.refl w.heap.size w).alloc (Nat.le_refl _) (.cells #[.int .i64 a, .int .i64 b, .int .i64 c] 23)
  have s0 : _ = some (Value.int .i64 a) := hS.cell? 0
  have s1 : _ = some (Value.int .i64 b) := hS.cell? 1
  have s2 : _ = some (Value.int .i64 c) := hS.cell? 2
  go_wp2_with fail
  refine (ht1 _).mono ?_
  rintro e w1 ⟨rfl, hb⟩
  clear s0 s1 s2
  have hS := hS.below hb hS.lt
  have hB := hB.trans (hb.mono hB.size)
  clear hb
  have s0 : _ = some (Value.int .i64 a) := hS.cell? 0
  have s1 : _ = some (Value.int .i64 b) := hS.cell? 1
  have s2 : _ = some (Value.int .i64 c) := hS.cell? 2
  go_wp2_with fail
  refine (rnum_any _ _).mono ?_
  rintro e w' ⟨he, rfl⟩
  rw [HN.out] at he
  subst he
  go_wp2_with fail
  refine (ht2 _).mono ?_
  rintro e w2 ⟨rfl, hb⟩
  clear s0 s1 s2
  have hS := hS.below hb hS.lt
  have hB := hB.trans (hb.mono hB.size)
  clear hb
  have s0 : _ = some (Value.int .i64 a) := hS.cell? 0
  have s1 : _ = some (Value.int .i64 b) := hS.cell? 1
  have s2 : _ = some (Value.int .i64 c) := hS.cell? 2
  go_wp2
  go_ret3
  exact ⟨rfl, hB⟩
set_option maxRecDepth 100000 in
set_option maxHeartbeats 2000000 in
theorem rread_false_false (p r : Int) (a b c d n t : Int) (w : World) (ht1 : ∀ w, Calls Tryd.prog 10 #[.agg #[.int .i64 a, .int .i64 b, .int .i64 c], .int .i64 d, .int .i64 n, .bool false] w fun e w' => e = .returned (.tuple #[.int .i64 p, .int .i64 0]) ∧ Below w.heap.size w w') (ht2 : ∀ w, Calls Tryd.prog 10 #[.agg #[.int .i64 a, .int .i64 b, .int .i64 c], .int .i64 d, .int .i64 n, .bool true] w fun e w' => e = .returned (.tuple #[.int .i64 r, .int .i64 0]) ∧ Below w.heap.size w w') (hn : Du.num t = true) (f1 : (t == p) = false) (f2 : (t == r) = false) :
    Calls Tryd.prog 12 #[silV a b c, .int .i64 d, .int .i64 n, .int .i64 t] w fun e w' => e = .returned (.tuple #[.bool false, .bool false, .int .i64 0]) ∧ Below w.heap.size w w' := by
  have HN := Lib.hid hn
  clear hn
  unfold silV
  go_enter Tryd.func12, Tryd.ntmps12
  have hS := Ints.new w 23 .i64 [a, b, c]
  have hB := (Below.refl w.heap.size w).alloc (Nat.le_refl _) (.cells #[.int .i64 a, .int .i64 b, .int .i64 c] 23)
  have s0 : _ = some (Value.int .i64 a) := hS.cell? 0
  have s1 : _ = some (Value.int .i64 b) := hS.cell? 1
  have s2 : _ = some (Value.int .i64 c) := hS.cell? 2
  go_wp2_with fail
  refine (ht1 _).mono ?_
  rintro e w1 ⟨rfl, hb⟩
  clear s0 s1 s2
  have hS := hS.below hb hS.lt
  have hB := hB.trans (hb.mono hB.size)
  clear hb
  have s0 : _ = some (Value.int .i64 a) := hS.cell? 0
  have s1 : _ = some (Value.int .i64 b) := hS.cell? 1
  have s2 : _ = some (Value.int .i64 c) := hS.cell? 2
  go_wp2_with fail
  refine (rnum_any _ _).mono ?_
  rintro e w' ⟨he, rfl⟩
  rw [HN.out] at he
  subst he
  go_wp2_with fail
  refine (ht2 _).mono ?_
  rintro e w2 ⟨rfl, hb⟩
  clear s0 s1 s2
  have hS := hS.below hb hS.lt
  have hB := hB.trans (hb.mono hB.size)
  clear hb
  have s0 : _ = some (Value.int .i64 a) := hS.cell? 0
  have s1 : _ = some (Value.int .i64 b) := hS.cell? 1
  have s2 : _ = some (Value.int .i64 c) := hS.cell? 2
  go_wp2
  go_ret3
  exact ⟨rfl, hB⟩
theorem rtcall (K : Sh.Cst) (RH : RHash K) (a b c d n : Int) (co : Bool) {x y : Int} (h : Du.tagR K a b c d n co = (x, y)) (w : World) : Calls Tryd.prog 10 #[.agg #[.int .i64 a, .int .i64 b, .int .i64 c], .int .i64 d, .int .i64 n, .bool co] w fun e w' => e = .returned (.tuple #[.int .i64 x, .int .i64 y]) ∧ Below w.heap.size w w' :=
  (rtag_any K RH a b c d n co w).mono fun e w' ⟨he, hb⟩ => ⟨by rw [he, h], hb⟩
theorem rread_any (K : Sh.Cst) (RH : RHash K) (a b c d n t : Int) (w : World) :
    Calls Tryd.prog 12 #[silV a b c, .int .i64 d, .int .i64 n, .int .i64 t] w fun e w' => e = .returned (.tuple #[.bool (Du.readR K a b c d n t).1, .bool (Du.readR K a b c d n t).2.1, .int .i64 (Du.readR K a b c d n t).2.2]) ∧ Below w.heap.size w w' := by
  cases hr : Du.right a b c with
  | false =>
    rw [Du.readR_silent hr]
    exact rread_no470 a b c d n t w (rtcall K RH a b c d n false (Du.tagR_silent hr))
  | true =>
    cases hp : Du.poss d n with
    | false =>
      rw [Du.readR_arg hr hp]
      exact rread_no1 a b c d n t w (rtcall K RH a b c d n false (Du.tagR_arg hr hp))
    | true =>
      obtain ⟨_, _, hc1, hc2⟩ := Du.right_iff.1 hr
      have hne := tag_ne a b c (Du.hoI K d n) hc1 hc2
      have ht1 := rtcall K RH a b c d n false (Du.tagR_yes hr hp)
      have ht2 := rtcall K RH a b c d n true (Du.tagR_yes hr hp)
      cases hn : Du.num t with
      | false =>
        rw [Du.readR_num hr hp hn]
        exact rread_num _ a b c d n t w ht1 hn
      | true =>
        rw [Du.readR_yes hr hp hn]
        by_cases h1 : t = Du.tag a b c (Du.hoI K d n) false
        · have e : Du.said a b c (Du.hoI K d n) t = (false, true) := by rw [h1, said_plain]
          rw [e]
          exact rread_false_true _ _ a b c d n t w ht1 ht2 hn (by simpa using h1) (by rw [h1]; simpa using fun e => hne e.symm)
        · by_cases h2 : t = Du.tag a b c (Du.hoI K d n) true
          · have e : Du.said a b c (Du.hoI K d n) t = (true, true) := by rw [h2, said_silent a b c _ hc1 hc2]
            rw [e]
            exact rread_true_true _ _ a b c d n t w ht1 ht2 hn (by simpa using h1) (by simpa using h2)
          · have e : Du.said a b c (Du.hoI K d n) t = (false, false) := by unfold Du.said; rw [if_neg h1, if_neg h2]
            rw [e]
            exact rread_false_false _ _ a b c d n t w ht1 ht2 hn (by simpa using h1) (by simpa using h2)
set_option maxRecDepth 100000 in
set_option maxHeartbeats 2000000 in
theorem ds_core (K : Sh.Cst) (a b c d n t : Int) (co : Bool) (w : World) (hL : Laid w) (x y z : Int) (u v : Bool) (h1 : ∀ w, Laid w → Calls Tryd.prog 9 #[.agg #[.int .i64 a, .int .i64 b, .int .i64 c], .int .i64 d, .int .i64 n, .bool co] w fun e w' => e = .returned (.tuple #[.int .i64 x, .int .i64 y]) ∧ Below w.heap.size w w') (h2 : ∀ w, Calls Tryd.prog 10 #[.agg #[.int .i64 a, .int .i64 b, .int .i64 c], .int .i64 d, .int .i64 n, .bool co] w fun e w' => e = .returned (.tuple #[.int .i64 x, .int .i64 y]) ∧ Below w.heap.size w w') (h3 : ∀ w, Laid w → Calls Tryd.prog 11 #[.agg #[.int .i64 a, .int .i64 b, .int .i64 c], .int .i64 d, .int .i64 n, .int .i64 t] w fun e w' => e = .returned (.tuple #[.bool u, .bool v, .int .i64 z]) ∧ Below w.heap.size w w') (h4 : ∀ w, Calls Tryd.prog 12 #[.agg #[.int .i64 a, .int .i64 b, .int .i64 c], .int .i64 d, .int .i64 n, .int .i64 t] w fun e w' => e = .returned (.tuple #[.bool u, .bool v, .int .i64 z]) ∧ Below w.heap.size w w') :
    Calls Tryd.prog 3 #[silV a b c, .int .i64 d, .int .i64 n, .int .i64 t, .bool co] w fun e w' => e = .returned (.bool true) ∧ Below w.heap.size w w' := by
  unfold silV
  go_enter Tryd.func3, Tryd.ntmps3
  have hS := Ints.new w 23 .i64 [a, b, c]
  have hB := (Below.refl w.heap.size w).alloc (Nat.le_refl _) (.cells #[.int .i64 a, .int .i64 b, .int .i64 c] 23)
  have s0 : _ = some (Value.int .i64 a) := hS.cell? 0
  have s1 : _ = some (Value.int .i64 b) := hS.cell? 1
  have s2 : _ = some (Value.int .i64 c) := hS.cell? 2
  go_wp2_with fail
  refine (dsane_any K _ (hL.below hB hL.size)).mono ?_
  rintro e w1 ⟨rfl, hb⟩
  clear s0 s1 s2
  have hS := hS.below hb hS.lt
  have hB := hB.trans (hb.mono hB.size)
  clear hb
  have s0 : _ = some (Value.int .i64 a) := hS.cell? 0
  have s1 : _ = some (Value.int .i64 b) := hS.cell? 1
  have s2 : _ = some (Value.int .i64 c) := hS.cell? 2
  go_wp2_with fail
  refine (h1 _ (hL.below hB hL.size)).mono ?_
  rintro e w2 ⟨rfl, hb⟩
  clear s0 s1 s2
  have hS := hS.below hb hS.lt
  have hB := hB.trans (hb.mono hB.size)
  clear hb
  have s0 : _ = some (Value.int .i64 a) := hS.cell? 0
  have s1 : _ = some (Value.int .i64 b) := hS.cell? 1
  have s2 : _ = some (Value.int .i64 c) := hS.cell? 2
  go_wp2_with fail
  refine (h2 _).mono ?_
  rintro e w3 ⟨rfl, hb⟩
  clear s0 s1 s2
  have hS := hS.below hb hS.lt
  have hB := hB.trans (hb.mono hB.size)
  clear hb
  have s0 : _ = some (Value.int .i64 a) := hS.cell? 0
  have s1 : _ = some (Value.int .i64 b) := hS.cell? 1
  have s2 : _ = some (Value.int .i64 c) := hS.cell? 2
  go_wp2_with fail
  refine (h3 _ (hL.below hB hL.size)).mono ?_
  rintro e w4 ⟨rfl, hb⟩
  clear s0 s1 s2
  have hS := hS.below hb hS.lt
  have hB := hB.trans (hb.mono hB.size)
  clear hb
  have s0 : _ = some (Value.int .i64 a) := hS.cell? 0
  have s1 : _ = some (Value.int .i64 b) := hS.cell? 1
  have s2 : _ = some (Value.int .i64 c) := hS.cell? 2
  go_wp2_with fail
  refine (h4 _).mono ?_
  rintro e w5 ⟨rfl, hb⟩
  clear s0 s1 s2
  have hS := hS.below hb hS.lt
  have hB := hB.trans (hb.mono hB.size)
  clear hb
  have s0 : _ = some (Value.int .i64 a) := hS.cell? 0
  have s1 : _ = some (Value.int .i64 b) := hS.cell? 1
  have s2 : _ = some (Value.int .i64 c) := hS.cell? 2
  go_wp2
  go_ret
  exact ⟨rfl, hB⟩
theorem ds_walk (RHA : ∀ K, RHash K) (K : Sh.Cst) (a b c d n t : Int) (co : Bool) (w : World) (hL : Laid w) :
    Calls Tryd.prog 3 #[silV a b c, .int .i64 d, .int .i64 n, .int .i64 t, .bool co] w fun e w' => e = .returned (.bool true) ∧ Below w.heap.size w w' :=
  ds_core K a b c d n t co w hL _ _ _ _ _ (fun w hL => dtag_any K a b c d n co w hL) (fun w => rtag_any K (RHA K) a b c d n co w) (fun w hL => dread_any K a b c d n t w hL) (fun w => rread_any K (RHA K) a b c d n t w)
end Go.Proofs.YtllabahapaeedaaDoor
