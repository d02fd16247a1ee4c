/- The walk of DuressRead. -/
import Derived.Test.YtllabahapaeedaaDoorDuRef
namespace Go.Proofs.YtllabahapaeedaaDoor
open Go.RowKit
set_option linter.unusedVariables false
theorem tag_num (a b c h : Int) (co : Bool) : Du.num (Du.tag a b c h co) = true := by
  unfold Du.tag Du.num
  cases co
  · rw [if_neg (by decide)]; have h1 := Fm.ad_lo a (Fm.ml b h); have h2 := Fm.ad_hi a (Fm.ml b h); simp [h1, h2]
  · rw [if_pos rfl]; have h1 := Fm.ad_lo (Fm.ad a (Fm.ml b h)) c; have h2 := Fm.ad_hi (Fm.ad a (Fm.ml b h)) c; simp [h1, h2]
theorem tag_ne (a b c h : Int) (h1 : 1 ≤ c) (h2 : c < 1073741789) : Du.tag a b c h true ≠ Du.tag a b c h false := by
  show Fm.ad (Fm.ad a (Fm.ml b h)) c ≠ Fm.ad a (Fm.ml b h)
  have h3 := Fm.ad_lo a (Fm.ml b h)
  have h4 := Fm.ad_hi a (Fm.ml b h)
  generalize Fm.ad a (Fm.ml b h) = p at *
  unfold Fm.ad
  omega
theorem said_plain (a b c h : Int) : Du.said a b c h (Du.tag a b c h false) = (false, true) := by unfold Du.said; rw [if_pos rfl]
theorem said_silent (a b c h : Int) (h1 : 1 ≤ c) (h2 : c < 1073741789) : Du.said a b c h (Du.tag a b c h true) = (true, true) := by unfold Du.said; rw [if_neg (tag_ne a b c h h1 h2), if_pos rfl]
def sil3 (a b c : Int) : Obj := .cells #[.int .i64 a, .int .i64 b, .int .i64 c] 23
set_option maxRecDepth 100000 in
set_option maxHeartbeats 2000000 in
theorem rd_silent (K : Sh.Cst) (a b c d n t : Int) (w : World) (hL : Laid w) (ht1 : ∀ w, Laid w → Calls Tryd.prog 9 #[.agg #[.int .i64 a, .int .i64 b, .int .i64 c], .int .i64 d, .int .i64 n, .bool false] w fun e w' => e = .returned (.tuple #[.int .i64 0, .int .i64 470]) ∧ Below w.heap.size w w') (ht2 : ∀ w, Laid w → Calls Tryd.prog 9 #[.agg #[.int .i64 a, .int .i64 b, .int .i64 c], .int .i64 d, .int .i64 n, .bool true] w fun e w' => e = .returned (.tuple #[.int .i64 0, .int .i64 470]) ∧ Below w.heap.size w w') (hr : Du.right a b c = false) :
    Calls Tryd.prog 5 #[silV a b c, .int .i64 d, .int .i64 n, .int .i64 t] w fun e w' => e = .returned (.bool true) ∧ Below w.heap.size w w' := by
  have HR := Lib.hid hr
  have hra := rright_any a b c
  clear hr
  unfold silV at hra ⊢
  go_enter Tryd.func5, Tryd.ntmps5
  have hS := Ints.new w 23 .i64 [a, b, c]
  have hB := (Below.refl w.heap.size w).alloc (Nat.le_refl _) (.cells #[.int .i64 a, .int .i64 b, .int .i64 c] 23)
  go_wp2_with fail
  refine (dsane_any K _ (hL.below hB hL.size)).mono ?_
  rintro e w1 ⟨rfl, hb⟩
  have hS := hS.below hb hS.lt
  have hB := hB.trans (hb.mono hB.size)
  clear hb
  have s0 : _ = some (Value.int .i64 a) := hS.cell? 0
  have s1 : _ = some (Value.int .i64 b) := hS.cell? 1
  have s2 : _ = some (Value.int .i64 c) := hS.cell? 2
  go_wp2_with fail
  refine (ht1 _ (hL.below hB hL.size)).mono ?_
  rintro e w2 ⟨rfl, hb⟩
  have hS := hS.below hb hS.lt
  have hB := hB.trans (hb.mono hB.size)
  clear hb
  have s0 : _ = some (Value.int .i64 a) := hS.cell? 0
  have s1 : _ = some (Value.int .i64 b) := hS.cell? 1
  have s2 : _ = some (Value.int .i64 c) := hS.cell? 2
  go_wp2_with fail
  refine (ht2 _ (hL.below hB hL.size)).mono ?_
  rintro e w3 ⟨rfl, hb⟩
  have hS := hS.below hb hS.lt
  have hB := hB.trans (hb.mono hB.size)
  clear hb
  have s0 : _ = some (Value.int .i64 a) := hS.cell? 0
  have s1 : _ = some (Value.int .i64 b) := hS.cell? 1
  have s2 : _ = some (Value.int .i64 c) := hS.cell? 2
  go_wp2_with fail
  refine (hra _).mono ?_
  rintro e w4 ⟨he, hb⟩
  rw [HR.out] at he
  subst he
  have hS := hS.below hb hS.lt
  have hB := hB.trans (hb.mono hB.size)
  clear hb
  have s0 : _ = some (Value.int .i64 a) := hS.cell? 0
  have s1 : _ = some (Value.int .i64 b) := hS.cell? 1
  have s2 : _ = some (Value.int .i64 c) := hS.cell? 2
  go_wp2
  go_ret
  exact ⟨rfl, hB⟩
set_option maxRecDepth 100000 in
set_option maxHeartbeats 2000000 in
theorem rd_arg (K : Sh.Cst) (a b c d n t : Int) (w : World) (hL : Laid w) (ht1 : ∀ w, Laid w → Calls Tryd.prog 9 #[.agg #[.int .i64 a, .int .i64 b, .int .i64 c], .int .i64 d, .int .i64 n, .bool false] w fun e w' => e = .returned (.tuple #[.int .i64 0, .int .i64 1]) ∧ Below w.heap.size w w') (ht2 : ∀ w, Laid w → Calls Tryd.prog 9 #[.agg #[.int .i64 a, .int .i64 b, .int .i64 c], .int .i64 d, .int .i64 n, .bool true] w fun e w' => e = .returned (.tuple #[.int .i64 0, .int .i64 1]) ∧ Below w.heap.size w w') (hr : Du.right a b c = true) (hp : Du.poss d n = false) :
    Calls Tryd.prog 5 #[silV a b c, .int .i64 d, .int .i64 n, .int .i64 t] w fun e w' => e = .returned (.bool true) ∧ Below w.heap.size w w' := by
  have HR := Lib.hid hr
  have HP := Lib.hid hp
  have hra := rright_any a b c
  clear hr hp
  unfold silV at hra ⊢
  go_enter Tryd.func5, Tryd.ntmps5
  have hS := Ints.new w 23 .i64 [a, b, c]
  have hB := (Below.refl w.heap.size w).alloc (Nat.le_refl _) (.cells #[.int .i64 a, .int .i64 b, .int .i64 c] 23)
  go_wp2_with fail
  refine (dsane_any K _ (hL.below hB hL.size)).mono ?_
  rintro e w1 ⟨rfl, hb⟩
  have hS := hS.below hb hS.lt
  have hB := hB.trans (hb.mono hB.size)
  clear hb
  have s0 : _ = some (Value.int .i64 a) := hS.cell? 0
  have s1 : _ = some (Value.int .i64 b) := hS.cell? 1
  have s2 : _ = some (Value.int .i64 c) := hS.cell? 2
  go_wp2_with fail
  refine (ht1 _ (hL.below hB hL.size)).mono ?_
  rintro e w2 ⟨rfl, hb⟩
  have hS := hS.below hb hS.lt
  have hB := hB.trans (hb.mono hB.size)
  clear hb
  have s0 : _ = some (Value.int .i64 a) := hS.cell? 0
  have s1 : _ = some (Value.int .i64 b) := hS.cell? 1
  have s2 : _ = some (Value.int .i64 c) := hS.cell? 2
  go_wp2_with fail
  refine (ht2 _ (hL.below hB hL.size)).mono ?_
  rintro e w3 ⟨rfl, hb⟩
  have hS := hS.below hb hS.lt
  have hB := hB.trans (hb.mono hB.size)
  clear hb
  have s0 : _ = some (Value.int .i64 a) := hS.cell? 0
  have s1 : _ = some (Value.int .i64 b) := hS.cell? 1
  have s2 : _ = some (Value.int .i64 c) := hS.cell? 2
  go_wp2_with fail
  refine (hra _).mono ?_
  rintro e w4 ⟨he, hb⟩
  rw [HR.out] at he
  subst he
  have hS := hS.below hb hS.lt
  have hB := hB.trans (hb.mono hB.size)
  clear hb
  have s0 : _ = some (Value.int .i64 a) := hS.cell? 0
  have s1 : _ = some (Value.int .i64 b) := hS.cell? 1
  have s2 : _ = some (Value.int .i64 c) := hS.cell? 2
  go_wp2_with fail
  refine (rocc_any _ _ _).mono ?_
  rintro e w' ⟨he, rfl⟩
  rw [HP.out] at he
  subst he
  go_wp2
  go_ret
  exact ⟨rfl, hB⟩
set_option maxRecDepth 100000 in
set_option maxHeartbeats 2000000 in
theorem rd_nonum (K : Sh.Cst) (a b c d n t : Int) (w : World) (hL : Laid w) (p r : Int) (ht1 : ∀ w, Laid w → Calls Tryd.prog 9 #[.agg #[.int .i64 a, .int .i64 b, .int .i64 c], .int .i64 d, .int .i64 n, .bool false] w fun e w' => e = .returned (.tuple #[.int .i64 p, .int .i64 0]) ∧ Below w.heap.size w w') (ht2 : ∀ w, Laid w → Calls Tryd.prog 9 #[.agg #[.int .i64 a, .int .i64 b, .int .i64 c], .int .i64 d, .int .i64 n, .bool true] w fun e w' => e = .returned (.tuple #[.int .i64 r, .int .i64 0]) ∧ Below w.heap.size w w') (hr1 : ∀ w, Laid w → Calls Tryd.prog 11 #[.agg #[.int .i64 a, .int .i64 b, .int .i64 c], .int .i64 d, .int .i64 n, .int .i64 p] w fun e w' => e = .returned (.tuple #[.bool false, .bool true, .int .i64 0]) ∧ Below w.heap.size w w') (hr2 : ∀ w, Laid w → Calls Tryd.prog 11 #[.agg #[.int .i64 a, .int .i64 b, .int .i64 c], .int .i64 d, .int .i64 n, .int .i64 r] w fun e w' => e = .returned (.tuple #[.bool true, .bool true, .int .i64 0]) ∧ Below w.heap.size w w') (hr3 : ∀ w, Laid w → Calls Tryd.prog 11 #[.agg #[.int .i64 a, .int .i64 b, .int .i64 c], .int .i64 d, .int .i64 n, .int .i64 t] w fun e w' => e = .returned (.tuple #[.bool false, .bool false, .int .i64 1]) ∧ Below w.heap.size w w') (hnp : Du.num p = true) (hnr : Du.num r = true) (hnt : Du.num t = false) (hpr : (p == r) = false) :
    Calls Tryd.prog 5 #[silV a b c, .int .i64 d, .int .i64 n, .int .i64 t] w fun e w' => e = .returned (.bool true) ∧ Below w.heap.size w w' := by
  have HNP := Lib.hid hnp
  have HNR := Lib.hid hnr
  have HNT := Lib.hid hnt
  clear hnp hnr hnt
  unfold silV
  go_enter Tryd.func5, Tryd.ntmps5
  have hS := Ints.new w 23 .i64 [a, b, c]
  have hB := (Below.refl w.heap.size w).alloc (Nat.le_refl _) (.cells #[.int .i64 a, .int .i64 b, .int .i64 c] 23)
  go_wp2_with fail
  refine (dsane_any K _ (hL.below hB hL.size)).mono ?_
  rintro e w1 ⟨rfl, hb⟩
  have hS := hS.below hb hS.lt
  have hB := hB.trans (hb.mono hB.size)
  clear hb
  have s0 : _ = some (Value.int .i64 a) := hS.cell? 0
  have s1 : _ = some (Value.int .i64 b) := hS.cell? 1
  have s2 : _ = some (Value.int .i64 c) := hS.cell? 2
  go_wp2_with fail
  refine (ht1 _ (hL.below hB hL.size)).mono ?_
  rintro e w2 ⟨rfl, hb⟩
  have hS := hS.below hb hS.lt
  have hB := hB.trans (hb.mono hB.size)
  clear hb
  have s0 : _ = some (Value.int .i64 a) := hS.cell? 0
  have s1 : _ = some (Value.int .i64 b) := hS.cell? 1
  have s2 : _ = some (Value.int .i64 c) := hS.cell? 2
  go_wp2_with fail
  refine (ht2 _ (hL.below hB hL.size)).mono ?_
  rintro e w3 ⟨rfl, hb⟩
  have hS := hS.below hb hS.lt
  have hB := hB.trans (hb.mono hB.size)
  clear hb
  have s0 : _ = some (Value.int .i64 a) := hS.cell? 0
  have s1 : _ = some (Value.int .i64 b) := hS.cell? 1
  have s2 : _ = some (Value.int .i64 c) := hS.cell? 2
  go_wp2_with fail
  refine (hr1 _ (hL.below hB hL.size)).mono ?_
  rintro e w4 ⟨rfl, hb⟩
  have hS := hS.below hb hS.lt
  have hB := hB.trans (hb.mono hB.size)
  clear hb
  have s0 : _ = some (Value.int .i64 a) := hS.cell? 0
  have s1 : _ = some (Value.int .i64 b) := hS.cell? 1
  have s2 : _ = some (Value.int .i64 c) := hS.cell? 2
  go_wp2_with fail
  refine (hr2 _ (hL.below hB hL.size)).mono ?_
  rintro e w5 ⟨rfl, hb⟩
  have hS := hS.below hb hS.lt
  have hB := hB.trans (hb.mono hB.size)
  clear hb
  have s0 : _ = some (Value.int .i64 a) := hS.cell? 0
  have s1 : _ = some (Value.int .i64 b) := hS.cell? 1
  have s2 : _ = some (Value.int .i64 c) := hS.cell? 2
  go_wp2_with fail
  refine (hr3 _ (hL.below hB hL.size)).mono ?_
  rintro e w6 ⟨rfl, hb⟩
  have hS := hS.below hb hS.lt
  have hB := hB.trans (hb.mono hB.size)
  clear hb
  have s0 : _ = some (Value.int .i64 a) := hS.cell? 0
  have s1 : _ = some (Value.int .i64 b) := hS.cell? 1
  have s2 : _ = some (Value.int .i64 c) := hS.cell? 2
  go_wp2_with fail
  refine (rnum_any _ _).mono ?_
  rintro e w' ⟨he, rfl⟩
  rw [HNP.out] at he
  subst he
  go_wp2_with fail
  refine (rnum_any _ _).mono ?_
  rintro e w' ⟨he, rfl⟩
  rw [HNR.out] at he
  subst he
  go_wp2_with fail
  refine (rnum_any _ _).mono ?_
  rintro e w' ⟨he, rfl⟩
  rw [HNT.out] at he
  subst he
  go_wp2
  go_ret
  exact ⟨rfl, hB⟩
set_option maxRecDepth 100000 in
set_option maxHeartbeats 2000000 in
theorem rd_plain (K : Sh.Cst) (a b c d n t : Int) (w : World) (hL : Laid w) (p r : Int) (ht1 : ∀ w, Laid w → Calls Tryd.prog 9 #[.agg #[.int .i64 a, .int .i64 b, .int .i64 c], .int .i64 d, .int .i64 n, .bool false] w fun e w' => e = .returned (.tuple #[.int .i64 p, .int .i64 0]) ∧ Below w.heap.size w w') (ht2 : ∀ w, Laid w → Calls Tryd.prog 9 #[.agg #[.int .i64 a, .int .i64 b, .int .i64 c], .int .i64 d, .int .i64 n, .bool true] w fun e w' => e = .returned (.tuple #[.int .i64 r, .int .i64 0]) ∧ Below w.heap.size w w') (hr1 : ∀ w, Laid w → Calls Tryd.prog 11 #[.agg #[.int .i64 a, .int .i64 b, .int .i64 c], .int .i64 d, .int .i64 n, .int .i64 p] w fun e w' => e = .returned (.tuple #[.bool false, .bool true, .int .i64 0]) ∧ Below w.heap.size w w') (hr2 : ∀ w, Laid w → Calls Tryd.prog 11 #[.agg #[.int .i64 a, .int .i64 b, .int .i64 c], .int .i64 d, .int .i64 n, .int .i64 r] w fun e w' => e = .returned (.tuple #[.bool true, .bool true, .int .i64 0]) ∧ Below w.heap.size w w') (hr3 : ∀ w, Laid w → Calls Tryd.prog 11 #[.agg #[.int .i64 a, .int .i64 b, .int .i64 c], .int .i64 d, .int .i64 n, .int .i64 t] w fun e w' => e = .returned (.tuple #[.bool false, .bool true, .int .i64 0]) ∧ Below w.heap.size w w') (hnp : Du.num p = true) (hnr : Du.num r = true) (hnt : Du.num t = true) (hpr : (p == r) = false) (f1 : (t == p) = true) (f2 : (t == r) = false) :
    Calls Tryd.prog 5 #[silV a b c, .int .i64 d, .int .i64 n, .int .i64 t] w fun e w' => e = .returned (.bool true) ∧ Below w.heap.size w w' := by
  have HNP := Lib.hid hnp
  have HNR := Lib.hid hnr
  have HNT := Lib.hid hnt
  clear hnp hnr hnt
  unfold silV
  go_enter Tryd.func5, Tryd.ntmps5
  have hS := Ints.new w 23 .i64 [a, b, c]
  have hB := (Below.refl w.heap.size w).alloc (Nat.le_refl _) (.cells #[.int .i64 a, .int .i64 b, .int .i64 c] 23)
  go_wp2_with fail
  refine (dsane_any K _ (hL.below hB hL.size)).mono ?_
  rintro e w1 ⟨rfl, hb⟩
  have hS := hS.below hb hS.lt
  have hB := hB.trans (hb.mono hB.size)
  clear hb
  have s0 : _ = some (Value.int .i64 a) := hS.cell? 0
  have s1 : _ = some (Value.int .i64 b) := hS.cell? 1
  have s2 : _ = some (Value.int .i64 c) := hS.cell? 2
  go_wp2_with fail
  refine (ht1 _ (hL.below hB hL.size)).mono ?_
  rintro e w2 ⟨rfl, hb⟩
  have hS := hS.below hb hS.lt
  have hB := hB.trans (hb.mono hB.size)
  clear hb
  have s0 : _ = some (Value.int .i64 a) := hS.cell? 0
  have s1 : _ = some (Value.int .i64 b) := hS.cell? 1
  have s2 : _ = some (Value.int .i64 c) := hS.cell? 2
  go_wp2_with fail
  refine (ht2 _ (hL.below hB hL.size)).mono ?_
  rintro e w3 ⟨rfl, hb⟩
  have hS := hS.below hb hS.lt
  have hB := hB.trans (hb.mono hB.size)
  clear hb
  have s0 : _ = some (Value.int .i64 a) := hS.cell? 0
  have s1 : _ = some (Value.int .i64 b) := hS.cell? 1
  have s2 : _ = some (Value.int .i64 c) := hS.cell? 2
  go_wp2_with fail
  refine (hr1 _ (hL.below hB hL.size)).mono ?_
  rintro e w4 ⟨rfl, hb⟩
  have hS := hS.below hb hS.lt
  have hB := hB.trans (hb.mono hB.size)
  clear hb
  have s0 : _ = some (Value.int .i64 a) := hS.cell? 0
  have s1 : _ = some (Value.int .i64 b) := hS.cell? 1
  have s2 : _ = some (Value.int .i64 c) := hS.cell? 2
  go_wp2_with fail
  refine (hr2 _ (hL.below hB hL.size)).mono ?_
  rintro e w5 ⟨rfl, hb⟩
  have hS := hS.below hb hS.lt
  have hB := hB.trans (hb.mono hB.size)
  clear hb
  have s0 : _ = some (Value.int .i64 a) := hS.cell? 0
  have s1 : _ = some (Value.int .i64 b) := hS.cell? 1
  have s2 : _ = some (Value.int .i64 c) := hS.cell? 2
  go_wp2_with fail
  refine (hr3 _ (hL.below hB hL.size)).mono ?_
  rintro e w6 ⟨rfl, hb⟩
  have hS := hS.below hb hS.lt
  have hB := hB.trans (hb.mono hB.size)
  clear hb
  have s0 : _ = some (Value.int .i64 a) := hS.cell? 0
  have s1 : _ = some (Value.int .i64 b) := hS.cell? 1
  have s2 : _ = some (Value.int .i64 c) := hS.cell? 2
  go_wp2_with fail
  refine (rnum_any _ _).mono ?_
  rintro e w' ⟨he, rfl⟩
  rw [HNP.out] at he
  subst he
  go_wp2_with fail
  refine (rnum_any _ _).mono ?_
  rintro e w' ⟨he, rfl⟩
  rw [HNR.out] at he
  subst he
  go_wp2_with fail
  refine (rnum_any _ _).mono ?_
  rintro e w' ⟨he, rfl⟩
  rw [HNT.out] at he
  subst he
  go_wp2
  go_ret
  exact ⟨rfl, hB⟩
set_option maxRecDepth 100000 in
set_option maxHeartbeats 2000000 in
theorem rd_sil (K : Sh.Cst) (a b c d n t : Int) (w : World) (hL : Laid w) (p r : Int) (ht1 : ∀ w, Laid w → Calls Tryd.prog 9 #[.agg #[.int .i64 a, .int .i64 b, .int .i64 c], .int .i64 d, .int .i64 n, .bool false] w fun e w' => e = .returned (.tuple #[.int .i64 p, .int .i64 0]) ∧ Below w.heap.size w w') (ht2 : ∀ w, Laid w → Calls Tryd.prog 9 #[.agg #[.int .i64 a, .int .i64 b, .int .i64 c], .int .i64 d, .int .i64 n, .bool true] w fun e w' => e = .returned (.tuple #[.int .i64 r, .int .i64 0]) ∧ Below w.heap.size w w') (hr1 : ∀ w, Laid w → Calls Tryd.prog 11 #[.agg #[.int .i64 a, .int .i64 b, .int .i64 c], .int .i64 d, .int .i64 n, .int .i64 p] w fun e w' => e = .returned (.tuple #[.bool false, .bool true, .int .i64 0]) ∧ Below w.heap.size w w') (hr2 : ∀ w, Laid w → Calls Tryd.prog 11 #[.agg #[.int .i64 a, .int .i64 b, .int .i64 c], .int .i64 d, .int .i64 n, .int .i64 r] w fun e w' => e = .returned (.tuple #[.bool true, .bool true, .int .i64 0]) ∧ Below w.heap.size w w') (hr3 : ∀ w, Laid w → Calls Tryd.prog 11 #[.agg #[.int .i64 a, .int .i64 b, .int .i64 c], .int .i64 d, .int .i64 n, .int .i64 t] w fun e w' => e = .returned (.tuple #[.bool true, .bool true, .int .i64 0]) ∧ Below w.heap.size w w') (hnp : Du.num p = true) (hnr : Du.num r = true) (hnt : Du.num t = true) (hpr : (p == r) = false) (f1 : (t == p) = false) (f2 : (t == r) = true) :
    Calls Tryd.prog 5 #[silV a b c, .int .i64 d, .int .i64 n, .int .i64 t] w fun e w' => e = .returned (.bool true) ∧ Below w.heap.size w w' := by
  have HNP := Lib.hid hnp
  have HNR := Lib.hid hnr
  have HNT := Lib.hid hnt
  clear hnp hnr hnt
  unfold silV
  go_enter Tryd.func5, Tryd.ntmps5
  have hS := Ints.new w 23 .i64 [a, b, c]
  have hB := (Below.refl w.heap.size w).alloc (Nat.le_refl _) (.cells #[.int .i64 a, .int .i64 b, .int .i64 c] 23)
  go_wp2_with fail
  refine (dsane_any K _ (hL.below hB hL.size)).mono ?_
  rintro e w1 ⟨rfl, hb⟩
  have hS := hS.below hb hS.lt
  have hB := hB.trans (hb.mono hB.size)
  clear hb
  have s0 : _ = some (Value.int .i64 a) := hS.cell? 0
  have s1 : _ = some (Value.int .i64 b) := hS.cell? 1
  have s2 : _ = some (Value.int .i64 c) := hS.cell? 2
  go_wp2_with fail
  refine (ht1 _ (hL.below hB hL.size)).mono ?_
  rintro e w2 ⟨rfl, hb⟩
  have hS := hS.below hb hS.lt
  have hB := hB.trans (hb.mono hB.size)
  clear hb
  have s0 : _ = some (Value.int .i64 a) := hS.cell? 0
  have s1 : _ = some (Value.int .i64 b) := hS.cell? 1
  have s2 : _ = some (Value.int .i64 c) := hS.cell? 2
  go_wp2_with fail
  refine (ht2 _ (hL.below hB hL.size)).mono ?_
  rintro e w3 ⟨rfl, hb⟩
  have hS := hS.below hb hS.lt
  have hB := hB.trans (hb.mono hB.size)
  clear hb
  have s0 : _ = some (Value.int .i64 a) := hS.cell? 0
  have s1 : _ = some (Value.int .i64 b) := hS.cell? 1
  have s2 : _ = some (Value.int .i64 c) := hS.cell? 2
  go_wp2_with fail
  refine (hr1 _ (hL.below hB hL.size)).mono ?_
  rintro e w4 ⟨rfl, hb⟩
  have hS := hS.below hb hS.lt
  have hB := hB.trans (hb.mono hB.size)
  clear hb
  have s0 : _ = some (Value.int .i64 a) := hS.cell? 0
  have s1 : _ = some (Value.int .i64 b) := hS.cell? 1
  have s2 : _ = some (Value.int .i64 c) := hS.cell? 2
  go_wp2_with fail
  refine (hr2 _ (hL.below hB hL.size)).mono ?_
  rintro e w5 ⟨rfl, hb⟩
  have hS := hS.below hb hS.lt
  have hB := hB.trans (hb.mono hB.size)
  clear hb
  have s0 : _ = some (Value.int .i64 a) := hS.cell? 0
  have s1 : _ = some (Value.int .i64 b) := hS.cell? 1
  have s2 : _ = some (Value.int .i64 c) := hS.cell? 2
  go_wp2_with fail
  refine (hr3 _ (hL.below hB hL.size)).mono ?_
  rintro e w6 ⟨rfl, hb⟩
  have hS := hS.below hb hS.lt
  have hB := hB.trans (hb.mono hB.size)
  clear hb
  have s0 : _ = some (Value.int .i64 a) := hS.cell? 0
  have s1 : _ = some (Value.int .i64 b) := hS.cell? 1
  have s2 : _ = some (Value.int .i64 c) := hS.cell? 2
  go_wp2_with fail
  refine (rnum_any _ _).mono ?_
  rintro e w' ⟨he, rfl⟩
  rw [HNP.out] at he
  subst he
  go_wp2_with fail
  refine (rnum_any _ _).mono ?_
  rintro e w' ⟨he, rfl⟩
  rw [HNR.out] at he
  subst he
  go_wp2_with fail
  refine (rnum_any _ _).mono ?_
  rintro e w' ⟨he, rfl⟩
  rw [HNT.out] at he
  subst he
  go_wp2
  go_ret
  exact ⟨rfl, hB⟩
set_option maxRecDepth 100000 in
set_option maxHeartbeats 2000000 in
theorem rd_none (K : Sh.Cst) (a b c d n t : Int) (w : World) (hL : Laid w) (p r : Int) (ht1 : ∀ w, Laid w → Calls Tryd.prog 9 #[.agg #[.int .i64 a, .int .i64 b, .int .i64 c], .int .i64 d, .int .i64 n, .bool false] w fun e w' => e = .returned (.tuple #[.int .i64 p, .int .i64 0]) ∧ Below w.heap.size w w') (ht2 : ∀ w, Laid w → Calls Tryd.prog 9 #[.agg #[.int .i64 a, .int .i64 b, .int .i64 c], .int .i64 d, .int .i64 n, .bool true] w fun e w' => e = .returned (.tuple #[.int .i64 r, .int .i64 0]) ∧ Below w.heap.size w w') (hr1 : ∀ w, Laid w → Calls Tryd.prog 11 #[.agg #[.int .i64 a, .int .i64 b, .int .i64 c], .int .i64 d, .int .i64 n, .int .i64 p] w fun e w' => e = .returned (.tuple #[.bool false, .bool true, .int .i64 0]) ∧ Below w.heap.size w w') (hr2 : ∀ w, Laid w → Calls Tryd.prog 11 #[.agg #[.int .i64 a, .int .i64 b, .int .i64 c], .int .i64 d, .int .i64 n, .int .i64 r] w fun e w' => e = .returned (.tuple #[.bool true, .bool true, .int .i64 0]) ∧ Below w.heap.size w w') (hr3 : ∀ w, Laid w → Calls Tryd.prog 11 #[.agg #[.int .i64 a, .int .i64 b, .int .i64 c], .int .i64 d, .int .i64 n, .int .i64 t] w fun e w' => e = .returned (.tuple #[.bool false, .bool false, .int .i64 0]) ∧ Below w.heap.size w w') (hnp : Du.num p = true) (hnr : Du.num r = true) (hnt : Du.num t = true) (hpr : (p == r) = false) (f1 : (t == p) = false) (f2 : (t == r) = false) :
    Calls Tryd.prog 5 #[silV a b c, .int .i64 d, .int .i64 n, .int .i64 t] w fun e w' => e = .returned (.bool true) ∧ Below w.heap.size w w' := by
  have HNP := Lib.hid hnp
  have HNR := Lib.hid hnr
  have HNT := Lib.hid hnt
  clear hnp hnr hnt
  unfold silV
  go_enter Tryd.func5, Tryd.ntmps5
  have hS := Ints.new w 23 .i64 [a, b, c]
  have hB := (Below.refl w.heap.size w).alloc (Nat.le_refl _) (.cells #[.int .i64 a, .int .i64 b, .int .i64 c] 23)
  go_wp2_with fail
  refine (dsane_any K _ (hL.below hB hL.size)).mono ?_
  rintro e w1 ⟨rfl, hb⟩
  have hS := hS.below hb hS.lt
  have hB := hB.trans (hb.mono hB.size)
  clear hb
  have s0 : _ = some (Value.int .i64 a) := hS.cell? 0
  have s1 : _ = some (Value.int .i64 b) := hS.cell? 1
  have s2 : _ = some (Value.int .i64 c) := hS.cell? 2
  go_wp2_with fail
  refine (ht1 _ (hL.below hB hL.size)).mono ?_
  rintro e w2 ⟨rfl, hb⟩
  have hS := hS.below hb hS.lt
  have hB := hB.trans (hb.mono hB.size)
  clear hb
  have s0 : _ = some (Value.int .i64 a) := hS.cell? 0
  have s1 : _ = some (Value.int .i64 b) := hS.cell? 1
  have s2 : _ = some (Value.int .i64 c) := hS.cell? 2
  go_wp2_with fail
  refine (ht2 _ (hL.below hB hL.size)).mono ?_
  rintro e w3 ⟨rfl, hb⟩
  have hS := hS.below hb hS.lt
  have hB := hB.trans (hb.mono hB.size)
  clear hb
  have s0 : _ = some (Value.int .i64 a) := hS.cell? 0
  have s1 : _ = some (Value.int .i64 b) := hS.cell? 1
  have s2 : _ = some (Value.int .i64 c) := hS.cell? 2
  go_wp2_with fail
  refine (hr1 _ (hL.below hB hL.size)).mono ?_
  rintro e w4 ⟨rfl, hb⟩
  have hS := hS.below hb hS.lt
  have hB := hB.trans (hb.mono hB.size)
  clear hb
  have s0 : _ = some (Value.int .i64 a) := hS.cell? 0
  have s1 : _ = some (Value.int .i64 b) := hS.cell? 1
  have s2 : _ = some (Value.int .i64 c) := hS.cell? 2
  go_wp2_with fail
  refine (hr2 _ (hL.below hB hL.size)).mono ?_
  rintro e w5 ⟨rfl, hb⟩
  have hS := hS.below hb hS.lt
  have hB := hB.trans (hb.mono hB.size)
  clear hb
  have s0 : _ = some (Value.int .i64 a) := hS.cell? 0
  have s1 : _ = some (Value.int .i64 b) := hS.cell? 1
  have s2 : _ = some (Value.int .i64 c) := hS.cell? 2
  go_wp2_with fail
  refine (hr3 _ (hL.below hB hL.size)).mono ?_
  rintro e w6 ⟨rfl, hb⟩
  have hS := hS.below hb hS.lt
  have hB := hB.trans (hb.mono hB.size)
  clear hb
  have s0 : _ = some (Value.int .i64 a) := hS.cell? 0
  have s1 : _ = some (Value.int .i64 b) := hS.cell? 1
  have s2 : _ = some (Value.int .i64 c) := hS.cell? 2
  go_wp2_with fail
  refine (rnum_any _ _).mono ?_
  rintro e w' ⟨he, rfl⟩
  rw [HNP.out] at he
  subst he
  go_wp2_with fail
  refine (rnum_any _ _).mono ?_
  rintro e w' ⟨he, rfl⟩
  rw [HNR.out] at he
  subst he
  go_wp2_with fail
  refine (rnum_any _ _).mono ?_
  rintro e w' ⟨he, rfl⟩
  rw [HNT.out] at he
  subst he
  go_wp2
  go_ret
  exact ⟨rfl, hB⟩
theorem tcall (K : Sh.Cst) (a b c d n : Int) (co : Bool) {x y : Int} (h : Du.tagR K a b c d n co = (x, y)) (w : World) (hL : Laid w) : Calls Tryd.prog 9 #[.agg #[.int .i64 a, .int .i64 b, .int .i64 c], .int .i64 d, .int .i64 n, .bool co] w fun e w' => e = .returned (.tuple #[.int .i64 x, .int .i64 y]) ∧ Below w.heap.size w w' :=
  (dtag_any K a b c d n co w hL).mono fun e w' ⟨he, hb⟩ => ⟨by rw [he, h], hb⟩
theorem rcall (K : Sh.Cst) (a b c d n t : Int) {x y : Bool} {z : Int} (h : Du.readR K a b c d n t = (x, y, z)) (w : World) (hL : Laid w) : Calls Tryd.prog 11 #[.agg #[.int .i64 a, .int .i64 b, .int .i64 c], .int .i64 d, .int .i64 n, .int .i64 t] w fun e w' => e = .returned (.tuple #[.bool x, .bool y, .int .i64 z]) ∧ Below w.heap.size w w' :=
  (dread_any K a b c d n t w hL).mono fun e w' ⟨he, hb⟩ => ⟨by rw [he, h], hb⟩
theorem rd_walk (K : Sh.Cst) (a b c d n t : Int) (w : World) (hL : Laid w) :
    Calls Tryd.prog 5 #[silV a b c, .int .i64 d, .int .i64 n, .int .i64 t] w fun e w' => e = .returned (.bool true) ∧ Below w.heap.size w w' := by
  cases hr : Du.right a b c with
  | false => exact rd_silent K a b c d n t w hL (tcall K a b c d n false (Du.tagR_silent hr)) (tcall K a b c d n true (Du.tagR_silent hr)) hr
  | true =>
    cases hp : Du.poss d n with
    | false => exact rd_arg K a b c d n t w hL (tcall K a b c d n false (Du.tagR_arg hr hp)) (tcall K a b c d n true (Du.tagR_arg hr hp)) hr hp
    | true =>
      obtain ⟨_, _, hc1, hc2⟩ := Du.right_iff.1 hr
      have hnp := tag_num a b c (Du.hoI K d n) false
      have hnr := tag_num a b c (Du.hoI K d n) true
      have hne := tag_ne a b c (Du.hoI K d n) hc1 hc2
      have ht1 := tcall K a b c d n false (Du.tagR_yes hr hp)
      have ht2 := tcall K a b c d n true (Du.tagR_yes hr hp)
      have hr1 := rcall K a b c d n _ (x := false) (y := true) (z := 0) (by rw [Du.readR_yes hr hp hnp, said_plain])
      have hr2 := rcall K a b c d n _ (x := true) (y := true) (z := 0) (by rw [Du.readR_yes hr hp hnr, said_silent a b c _ hc1 hc2])
      have hpr : (Du.tag a b c (Du.hoI K d n) false == Du.tag a b c (Du.hoI K d n) true) = false := by simpa using fun e => hne e.symm
      cases hnt : Du.num t with
      | false => exact rd_nonum K a b c d n t w hL _ _ ht1 ht2 hr1 hr2 (rcall K a b c d n t (Du.readR_num hr hp hnt)) hnp hnr hnt hpr
      | true =>
        by_cases h1 : t = Du.tag a b c (Du.hoI K d n) false
        · exact rd_plain K a b c d n t w hL _ _ ht1 ht2 hr1 hr2 (rcall K a b c d n t (by rw [Du.readR_yes hr hp hnt, h1, said_plain])) hnp hnr hnt hpr (by simpa using h1) (by rw [h1]; exact hpr)
        · by_cases h2 : t = Du.tag a b c (Du.hoI K d n) true
          · exact rd_sil K a b c d n t w hL _ _ ht1 ht2 hr1 hr2 (rcall K a b c d n t (by rw [Du.readR_yes hr hp hnt, h2, said_silent a b c _ hc1 hc2])) hnp hnr hnt hpr (by simpa using h1) (by simpa using h2)
          · exact rd_none K a b c d n t w hL _ _ ht1 ht2 hr1 hr2 (rcall K a b c d n t (by rw [Du.readR_yes hr hp hnt]; unfold Du.said; rw [if_neg h1, if_neg h2])) hnp hnr hnt hpr (by simpa using h1) (by simpa using h2)
end Go.Proofs.YtllabahapaeedaaDoor
