/- The reference's Tag and Read, given that its Hash is the hash; the walk of DuressSpec. -/
import Derived.Test.YtllabahapaeedaaDoorDuReadWalk
namespace Go.Proofs.YtllabahapaeedaaDoor
open Go.RowKit
set_option linter.unusedVariables false
/-- the reference's Hash answers the hash -/
def RHash (K : Sh.Cst) : Prop := ∀ (d n : Int) (w : World), Du.poss d n = true → Calls Tryd.prog 25 #[.int .i64 d, .int .i64 n] w fun e w' => e = .returned (.int .i64 (Du.hoI K d n)) ∧ Below w.heap.size w w'
theorem undraw2 {B : Nat} {w w' : World} (h : Below B w.drew w') : Below B w w' := ⟨h.os, h.tape, h.output, h.size, h.block⟩
set_option maxRecDepth 100000 in
set_option maxHeartbeats 2000000 in
theorem rtag_silent_true (K : Sh.Cst) (RH : RHash K) (a b c d n : Int) (w : World) (hr : Du.right a b c = false) :
    Calls Tryd.prog 10 #[silV a b c, .int .i64 d, .int .i64 n, .bool true] w fun e w' => e = .returned (.tuple #[.int .i64 0, .int .i64 470]) ∧ Below w.heap.size w w' := by
  have HR := Lib.hid hr
  have hra := rright_any a b c
  clear hr
  unfold silV at hra ⊢
  go_enter Tryd.func10, Tryd.ntmps10
  have hS := Ints.new w 23 .i64 [a, b, c]
  have hB := (Below.refl w.heap.size w).alloc (Nat.le_refl _) (.cells #[.int .i64 a, .int .i64 b, .int .i64 c] 23)
  have s0 : _ = some (Value.int .i64 a) := hS.cell? 0
  have s1 : _ = some (Value.int .i64 b) := hS.cell? 1
  have s2 : _ = some (Value.int .i64 c) := hS.cell? 2
  go_wp2_with fail
  refine (hra _).mono ?_
  rintro e w1 ⟨he, hb⟩
  rw [HR.out] at he
  subst he
  clear s0 s1 s2
  have hS := hS.below hb hS.lt
  have hB := hB.trans (hb.mono hB.size)
  clear hb
  have s0 : _ = some (Value.int .i64 a) := hS.cell? 0
  have s1 : _ = some (Value.int .i64 b) := hS.cell? 1
  have s2 : _ = some (Value.int .i64 c) := hS.cell? 2
  go_wp2
  go_ret2
  exact ⟨rfl, hB⟩
set_option maxRecDepth 100000 in
set_option maxHeartbeats 2000000 in
theorem rtag_arg_true (K : Sh.Cst) (RH : RHash K) (a b c d n : Int) (w : World) (hr : Du.right a b c = true) (hp : Du.poss d n = false) :
    Calls Tryd.prog 10 #[silV a b c, .int .i64 d, .int .i64 n, .bool true] w fun e w' => e = .returned (.tuple #[.int .i64 0, .int .i64 1]) ∧ Below w.heap.size w w' := by
  have HR := Lib.hid hr
  have HP := Lib.hid hp
  have hra := rright_any a b c
  clear hr hp
  unfold silV at hra ⊢
  go_enter Tryd.func10, Tryd.ntmps10
  have hS := Ints.new w 23 .i64 [a, b, c]
  have hB := (Below.refl w.heap.size w).alloc (Nat.le_refl _) (.cells #[.int .i64 a, .int .i64 b, .int .i64 c] 23)
  have s0 : _ = some (Value.int .i64 a) := hS.cell? 0
  have s1 : _ = some (Value.int .i64 b) := hS.cell? 1
  have s2 : _ = some (Value.int .i64 c) := hS.cell? 2
  go_wp2_with fail
  refine (hra _).mono ?_
  rintro e w1 ⟨he, hb⟩
  rw [HR.out] at he
  subst he
  clear s0 s1 s2
  have hS := hS.below hb hS.lt
  have hB := hB.trans (hb.mono hB.size)
  clear hb
  have s0 : _ = some (Value.int .i64 a) := hS.cell? 0
  have s1 : _ = some (Value.int .i64 b) := hS.cell? 1
  have s2 : _ = some (Value.int .i64 c) := hS.cell? 2
  go_wp2_with fail
  refine (rocc_any _ _ _).mono ?_
  rintro e w' ⟨he, rfl⟩
  rw [HP.out] at he
  subst he
  go_wp2
  go_ret2
  exact ⟨rfl, hB⟩
set_option maxRecDepth 100000 in
set_option maxHeartbeats 2000000 in
theorem rtag_yes_true (K : Sh.Cst) (RH : RHash K) (a b c d n : Int) (w : World) (hr : Du.right a b c = true) (hp : Du.poss d n = true) :
    Calls Tryd.prog 10 #[silV a b c, .int .i64 d, .int .i64 n, .bool true] w fun e w' => e = .returned (.tuple #[.int .i64 (Du.tag a b c (Du.hoI K d n) true), .int .i64 0]) ∧ Below w.heap.size w w' := by
  have hh := fun w => RH d n w hp
  have HR := Lib.hid hr
  have HP := Lib.hid hp
  have hra := rright_any a b c
  clear hr hp
  have hm := fun w => rmul_any b (Du.hoI K d n) w
  have ha := fun w => radd_any a (Fm.ml b (Du.hoI K d n)) w
  have hc := fun w => radd_any (Fm.ad a (Fm.ml b (Du.hoI K d n))) c w
  have HT : Hid (Du.tag a b c (Du.hoI K d n) true = Fm.ad (Fm.ad a (Fm.ml b (Du.hoI K d n))) c) := rfl
  generalize Du.tag a b c (Du.hoI K d n) true = T at *
  generalize Fm.ad (Fm.ad a (Fm.ml b (Du.hoI K d n))) c = Y at *
  generalize Fm.ad a (Fm.ml b (Du.hoI K d n)) = X at *
  generalize Fm.ml b (Du.hoI K d n) = M at *
  generalize Du.hoI K d n = h at *
  unfold silV at hra ⊢
  go_enter Tryd.func10, Tryd.ntmps10
  have hS := Ints.new w 23 .i64 [a, b, c]
  have hB := (Below.refl w.heap.size w).alloc (Nat.le_refl _) (.cells #[.int .i64 a, .int .i64 b, .int .i64 c] 23)
  have s0 : _ = some (Value.int .i64 a) := hS.cell? 0
  have s1 : _ = some (Value.int .i64 b) := hS.cell? 1
  have s2 : _ = some (Value.int .i64 c) := hS.cell? 2
  go_wp2_with fail
  refine (hra _).mono ?_
  rintro e w1 ⟨he, hb⟩
  rw [HR.out] at he
  subst he
  clear s0 s1 s2
  have hS := hS.below hb hS.lt
  have hB := hB.trans (hb.mono hB.size)
  clear hb
  have s0 : _ = some (Value.int .i64 a) := hS.cell? 0
  have s1 : _ = some (Value.int .i64 b) := hS.cell? 1
  have s2 : _ = some (Value.int .i64 c) := hS.cell? 2
  go_wp2_with fail
  refine (rocc_any _ _ _).mono ?_
  rintro e w' ⟨he, rfl⟩
  rw [HP.out] at he
  subst he
  go_wp2
  have hl := hS.lt
  go_region_held3 (fun w' => w'.cell? ⟨w.heap.size, 0, none⟩ = some (.int .i64 a) ∧ w'.cell? ⟨w.heap.size, 1, none⟩ = some (.int .i64 b))
    (first | (go_keep; done) | exact ⟨(hk3 ⟨w.heap.size, 0, none⟩ hl).trans s0, (hk3 ⟨w.heap.size, 1, none⟩ hl).trans s1⟩)
    ((first | (go_at_call 25; (refine (hh _).mono ?_); rintro e w2 ⟨rfl, hb3⟩; have hk3 := bel_keep hb3) | (go_at_call 24; (refine (hm _).mono ?_); rintro e w' ⟨rfl, rfl⟩) | (go_at_call 23; (refine (ha _).mono ?_); rintro e w' ⟨rfl, rfl⟩)))
  have hb := undraw2 hb3
  clear hb3 hk3 s0 s1 s2
  have hS := hS.below hb hS.lt
  have hB := hB.trans (hb.mono hB.size)
  clear hb
  have s0 : _ = some (Value.int .i64 a) := hS.cell? 0
  have s1 : _ = some (Value.int .i64 b) := hS.cell? 1
  have s2 : _ = some (Value.int .i64 c) := hS.cell? 2
  go_wp2_with fail
  refine (hc _).mono ?_
  rintro e w' ⟨rfl, rfl⟩
  have h9 := HT.out
  subst h9
  go_wp2
  go_ret2
  exact ⟨rfl, hB⟩
set_option maxRecDepth 100000 in
set_option maxHeartbeats 2000000 in
theorem rtag_silent_false (K : Sh.Cst) (RH : RHash K) (a b c d n : Int) (w : World) (hr : Du.right a b c = false) :
    Calls Tryd.prog 10 #[silV a b c, .int .i64 d, .int .i64 n, .bool false] w fun e w' => e = .returned (.tuple #[.int .i64 0, .int .i64 470]) ∧ Below w.heap.size w w' := by
  have HR := Lib.hid hr
  have hra := rright_any a b c
  clear hr
  unfold silV at hra ⊢
  go_enter Tryd.func10, Tryd.ntmps10
  have hS := Ints.new w 23 .i64 [a, b, c]
  have hB := (Below.refl w.heap.size w).alloc (Nat.le_refl _) (.cells #[.int .i64 a, .int .i64 b, .int .i64 c] 23)
  have s0 : _ = some (Value.int .i64 a) := hS.cell? 0
  have s1 : _ = some (Value.int .i64 b) := hS.cell? 1
  have s2 : _ = some (Value.int .i64 c) := hS.cell? 2
  go_wp2_with fail
  refine (hra _).mono ?_
  rintro e w1 ⟨he, hb⟩
  rw [HR.out] at he
  subst he
  clear s0 s1 s2
  have hS := hS.below hb hS.lt
  have hB := hB.trans (hb.mono hB.size)
  clear hb
  have s0 : _ = some (Value.int .i64 a) := hS.cell? 0
  have s1 : _ = some (Value.int .i64 b) := hS.cell? 1
  have s2 : _ = some (Value.int .i64 c) := hS.cell? 2
  go_wp2
  go_ret2
  exact ⟨rfl, hB⟩
set_option maxRecDepth 100000 in
set_option maxHeartbeats 2000000 in
theorem rtag_arg_false (K : Sh.Cst) (RH : RHash K) (a b c d n : Int) (w : World) (hr : Du.right a b c = true) (hp : Du.poss d n = false) :
    Calls Tryd.prog 10 #[silV a b c, .int .i64 d, .int .i64 n, .bool false] w fun e w' => e = .returned (.tuple #[.int .i64 0, .int .i64 1]) ∧ Below w.heap.size w w' := by
  have HR := Lib.hid hr
  have HP := Lib.hid hp
  have hra := rright_any a b c
  clear hr hp
  unfold silV at hra ⊢
  go_enter Tryd.func10, Tryd.ntmps10
  have hS := Ints.new w 23 .i64 [a, b, c]
  have hB := (Below.refl w.heap.size w).alloc (Nat.le_refl _) (.cells #[.int .i64 a, .int .i64 b, .int .i64 c] 23)
  have s0 : _ = some (Value.int .i64 a) := hS.cell? 0
  have s1 : _ = some (Value.int .i64 b) := hS.cell? 1
  have s2 : _ = some (Value.int .i64 c) := hS.cell? 2
  go_wp2_with fail
  refine (hra _).mono ?_
  rintro e w1 ⟨he, hb⟩
  rw [HR.out] at he
  subst he
  clear s0 s1 s2
  have hS := hS.below hb hS.lt
  have hB := hB.trans (hb.mono hB.size)
  clear hb
  have s0 : _ = some (Value.int .i64 a) := hS.cell? 0
  have s1 : _ = some (Value.int .i64 b) := hS.cell? 1
  have s2 : _ = some (Value.int .i64 c) := hS.cell? 2
  go_wp2_with fail
  refine (rocc_any _ _ _).mono ?_
  rintro e w' ⟨he, rfl⟩
  rw [HP.out] at he
  subst he
  go_wp2
  go_ret2
  exact ⟨rfl, hB⟩
set_option maxRecDepth 100000 in
set_option maxHeartbeats 2000000 in
theorem rtag_yes_false (K : Sh.Cst) (RH : RHash K) (a b c d n : Int) (w : World) (hr : Du.right a b c = true) (hp : Du.poss d n = true) :
    Calls Tryd.prog 10 #[silV a b c, .int .i64 d, .int .i64 n, .bool false] w fun e w' => e = .returned (.tuple #[.int .i64 (Du.tag a b c (Du.hoI K d n) false), .int .i64 0]) ∧ Below w.heap.size w w' := by
  have hh := fun w => RH d n w hp
  have HR := Lib.hid hr
  have HP := Lib.hid hp
  have hra := rright_any a b c
  clear hr hp
  have hm := fun w => rmul_any b (Du.hoI K d n) w
  have ha := fun w => radd_any a (Fm.ml b (Du.hoI K d n)) w
  have HT : Hid (Du.tag a b c (Du.hoI K d n) false = Fm.ad a (Fm.ml b (Du.hoI K d n))) := rfl
  generalize Du.tag a b c (Du.hoI K d n) false = T at *
  generalize Fm.ad a (Fm.ml b (Du.hoI K d n)) = X at *
  generalize Fm.ml b (Du.hoI K d n) = M at *
  generalize Du.hoI K d n = h at *
  unfold silV at hra ⊢
  go_enter Tryd.func10, Tryd.ntmps10
  have hS := Ints.new w 23 .i64 [a, b, c]
  have hB := (Below.refl w.heap.size w).alloc (Nat.le_refl _) (.cells #[.int .i64 a, .int .i64 b, .int .i64 c] 23)
  have s0 : _ = some (Value.int .i64 a) := hS.cell? 0
  have s1 : _ = some (Value.int .i64 b) := hS.cell? 1
  have s2 : _ = some (Value.int .i64 c) := hS.cell? 2
  go_wp2_with fail
  refine (hra _).mono ?_
  rintro e w1 ⟨he, hb⟩
  rw [HR.out] at he
  subst he
  clear s0 s1 s2
  have hS := hS.below hb hS.lt
  have hB := hB.trans (hb.mono hB.size)
  clear hb
  have s0 : _ = some (Value.int .i64 a) := hS.cell? 0
  have s1 : _ = some (Value.int .i64 b) := hS.cell? 1
  have s2 : _ = some (Value.int .i64 c) := hS.cell? 2
  go_wp2_with fail
  refine (rocc_any _ _ _).mono ?_
  rintro e w' ⟨he, rfl⟩
  rw [HP.out] at he
  subst he
  go_wp2
  have hl := hS.lt
  go_region_held3 (fun w' => w'.cell? ⟨w.heap.size, 0, none⟩ = some (.int .i64 a) ∧ w'.cell? ⟨w.heap.size, 1, none⟩ = some (.int .i64 b))
    (first | (go_keep; done) | exact ⟨(hk3 ⟨w.heap.size, 0, none⟩ hl).trans s0, (hk3 ⟨w.heap.size, 1, none⟩ hl).trans s1⟩)
    ((first | (go_at_call 25; (refine (hh _).mono ?_); rintro e w2 ⟨rfl, hb3⟩; have hk3 := bel_keep hb3) | (go_at_call 24; (refine (hm _).mono ?_); rintro e w' ⟨rfl, rfl⟩) | (go_at_call 23; (refine (ha _).mono ?_); rintro e w' ⟨rfl, rfl⟩)))
  have hb := undraw2 hb3
  clear hb3 hk3 s0 s1 s2
  have hS := hS.below hb hS.lt
  have hB := hB.trans (hb.mono hB.size)
  clear hb
  have s0 : _ = some (Value.int .i64 a) := hS.cell? 0
  have s1 : _ = some (Value.int .i64 b) := hS.cell? 1
  have s2 : _ = some (Value.int .i64 c) := hS.cell? 2
  have h9 := HT.out
  subst h9
  go_wp2
  go_ret2
  exact ⟨rfl, hB⟩
theorem rtag_any (K : Sh.Cst) (RH : RHash K) (a b c d n : Int) (co : Bool) (w : World) :
    Calls Tryd.prog 10 #[silV a b c, .int .i64 d, .int .i64 n, .bool co] w fun e w' => e = .returned (.tuple #[.int .i64 (Du.tagR K a b c d n co).1, .int .i64 (Du.tagR K a b c d n co).2]) ∧ Below w.heap.size w w' := by
  cases hr : Du.right a b c with
  | false =>
    rw [Du.tagR_silent hr]
    cases co with
    | false => exact rtag_silent_false K RH a b c d n w hr
    | true => exact rtag_silent_true K RH a b c d n w hr
  | true =>
    cases hp : Du.poss d n with
    | false =>
      rw [Du.tagR_arg hr hp]
      cases co with
      | false => exact rtag_arg_false K RH a b c d n w hr hp
      | true => exact rtag_arg_true K RH a b c d n w hr hp
    | true =>
      rw [Du.tagR_yes hr hp]
      cases co with
      | false => exact rtag_yes_false K RH a b c d n w hr hp
      | true => exact rtag_yes_true K RH a b c d n w hr hp
end Go.Proofs.YtllabahapaeedaaDoor
