/- Package duress: Tag, Read, Either. -/
import Derived.Test.YtllabahapaeedaaDoorDuress3
namespace Go.Proofs.YtllabahapaeedaaDoor
open Go.RowKit
set_option linter.unusedVariables false
namespace Du
def hoI (K : Sh.Cst) (d n : Int) : Int := ho K d.toNat n.toNat
def tagR (K : Sh.Cst) (a b c d n : Int) (co : Bool) : Int × Int := if right a b c then (if poss d n then (tag a b c (hoI K d n) co, 0) else (0, 1)) else (0, 470)
def readR (K : Sh.Cst) (a b c d n t : Int) : Bool × Bool × Int :=
  if right a b c then (if poss d n then (if num t then ((said a b c (hoI K d n) t).1, (said a b c (hoI K d n) t).2, 0) else (false, false, 1)) else (false, false, 1)) else (false, false, 470)
theorem tagR_silent {K : Sh.Cst} {a b c d n : Int} {co : Bool} (h : right a b c = false) : tagR K a b c d n co = (0, 470) := by simp [tagR, h]
theorem tagR_arg {K : Sh.Cst} {a b c d n : Int} {co : Bool} (h : right a b c = true) (h2 : poss d n = false) : tagR K a b c d n co = (0, 1) := by simp [tagR, h, h2]
theorem tagR_yes {K : Sh.Cst} {a b c d n : Int} {co : Bool} (h : right a b c = true) (h2 : poss d n = true) : tagR K a b c d n co = (tag a b c (hoI K d n) co, 0) := by simp [tagR, h, h2]
theorem readR_silent {K : Sh.Cst} {a b c d n t : Int} (h : right a b c = false) : readR K a b c d n t = (false, false, 470) := by simp [readR, h]
theorem readR_arg {K : Sh.Cst} {a b c d n t : Int} (h : right a b c = true) (h2 : poss d n = false) : readR K a b c d n t = (false, false, 1) := by simp [readR, h, h2]
theorem readR_num {K : Sh.Cst} {a b c d n t : Int} (h : right a b c = true) (h2 : poss d n = true) (h3 : num t = false) : readR K a b c d n t = (false, false, 1) := by simp [readR, h, h2, h3]
theorem readR_yes {K : Sh.Cst} {a b c d n t : Int} (h : right a b c = true) (h2 : poss d n = true) (h3 : num t = true) : readR K a b c d n t = ((said a b c (hoI K d n) t).1, (said a b c (hoI K d n) t).2, 0) := by simp [readR, h, h2, h3]
end Du
theorem on_yesI (K : Sh.Cst) (a b c d n : Int) (w : World) (hr : Du.right a b c = true) (hp : Du.poss d n = true) (hL : Laid w) :
    Calls Tryd.prog 22 #[silV a b c, .int .i64 d, .int .i64 n] w fun e w' => e = .returned (.tuple #[.iface 62 (occV a b c (Du.hoI K d n)), .int .i64 0]) ∧ Below w.heap.size w w' := by
  have h1 := Du.poss_iff.1 hp
  obtain ⟨d', rfl⟩ := Int.eq_ofNat_of_zero_le h1.1
  obtain ⟨n', rfl⟩ := Int.eq_ofNat_of_zero_le h1.2.2.1
  exact on_yes K a b c d' n' w hr hp hL
theorem ret2_mk {j k : IntKind} {p : Int × Int} {a b : Int} (h : p = (a, b)) : Ending.returned (.tuple #[.int j a, .int k b]) = .returned (.tuple #[.int j p.1, .int k p.2]) := by rw [h]
set_option maxRecDepth 100000 in
set_option maxHeartbeats 1000000 in
theorem dtag_any (K : Sh.Cst) (a b c d n : Int) (co : Bool) (w : World) (hL : Laid w) :
    Calls Tryd.prog 9 #[silV a b c, .int .i64 d, .int .i64 n, .bool co] w fun e w' => e = .returned (.tuple #[.int .i64 (Du.tagR K a b c d n co).1, .int .i64 (Du.tagR K a b c d n co).2]) ∧ Below w.heap.size w w' := by
  have hHL := Lib.hid (hL.below ((Below.refl w.heap.size w).alloc (Nat.le_refl _) (.cells #[.int .i64 a, .int .i64 b, .int .i64 c] 23)) hL.size)
  cases hr : Du.right a b c with
  | false =>
    have hon := fun w => on_silent a b c d n w hr
    have H := Lib.hid (Du.tagR_silent (K := K) (d := d) (n := n) (co := co) hr)
    clear hr
    generalize Du.tagR K a b c d n co = R at *
    unfold silV at hon ⊢
    go_enter Tryd.func9, Tryd.ntmps9
    go_wp2_with fail
    refine (hon _).mono ?_
    rintro e w1 ⟨rfl, hb1⟩
    have hB1 := ((Below.refl w.heap.size w).alloc (Nat.le_refl _) _).trans (hb1.mono (by simp))
    go_wp2
    go_ret2
    exact ⟨ret2_mk H.out, hB1⟩
  | true =>
    cases hp : Du.poss d n with
    | false =>
      have hon := fun w => on_arg a b c d n w hr hp
      have H := Lib.hid (Du.tagR_arg (K := K) (co := co) hr hp)
      clear hr hp
      generalize Du.tagR K a b c d n co = R at *
      unfold silV at hon ⊢
      go_enter Tryd.func9, Tryd.ntmps9
      go_wp2_with fail
      refine (hon _).mono ?_
      rintro e w1 ⟨rfl, hb1⟩
      have hB1 := ((Below.refl w.heap.size w).alloc (Nat.le_refl _) _).trans (hb1.mono (by simp))
      go_wp2
      go_ret2
      exact ⟨ret2_mk H.out, hB1⟩
    | true =>
      have hon := fun w hL => on_yesI K a b c d n w hr hp hL
      have H := Lib.hid (Du.tagR_yes (K := K) (co := co) hr hp)
      have ht := tag_any a b c (Du.hoI K d n) co
      clear hr hp
      generalize Du.tagR K a b c d n co = R at *
      generalize Du.hoI K d n = h at *
      generalize Du.tag a b c h co = T at *
      unfold silV at hon ⊢
      unfold occV at hon ht
      go_enter Tryd.func9, Tryd.ntmps9
      go_wp2_with fail
      refine (hon _ hHL.out).mono ?_
      rintro e w1 ⟨rfl, hb1⟩
      have hB1 := ((Below.refl w.heap.size w).alloc (Nat.le_refl _) _).trans (hb1.mono (by simp))
      clear hb1 hon
      go_wp2_with fail
      refine (ht _).mono ?_
      rintro e w2 ⟨rfl, hb2⟩
      go_wp2
      go_ret2
      exact ⟨ret2_mk H.out, hB1.trans (hb2.mono hB1.size)⟩
theorem ret3_mk {k : IntKind} {p : Bool × Bool × Int} {a b : Bool} {c : Int} (h : p = (a, b, c)) : Ending.returned (.tuple #[.bool a, .bool b, .int k c]) = .returned (.tuple #[.bool p.1, .bool p.2.1, .int k p.2.2]) := by rw [h]
set_option maxRecDepth 100000 in
set_option maxHeartbeats 1000000 in
theorem dread_any (K : Sh.Cst) (a b c d n t : Int) (w : World) (hL : Laid w) :
    Calls Tryd.prog 11 #[silV a b c, .int .i64 d, .int .i64 n, .int .i64 t] w fun e w' => e = .returned (.tuple #[.bool (Du.readR K a b c d n t).1, .bool (Du.readR K a b c d n t).2.1, .int .i64 (Du.readR K a b c d n t).2.2]) ∧ Below w.heap.size w w' := by
  have hHL := Lib.hid (hL.below ((Below.refl w.heap.size w).alloc (Nat.le_refl _) (.cells #[.int .i64 a, .int .i64 b, .int .i64 c] 23)) hL.size)
  cases hr : Du.right a b c with
  | false =>
    have hon := fun w => on_silent a b c d n w hr
    have H := Lib.hid (Du.readR_silent (K := K) (d := d) (n := n) (t := t) hr)
    clear hr
    generalize Du.readR K a b c d n t = R at *
    unfold silV at hon ⊢
    go_enter Tryd.func11, Tryd.ntmps11
    go_wp2_with fail
    refine (hon _).mono ?_
    rintro e w1 ⟨rfl, hb1⟩
    have hB1 := ((Below.refl w.heap.size w).alloc (Nat.le_refl _) _).trans (hb1.mono (by simp))
    go_wp2
    go_ret3
    exact ⟨ret3_mk H.out, hB1⟩
  | true =>
    cases hp : Du.poss d n with
    | false =>
      have hon := fun w => on_arg a b c d n w hr hp
      have H := Lib.hid (Du.readR_arg (K := K) (t := t) hr hp)
      clear hr hp
      generalize Du.readR K a b c d n t = R at *
      unfold silV at hon ⊢
      go_enter Tryd.func11, Tryd.ntmps11
      go_wp2_with fail
      refine (hon _).mono ?_
      rintro e w1 ⟨rfl, hb1⟩
      have hB1 := ((Below.refl w.heap.size w).alloc (Nat.le_refl _) _).trans (hb1.mono (by simp))
      go_wp2
      go_ret3
      exact ⟨ret3_mk H.out, hB1⟩
    | true =>
      have hon := fun w hL => on_yesI K a b c d n w hr hp hL
      cases hn : Du.num t with
      | false =>
        have H := Lib.hid (Du.readR_num (K := K) hr hp hn)
        have HN := Lib.hid hn
        clear hr hp hn
        generalize Du.readR K a b c d n t = R at *
        generalize Du.hoI K d n = h at *
        unfold silV at hon ⊢
        unfold occV at hon
        go_enter Tryd.func11, Tryd.ntmps11
        go_wp2_with fail
        refine (hon _ hHL.out).mono ?_
        rintro e w1 ⟨rfl, hb1⟩
        have hB1 := ((Below.refl w.heap.size w).alloc (Nat.le_refl _) _).trans (hb1.mono (by simp))
        clear hb1 hon
        go_wp2_with fail
        refine (number_any _ _).mono ?_
        rintro e w' ⟨he, rfl⟩
        rw [HN.out] at he
        subst he
        go_wp2
        go_ret3
        exact ⟨ret3_mk H.out, hB1⟩
      | true =>
        have H := Lib.hid (Du.readR_yes (K := K) hr hp hn)
        have HN := Lib.hid hn
        have ht := read_occ a b c (Du.hoI K d n) t
        clear hr hp hn
        generalize Du.readR K a b c d n t = R at *
        generalize Du.hoI K d n = h at *
        generalize Du.said a b c h t = S at *
        unfold silV at hon ⊢
        unfold occV at hon ht
        go_enter Tryd.func11, Tryd.ntmps11
        go_wp2_with fail
        refine (hon _ hHL.out).mono ?_
        rintro e w1 ⟨rfl, hb1⟩
        have hB1 := ((Below.refl w.heap.size w).alloc (Nat.le_refl _) _).trans (hb1.mono (by simp))
        clear hb1 hon
        go_wp2_with fail
        refine (number_any _ _).mono ?_
        rintro e w' ⟨he, rfl⟩
        rw [HN.out] at he
        subst he
        go_wp2_with fail
        refine (ht _).mono ?_
        rintro e w2 ⟨rfl, hb2⟩
        go_wp2
        go_ret3
        exact ⟨ret3_mk H.out, hB1.trans (hb2.mono hB1.size)⟩
end Go.Proofs.YtllabahapaeedaaDoor
