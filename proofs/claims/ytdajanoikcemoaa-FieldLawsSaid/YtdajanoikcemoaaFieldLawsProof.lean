/- For all integers a, b, c the law FieldLaws returns true: the laws of a field hold of Mod, Add, Mul and Inverse. No condition. -/
import Derived.Test.YtdajanoikcemoaaRows
import Derived.Test.YtdajanoikcemoaaFieldSane
import Derived.WalkKit
import Derived.ProofKit
import Derived.OpenShut
import Derived.ChangeOld
import Derived.Below
namespace Go.Proofs.Ytdajanoikcemoaa.fieldLaws
open Go.ChangeShapes Go.WideShapes Go.ChangeAt Go.RowKit
set_option linter.unusedVariables false

theorem own : ownKnob Try.prog.godebug = none := by kernel_rfl
theorem laidOut : laidOutB Try.prog = true := by kernel_rfl
theorem mdmd (a : Int) : Fm.md (Fm.md a) = Fm.md a := Fm.cg_md a
theorem subm {a : Int} (h : 0 ≤ a) : (a - Fm.md a).tmod 1073741789 = 0 := by
  have h1 := Fm.md_lo a
  unfold Fm.md at *
  rw [Int.tmod_eq_emod_of_nonneg (by omega)]
  omega
theorem inr {x : Int} (h1 : 0 ≤ x) (h2 : x < 1073741789) : decide (0 ≤ x ∧ x < 1073741789) = true := by simp [h1, h2]
set_option maxRecDepth 100000 in
set_option maxHeartbeats 8000000 in
theorem walk (a b c : Int) (w : World) (ha : (Lit.int .i64 a).wf = true) (_ : (Lit.int .i64 b).wf = true) (_ : (Lit.int .i64 c).wf = true) :
    Calls Try.prog 5 #[.int .i64 a, .int .i64 b, .int .i64 c] w fun e w' => e = .returned (.bool true) ∧ Below w.heap.size w w' := by
  have n1 := inr (Fm.md_lo a) (Fm.md_hi a)
  have n2 := inr (Fm.md_lo b) (Fm.md_hi b)
  have n3 := inr (Fm.md_lo c) (Fm.md_hi c)
  have n4 := inr (Fm.inv_lo a) (Fm.inv_hi a)
  have b1 := Fm.md_lo a
  have b2 := Fm.md_hi a
  have E0 := mdmd a
  have E1 : Fm.ad (Fm.md b) (Fm.md a) = Fm.ad a b := by rw [Fm.ad_cg (Fm.cg_md b) (Fm.cg_md a)]; unfold Fm.ad; rw [Int.add_comm]
  have E2 : Fm.ml (Fm.md b) (Fm.md a) = Fm.ml a b := by rw [Fm.ml_cg (Fm.cg_md b) (Fm.cg_md a)]; unfold Fm.ml; rw [Int.mul_comm]
  have E3 : Fm.ad (Fm.ad a b) c = Fm.ad a (Fm.ad b c) := by rw [Fm.ad_cg (Fm.cg_ad a b) (Fm.cg_refl c), Fm.ad_cg (Fm.cg_refl a) (Fm.cg_ad b c)]; unfold Fm.ad; rw [Int.add_assoc]
  have E4 : Fm.ml (Fm.ml a b) c = Fm.ml a (Fm.ml b c) := by rw [Fm.ml_cg (Fm.cg_ml a b) (Fm.cg_refl c), Fm.ml_cg (Fm.cg_refl a) (Fm.cg_ml b c)]; unfold Fm.ml; rw [Int.mul_assoc]
  have E5 : Fm.ml a (Fm.ad b c) = Fm.ad (Fm.ml a b) (Fm.ml a c) := by rw [Fm.ml_cg (Fm.cg_refl a) (Fm.cg_ad b c), Fm.ad_cg (Fm.cg_ml a b) (Fm.cg_ml a c)]; unfold Fm.ml Fm.ad; rw [Int.mul_add]
  have E6 : Fm.ad a 0 = Fm.md a := by unfold Fm.ad Fm.md; rw [Int.add_zero]
  have E7 : Fm.ml a 1 = Fm.md a := by unfold Fm.ml Fm.md; rw [Int.mul_one]
  have E8 : Fm.ad (Fm.md a) (-Fm.md a) = 0 := by unfold Fm.ad; rw [Int.add_right_neg]; rfl
  have HM := Lib.hid (Fm.mul_zero_iff (a := a) (b := b))
  have HS : Hid (∀ _ : 0 ≤ a, (a - Fm.md a).tmod 1073741789 = 0) := subm
  have E9 : ∀ u v : Bool, (Fm.md a == 0) = u → (Fm.md b == 0) = v → (Fm.ml a b == 0) = (u || v) := by
    intro u v h1 h2
    rw [← h1, ← h2, Bool.eq_iff_iff]
    simp only [Bool.or_eq_true, beq_iff_eq]
    exact HM.out
  clear HM
  have bd := bounds_i64 ha
  rcases Int.lt_or_le a 0 with hs | hs
  · clear HS
    by_cases hx : Fm.md a = 0
    · have I1 := Fm.inv_zero hx
      have I2 := Fm.invE_zero hx
      have t1 : (Fm.md a == 0) = true := beq_iff_eq.2 hx
      by_cases hy : Fm.md b = 0
      · have t2 : (Fm.md b == 0) = true := beq_iff_eq.2 hy
        have t3 := E9 _ _ t1 t2
        clear E9 hx hy
        go_enter Try.func5, Try.ntmps5
        go_wp2_with fail
        refine (sane_any _).mono ?_
        rintro e w1 ⟨rfl, hb⟩
        go_wp2_with (first | (go_at_call 10; refine (inv_any _ _).mono ?_; rintro e w' ⟨rfl, rfl⟩) | (go_at_call 23; refine (in_any _ _).mono ?_; rintro e w' ⟨rfl, rfl⟩) | (go_at_call 12; refine (mod_any _ _).mono ?_; rintro e w' ⟨rfl, rfl⟩) | (go_at_call 14; refine (add_any _ _ _).mono ?_; rintro e w' ⟨rfl, rfl⟩) | (go_at_call 16; refine (mul_any _ _ _).mono ?_; rintro e w' ⟨rfl, rfl⟩))
        all_goals (go_ret; have hbs := hb.size; exact ⟨rfl, by go_grown⟩)
      · have t2 : (Fm.md b == 0) = false := beq_eq_false_iff_ne.2 hy
        have t3 := E9 _ _ t1 t2
        clear E9 hx hy
        go_enter Try.func5, Try.ntmps5
        go_wp2_with fail
        refine (sane_any _).mono ?_
        rintro e w1 ⟨rfl, hb⟩
        go_wp2_with (first | (go_at_call 10; refine (inv_any _ _).mono ?_; rintro e w' ⟨rfl, rfl⟩) | (go_at_call 23; refine (in_any _ _).mono ?_; rintro e w' ⟨rfl, rfl⟩) | (go_at_call 12; refine (mod_any _ _).mono ?_; rintro e w' ⟨rfl, rfl⟩) | (go_at_call 14; refine (add_any _ _ _).mono ?_; rintro e w' ⟨rfl, rfl⟩) | (go_at_call 16; refine (mul_any _ _ _).mono ?_; rintro e w' ⟨rfl, rfl⟩))
        all_goals (go_ret; have hbs := hb.size; exact ⟨rfl, by go_grown⟩)
    · have I2 := Fm.invE_ne hx
      have I3 := Fm.ml_inv hx
      have t1 : (Fm.md a == 0) = false := beq_eq_false_iff_ne.2 hx
      by_cases hy : Fm.md b = 0
      · have t2 : (Fm.md b == 0) = true := beq_iff_eq.2 hy
        have t3 := E9 _ _ t1 t2
        clear E9 hx hy
        go_enter Try.func5, Try.ntmps5
        go_wp2_with fail
        refine (sane_any _).mono ?_
        rintro e w1 ⟨rfl, hb⟩
        go_wp2_with (first | (go_at_call 10; refine (inv_any _ _).mono ?_; rintro e w' ⟨rfl, rfl⟩) | (go_at_call 23; refine (in_any _ _).mono ?_; rintro e w' ⟨rfl, rfl⟩) | (go_at_call 12; refine (mod_any _ _).mono ?_; rintro e w' ⟨rfl, rfl⟩) | (go_at_call 14; refine (add_any _ _ _).mono ?_; rintro e w' ⟨rfl, rfl⟩) | (go_at_call 16; refine (mul_any _ _ _).mono ?_; rintro e w' ⟨rfl, rfl⟩))
        all_goals (go_ret; have hbs := hb.size; exact ⟨rfl, by go_grown⟩)
      · have t2 : (Fm.md b == 0) = false := beq_eq_false_iff_ne.2 hy
        have t3 := E9 _ _ t1 t2
        clear E9 hx hy
        go_enter Try.func5, Try.ntmps5
        go_wp2_with fail
        refine (sane_any _).mono ?_
        rintro e w1 ⟨rfl, hb⟩
        go_wp2_with (first | (go_at_call 10; refine (inv_any _ _).mono ?_; rintro e w' ⟨rfl, rfl⟩) | (go_at_call 23; refine (in_any _ _).mono ?_; rintro e w' ⟨rfl, rfl⟩) | (go_at_call 12; refine (mod_any _ _).mono ?_; rintro e w' ⟨rfl, rfl⟩) | (go_at_call 14; refine (add_any _ _ _).mono ?_; rintro e w' ⟨rfl, rfl⟩) | (go_at_call 16; refine (mul_any _ _ _).mono ?_; rintro e w' ⟨rfl, rfl⟩))
        all_goals (go_ret; have hbs := hb.size; exact ⟨rfl, by go_grown⟩)
  · have hp := HS.out hs
    clear HS
    by_cases hx : Fm.md a = 0
    · have I1 := Fm.inv_zero hx
      have I2 := Fm.invE_zero hx
      have t1 : (Fm.md a == 0) = true := beq_iff_eq.2 hx
      by_cases hy : Fm.md b = 0
      · have t2 : (Fm.md b == 0) = true := beq_iff_eq.2 hy
        have t3 := E9 _ _ t1 t2
        clear E9 hx hy
        go_enter Try.func5, Try.ntmps5
        go_wp2_with fail
        refine (sane_any _).mono ?_
        rintro e w1 ⟨rfl, hb⟩
        go_wp2_with (first | (go_at_call 10; refine (inv_any _ _).mono ?_; rintro e w' ⟨rfl, rfl⟩) | (go_at_call 23; refine (in_any _ _).mono ?_; rintro e w' ⟨rfl, rfl⟩) | (go_at_call 12; refine (mod_any _ _).mono ?_; rintro e w' ⟨rfl, rfl⟩) | (go_at_call 14; refine (add_any _ _ _).mono ?_; rintro e w' ⟨rfl, rfl⟩) | (go_at_call 16; refine (mul_any _ _ _).mono ?_; rintro e w' ⟨rfl, rfl⟩))
        go_ret
        have hbs := hb.size
        exact ⟨rfl, by go_grown⟩
      · have t2 : (Fm.md b == 0) = false := beq_eq_false_iff_ne.2 hy
        have t3 := E9 _ _ t1 t2
        clear E9 hx hy
        go_enter Try.func5, Try.ntmps5
        go_wp2_with fail
        refine (sane_any _).mono ?_
        rintro e w1 ⟨rfl, hb⟩
        go_wp2_with (first | (go_at_call 10; refine (inv_any _ _).mono ?_; rintro e w' ⟨rfl, rfl⟩) | (go_at_call 23; refine (in_any _ _).mono ?_; rintro e w' ⟨rfl, rfl⟩) | (go_at_call 12; refine (mod_any _ _).mono ?_; rintro e w' ⟨rfl, rfl⟩) | (go_at_call 14; refine (add_any _ _ _).mono ?_; rintro e w' ⟨rfl, rfl⟩) | (go_at_call 16; refine (mul_any _ _ _).mono ?_; rintro e w' ⟨rfl, rfl⟩))
        go_ret
        have hbs := hb.size
        exact ⟨rfl, by go_grown⟩
    · have I2 := Fm.invE_ne hx
      have I3 := Fm.ml_inv hx
      have t1 : (Fm.md a == 0) = false := beq_eq_false_iff_ne.2 hx
      by_cases hy : Fm.md b = 0
      · have t2 : (Fm.md b == 0) = true := beq_iff_eq.2 hy
        have t3 := E9 _ _ t1 t2
        clear E9 hx hy
        go_enter Try.func5, Try.ntmps5
        go_wp2_with fail
        refine (sane_any _).mono ?_
        rintro e w1 ⟨rfl, hb⟩
        go_wp2_with (first | (go_at_call 10; refine (inv_any _ _).mono ?_; rintro e w' ⟨rfl, rfl⟩) | (go_at_call 23; refine (in_any _ _).mono ?_; rintro e w' ⟨rfl, rfl⟩) | (go_at_call 12; refine (mod_any _ _).mono ?_; rintro e w' ⟨rfl, rfl⟩) | (go_at_call 14; refine (add_any _ _ _).mono ?_; rintro e w' ⟨rfl, rfl⟩) | (go_at_call 16; refine (mul_any _ _ _).mono ?_; rintro e w' ⟨rfl, rfl⟩))
        go_ret
        have hbs := hb.size
        exact ⟨rfl, by go_grown⟩
      · have t2 : (Fm.md b == 0) = false := beq_eq_false_iff_ne.2 hy
        have t3 := E9 _ _ t1 t2
        clear E9 hx hy
        go_enter Try.func5, Try.ntmps5
        go_wp2_with fail
        refine (sane_any _).mono ?_
        rintro e w1 ⟨rfl, hb⟩
        go_wp2_with (first | (go_at_call 10; refine (inv_any _ _).mono ?_; rintro e w' ⟨rfl, rfl⟩) | (go_at_call 23; refine (in_any _ _).mono ?_; rintro e w' ⟨rfl, rfl⟩) | (go_at_call 12; refine (mod_any _ _).mono ?_; rintro e w' ⟨rfl, rfl⟩) | (go_at_call 14; refine (add_any _ _ _).mono ?_; rintro e w' ⟨rfl, rfl⟩) | (go_at_call 16; refine (mul_any _ _ _).mono ?_; rintro e w' ⟨rfl, rfl⟩))
        go_ret
        have hbs := hb.size
        exact ⟨rfl, by go_grown⟩

set_option maxRecDepth 100000 in
theorem lifted (os : Os) (started : os.Started) (H : Type) (enc : TypeId × Value → H) :
    ReturnsInHanded {} Try.checked os 5 .any (Rows.fieldLawsSpec.pre6 enc Try.prog Try.f5 Rows.fieldLawsRow.domain false) (Rows.fieldLawsSpec.post enc Try.prog Try.f5 false true false false) := by
  refine returnsInHanded_of_change (C := Try.checked) own started (by kernel_rfl) Try.func5
    (ChangeSpec.witness6 (enc := enc) (C := Try.checked) false ⟨#[], #[.int .i64 0, .int .i64 0, .int .i64 0], []⟩ 8 (by kernel_rfl) (by kernel_rfl) (by kernel_rfl) (by kernel_rfl)) ?_
  intro W base args ds gs before hval0 hW hcnd _
  have hval : ∀ (j : Nat) t v, Try.f5.params[j]? = some t → args[j]? = some v → Value.okWide Try.prog W .any base t v := hval0
  have hW' := hW
  obtain ⟨p, q, hA0, hV, rfl, hfz, hnd⟩ := hW
  have hA : DataW.TrodAll enc Try.prog W 0 (fun _ => true) true Try.f5.params.toList args.toList ds p := hA0
  rw [Try.params5] at hA hval
  obtain ⟨v0, vs0, d0, ds0, p0, q0, hargs, rfl, rfl, h0, r0⟩ := trodAll_cons hA
  obtain ⟨v1, vs1, d1, ds1, p1, q1, rfl, rfl, rfl, h1, r1⟩ := trodAll_cons r0
  obtain ⟨v2, vs2, d2, ds2, p2, q2, rfl, rfl, rfl, h2, r2⟩ := trodAll_cons r1
  obtain ⟨rfl, rfl, rfl⟩ := trodAll_nil r2
  obtain rfl : args = #[v0, v1, v2] := by cases args; simp_all
  obtain ⟨rfl, rfl⟩ := trodVars_none hV
  obtain ⟨a0, rfl, rfl, rfl, w0⟩ := open_int Try.underlying3 (hval 0 3 v0 rfl rfl) h0
  obtain ⟨a1, rfl, rfl, rfl, w1⟩ := open_int Try.underlying3 (hval 1 3 v1 rfl rfl) h1
  obtain ⟨a2, rfl, rfl, rfl, w2⟩ := open_int Try.underlying3 (hval 2 3 v2 rfl rfl) h2
  clear hA0 hval0
  refine (walk a0 a1 a2 W w0 w1 w2).mono fun e W' ⟨he, bel⟩ => ?_
  subst he
  exact ⟨_, rfl, _, _, _, [], _, [], hW', trodAll_mk1 (shut_bool Try.underlying4 _), (trodAll_cons_mk (shut_int Try.underlying3 w0) (trodAll_cons_mk (shut_int Try.underlying3 w1) (trodAll_cons_mk (shut_int Try.underlying3 w2) trodAll_mk0))), rfl, bel.frame _, fun h => by cases h⟩

theorem over : Rows.fieldLawsRow.holds Try.pinned (OpenSpec.ofChange Rows.fieldLawsSpec) :=
  OpenClaim.holds_of_wide 5 Try.f5 rfl rfl rfl rfl rfl rfl rfl ⟨rfl, rfl, rfl, rfl, rfl⟩ rfl rfl rfl rfl rfl (by kernel_rfl) Try.func5 (by kernel_rfl)
    (of_decide_eq_true (by kernel_rfl)) (by unfold Func.isWrapper; first | (rw [if_pos (by decide +kernel)]; kernel_rfl) | (rw [if_neg (by decide +kernel)]; exact ⟨rfl, rfl⟩))
    (fun os started H enc _ => lifted os started H enc)
theorem proved : Rows.FieldLawsSaid := over
#print axioms proved
end Go.Proofs.Ytdajanoikcemoaa.fieldLaws
