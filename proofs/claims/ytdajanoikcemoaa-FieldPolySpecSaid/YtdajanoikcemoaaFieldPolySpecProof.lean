/- For all polynomials, points and integers, Value and At agree with the reference (at most 100 coefficients and 70 points). -/
import Derived.Test.YtdajanoikcemoaaRows
import Derived.Test.YtdajanoikcemoaaFieldSane
import Derived.Test.YtdajanoikcemoaaFieldOpen
import Derived.WalkKit
import Derived.ProofKit
import Derived.OpenShut
import Derived.ChangeOld
import Derived.Below
namespace Go.Proofs.Ytdajanoikcemoaa.fieldPolySpec
open Go.ChangeShapes Go.WideShapes Go.ChangeAt Go.RowKit
set_option linter.unusedVariables false

theorem own : ownKnob Try.prog.godebug = none := by kernel_rfl
theorem laidOut : laidOutB Try.prog = true := by kernel_rfl
set_option maxRecDepth 100000 in
set_option maxHeartbeats 4000000 in
theorem walk (A : Option Addr) (n c : Nat) (z : List Int) (A' : Option Addr) (n' c' : Nat) (l : List Fm.Pt) (x : Int) (w : World)
    (hp : Rd w w.heap.size 1 A n (z.map (Value.int .i64)) ∧ n ≤ c ∧ c ≤ maxLen ∧ z.length = n ∧ ∀ x ∈ z, (Lit.int .i64 x).wf = true)
    (hq : Rd w w.heap.size 2 A' n' (cellsP l) ∧ n' ≤ c' ∧ c' ≤ maxLen ∧ l.length = n' ∧ ∀ x ∈ l, (Lit.int .i64 x.1).wf = true ∧ (Lit.int .i64 x.2).wf = true)
    (hx : (Lit.int .i64 x).wf = true) :
    Calls Try.prog 4 #[.slice A n c, .slice A' n' c', .int .i64 x] w fun e w' => e = .returned (.bool true) ∧ Below w.heap.size w w' := by
  obtain ⟨hp, hn, hm, hl, _⟩ := hp
  obtain ⟨hq, hn', hm', hl', _⟩ := hq
  unfold maxLen at hm hm'
  by_cases h1 : n ≤ 100
  · by_cases h2 : n' ≤ 70
    · have t2 : decide (n' ≤ 70) = true := by simp [h2]
      by_cases h3 : n' ≤ 64
      · by_cases hd : Fm.dif l
        · go_enter Try.func4, Try.ntmps4
          go_wp2_with fail
          refine (sane_any _).mono ?_
          rintro e w1 ⟨rfl, hb⟩
          have hbs := hb.size
          have hp1 := (hp.below hb).more hbs
          have hq1 := (hq.below hb).more hbs
          go_wp2_with fail
          refine (few_any _ _ _ _).mono ?_
          rintro e w' ⟨rfl, rfl⟩
          go_wp2_with fail
          refine (at_any _ _ _ l _ _ hq1 h3 hd).mono ?_
          rintro e w2 ⟨rfl, hb2⟩
          have hbs2 := hb2.size
          have hp2 := (hp1.below hb2).more hbs2
          have hq2 := (hq1.below hb2).more hbs2
          go_wp2_with fail
          refine (rat_any _ _ _ l _ _ hq2 h3 hd).mono ?_
          rintro e w3 ⟨rfl, d3⟩
          obtain ⟨m3, rfl⟩ := d3
          go_wp2_with fail
          refine (value_any _ _ _ z _ _ (hp2.drewN m3) (by omega)).mono ?_
          rintro e w4 ⟨rfl, hb4⟩
          have hbs4 := hb4.size
          have hp4 := ((hp2.drewN m3).below hb4).more hbs4
          go_wp2_with fail
          refine (rvalue_any _ _ _ z _ _ hp4 (by omega)).mono ?_
          rintro e w5 ⟨rfl, d5⟩
          obtain ⟨m5, rfl⟩ := d5
          go_wp2
          go_ret
          have b2 := hb.trans (hb2.mono hbs)
          have b3 := bdr b2 m3
          have b4 := b3.trans (hb4.mono b3.size)
          exact ⟨rfl, bdr b4 m5⟩
        · have hd' := Lib.hid hd
          clear hd
          go_enter Try.func4, Try.ntmps4
          go_wp2_with fail
          refine (sane_any _).mono ?_
          rintro e w1 ⟨rfl, hb⟩
          have hbs := hb.size
          have hp1 := (hp.below hb).more hbs
          have hq1 := (hq.below hb).more hbs
          go_wp2_with fail
          refine (few_any _ _ _ _).mono ?_
          rintro e w' ⟨rfl, rfl⟩
          go_wp2_with fail
          refine (at_dif _ _ _ l _ _ hq1 h3 hd'.out).mono ?_
          rintro e w2 ⟨rfl, hb2⟩
          have hbs2 := hb2.size
          have hp2 := (hp1.below hb2).more hbs2
          have hq2 := (hq1.below hb2).more hbs2
          go_wp2_with fail
          refine (rat_dif _ _ _ l _ _ hq2 h3 hd'.out).mono ?_
          rintro e w3 ⟨rfl, d3⟩
          obtain ⟨m3, rfl⟩ := d3
          go_wp2_with fail
          refine (value_any _ _ _ z _ _ (hp2.drewN m3) (by omega)).mono ?_
          rintro e w4 ⟨rfl, hb4⟩
          have hbs4 := hb4.size
          have hp4 := ((hp2.drewN m3).below hb4).more hbs4
          go_wp2_with fail
          refine (rvalue_any _ _ _ z _ _ hp4 (by omega)).mono ?_
          rintro e w5 ⟨rfl, d5⟩
          obtain ⟨m5, rfl⟩ := d5
          go_wp2
          go_ret
          have b2 := hb.trans (hb2.mono hbs)
          have b3 := bdr b2 m3
          have b4 := b3.trans (hb4.mono b3.size)
          exact ⟨rfl, bdr b4 m5⟩
      · have h4 : 64 < n' := by omega
        go_enter Try.func4, Try.ntmps4
        go_wp2_with fail
        refine (sane_any _).mono ?_
        rintro e w1 ⟨rfl, hb⟩
        have hbs := hb.size
        have hp1 := (hp.below hb).more hbs
        have hq1 := (hq.below hb).more hbs
        go_wp2_with fail
        refine (few_any _ _ _ _).mono ?_
        rintro e w' ⟨rfl, rfl⟩
        go_wp2_with fail
        refine (at_lim _ _ _ _ _ h4 (by omega)).mono ?_
        rintro e w2 ⟨rfl, hb2⟩
        have hbs2 := hb2.size
        have hp2 := (hp1.below hb2).more hbs2
        have hq2 := (hq1.below hb2).more hbs2
        go_wp2_with fail
        refine (rat_lim _ _ _ _ _ h4 (by omega)).mono ?_
        rintro e w3 ⟨rfl, rfl⟩
        go_wp2_with fail
        refine (value_any _ _ _ z _ _ hp2 (by omega)).mono ?_
        rintro e w4 ⟨rfl, hb4⟩
        have hbs4 := hb4.size
        have hp4 := (hp2.below hb4).more hbs4
        go_wp2_with fail
        refine (rvalue_any _ _ _ z _ _ hp4 (by omega)).mono ?_
        rintro e w5 ⟨rfl, d5⟩
        obtain ⟨m5, rfl⟩ := d5
        go_wp2
        go_ret
        have b2 := hb.trans (hb2.mono hbs)
        have b3 := b2
        have b4 := b3.trans (hb4.mono b3.size)
        exact ⟨rfl, bdr b4 m5⟩
    · have t2 : decide (n' ≤ 70) = false := by simp; omega
      go_enter Try.func4, Try.ntmps4
      go_wp2_with fail
      refine (sane_any _).mono ?_
      rintro e w1 ⟨rfl, hb⟩
      have hbs := hb.size
      go_wp2_with fail
      refine (few_any _ _ _ _).mono ?_
      rintro e w' ⟨rfl, rfl⟩
      go_wp2
      go_ret
      exact ⟨rfl, hb⟩
  · go_enter Try.func4, Try.ntmps4
    go_wp2_with fail
    refine (sane_any _).mono ?_
    rintro e w1 ⟨rfl, hb⟩
    have hbs := hb.size
    go_wp2
    go_ret
    exact ⟨rfl, hb⟩

set_option maxRecDepth 100000 in
theorem lifted (os : Os) (started : os.Started) (H : Type) (enc : TypeId × Value → H) :
    ReturnsInHanded {} Try.checked os 4 .any (Rows.fieldPolySpecSpec.pre6 enc Try.prog Try.f4 Rows.fieldPolySpecRow.domain false) (Rows.fieldPolySpecSpec.post enc Try.prog Try.f4 false true false false) := by
  refine returnsInHanded_of_change (C := Try.checked) own started (by kernel_rfl) Try.func4
    (ChangeSpec.witness6 (enc := enc) (C := Try.checked) false ⟨#[], #[.slice none 0 0, .slice none 0 0, .int .i64 0], []⟩ 8 (by kernel_rfl) (by kernel_rfl) (by kernel_rfl) (by kernel_rfl)) ?_
  intro W base args ds gs before hval0 hW hcnd _
  have hval : ∀ (j : Nat) t v, Try.f4.params[j]? = some t → args[j]? = some v → Value.okWide Try.prog W .any base t v := hval0
  have hW' := hW
  obtain ⟨p, q, hA0, hV, rfl, hfz, hnd⟩ := hW
  have hA : DataW.TrodAll enc Try.prog W 0 (fun _ => true) true Try.f4.params.toList args.toList ds p := hA0
  rw [Try.params4] at hA hval
  obtain ⟨v0, vs0, d0, ds0, p0, q0, hargs, rfl, rfl, h0, r0⟩ := trodAll_cons hA
  obtain ⟨v1, vs1, d1, ds1, p1, q1, rfl, rfl, rfl, h1, r1⟩ := trodAll_cons r0
  obtain ⟨v2, vs2, d2, ds2, p2, q2, rfl, rfl, rfl, h2, r2⟩ := trodAll_cons r1
  obtain ⟨rfl, rfl, rfl⟩ := trodAll_nil r2
  obtain rfl : args = #[v0, v1, v2] := by cases args; simp_all
  obtain ⟨rfl, rfl⟩ := trodVars_none hV
  obtain ⟨a0, n0, c0, rfl⟩ := okWide_slice Try.underlying29 (hval 0 29 v0 rfl rfl)
  have k0 := h0
  have lt0 : ∀ x ∈ p0, x.block < W.heap.size := by obtain ⟨m, hm⟩ := k0; exact DataW.trod_lt m _ _ _ hm
  obtain ⟨z0, w0⟩ := open_ints64 h0
  obtain ⟨a1, n1, c1, rfl⟩ := okWide_slice Try.underlying30 (hval 1 30 v1 rfl rfl)
  have k1 := h1
  have lt1 : ∀ x ∈ p1, x.block < W.heap.size := by obtain ⟨m, hm⟩ := k1; exact DataW.trod_lt m _ _ _ hm
  obtain ⟨z1, w1⟩ := open_pts h1
  obtain ⟨a2, rfl, rfl, rfl, w2⟩ := open_int Try.underlying3 (hval 2 3 v2 rfl rfl) h2
  clear hA0 hval0
  refine (walk a0 n0 c0 z0 a1 n1 c1 z1 a2 W w0 w1 w2).mono fun e W' ⟨he, bel⟩ => ?_
  subst he
  exact ⟨_, rfl, _, _, _, [], _, [], hW', trodAll_mk1 (shut_bool Try.underlying4 _), (trodAll_cons_mk (Below.trod laidOut (by kernel_rfl) (of_decide_eq_true (by kernel_rfl)) k0 bel lt0) (trodAll_cons_mk (Below.trod laidOut (by kernel_rfl) (of_decide_eq_true (by kernel_rfl)) k1 bel lt1) (trodAll_cons_mk (shut_int Try.underlying3 w2) trodAll_mk0))), rfl, bel.frame _, fun h => by cases h⟩

theorem over : Rows.fieldPolySpecRow.holds Try.pinned (OpenSpec.ofChange Rows.fieldPolySpecSpec) :=
  OpenClaim.holds_of_wide 4 Try.f4 rfl rfl rfl rfl rfl rfl rfl ⟨rfl, rfl, rfl, rfl, rfl⟩ rfl rfl rfl rfl rfl (by kernel_rfl) Try.func4 (by kernel_rfl)
    (of_decide_eq_true (by kernel_rfl)) (by unfold Func.isWrapper; first | (rw [if_pos (by decide +kernel)]; kernel_rfl) | (rw [if_neg (by decide +kernel)]; exact ⟨rfl, rfl⟩))
    (fun os started H enc _ => lifted os started H enc)
theorem proved : Rows.FieldPolySpecSaid := over
#print axioms proved
end Go.Proofs.Ytdajanoikcemoaa.fieldPolySpec
