/- The order of the points does not matter; a further point on the same polynomial changes nothing (at most 63 points). -/
import Derived.Test.YtdajanoikcemoaaRows
import Derived.Test.YtdajanoikcemoaaFieldOrderMath
import Derived.WalkKit
import Derived.ProofKit
import Derived.OpenShut
import Derived.ChangeOld
import Derived.Below
import Derived.Deep.RegionHeld3
import Derived.Deep.AppendLies
namespace Go.Proofs.Ytdajanoikcemoaa.fieldOrder
open Go.ChangeShapes Go.WideShapes Go.ChangeAt Go.RowKit
set_option linter.unusedVariables false

theorem own : ownKnob Try.prog.godebug = none := by kernel_rfl
theorem laidOut : laidOutB Try.prog = true := by kernel_rfl
theorem infoPt : (Try.prog.info? 38).map (fun i => (i.zero, i.size, i.bytes)) = some (some (.agg #[.int .i64 0, .int .i64 0]), 2, 16) := by kernel_rfl
theorem one_lit (w : World) (e : TypeId) (s : Nat) : One w w.heap.size (w.alloc (.cells #[] e)) e s (.slice (some ⟨w.heap.size, 0, none⟩) 0 0) 0 [] :=
  ⟨World.ownsRow_lit w #[] 0 (Nat.le_refl _) (by unfold maxLen; omega) (by simp), (Below.refl _ _).alloc (Nat.le_refl _) _, by simp⟩
set_option maxRecDepth 100000 in
set_option maxHeartbeats 4000000 in
theorem walk (A : Option Addr) (n c : Nat) (l : List Fm.Pt) (t x z : Int) (w : World)
    (hp : Rd w w.heap.size 2 A n (cellsP l) ∧ n ≤ c ∧ c ≤ maxLen ∧ l.length = n ∧ ∀ x ∈ l, (Lit.int .i64 x.1).wf = true ∧ (Lit.int .i64 x.2).wf = true)
    (ht : (Lit.int .u8 t).wf = true) (hx : (Lit.int .i64 x).wf = true) (hz : (Lit.int .i64 z).wf = true) :
    Calls Try.prog 7 #[.slice A n c, .int .u8 t, .int .i64 x, .int .i64 z] w fun e w' => e = .returned (.bool true) ∧ Below w.heap.size w w' := by
  obtain ⟨hp, hn, hm, hl, _⟩ := hp
  unfold maxLen at hm
  obtain ⟨i0, hi, hz0, hz1, hz2⟩ := info_parts infoPt
  obtain ⟨tn, rfl, htn⟩ := u8_wf ht
  have HL := Lib.hid hl
  clear hl
  by_cases h1 : n < 64
  · have g1 : (n : Int) < 64 := by omega
    by_cases hd : Fm.dif l
    · have HD := Lib.hid hd
      clear hd
      by_cases h0 : 0 < n
      · have g3 : (0 : Int) < n := by omega
        have g4 : ((n : Int) == 0) = false := by simp; omega
        obtain ⟨k, hk⟩ : ∃ k, tn % n = k := ⟨_, rfl⟩
        have hkn : k < n := by rw [← hk]; exact Nat.mod_lt _ h0
        have e1 : (tn : Int) % (n : Int) = (k : Int) := by rw [← hk]; simp
        have e2 : Int.tmod (tn : Int) (n : Int) = (k : Int) := by rw [Int.tmod_eq_emod_of_nonneg (by omega)]; exact e1
        clear hk
        have k0 : (0 : Int) ≤ (k : Int) := by omega
        have k1 : (k : Int) ≤ (n : Int) := by omega
        have k2 : (k : Int) ≤ (c : Int) := by omega
        have k3 : (n : Int) ≤ (c : Int) := by omega
        have k4 : ¬ c = k := by omega
        go_enter Try.func7, Try.ntmps7
        go_wp2_with fail
        refine (sane_any _).mono ?_
        rintro e w1 ⟨rfl, hb⟩
        have hbs := hb.size
        have hp1 := (hp.below hb).more hbs
        go_wp2_with fail
        refine (different_yes _ _ _ l _ hp1 (by omega) HD.out).mono ?_
        rintro e w1d ⟨rfl, d1⟩
        obtain ⟨m1, rfl⟩ := d1
        have hp1 : Rd (w1.drewN m1) (w1.drewN m1).heap.size 2 A n (cellsP l) := hp1.drewN m1
        have hb := bdr hb m1
        have hbs : w.heap.size ≤ (w1.drewN m1).heap.size := hbs
        generalize w1.drewN m1 = w1 at *
        obtain ⟨b, o, rfl, _, _, _⟩ := pts_at hp1 h0
        have hcut : Rd w1 w1.heap.size 2 (some ⟨b, o + k * 2, none⟩) (n - k) (cellsP (l.drop k)) := by
          have h := hp1.cut (k := k) (cap := c) (by omega) (by omega)
          rw [cellsP_drop, if_neg k4] at h
          simpa [Addr.add_flat] using h
        have htake : Rd w1 w1.heap.size 2 (some ⟨b, o, none⟩) k (cellsP (l.take k)) := by
          have h := hp1.take (k := k) (by omega)
          rwa [cellsP_take] at h
        have T0 := (one_lit w1 38 2).drew
        go_wp2_with fail
        go_region_held3 (fun w' => True) (trivial)
          ((first | (refine wp_at (by rfl) (wp_append_rd _ (.tmp 40) (.tmp 43) 30 (by rfl) w1.heap.size 38 i0 _ 2 16 Try.underlying30 hi hz0 hz1 hz2 rfl (by omega) _ 0 _ (by rfl) T0.own w1.heap.size _ (n - k) _ _ (by rfl) (hcut.below T0.bel) (cellsP_one _) (by unfold maxLen; omega) (by omega) T0.size ?_); intro v2 w2 hown2 hgrow2 _) | (refine wp_at (by rfl) (wp_append_rd _ (.tmp 44) (.tmp 47) 30 (by rfl) w1.heap.size 38 i0 _ 2 16 Try.underlying30 hi hz0 hz1 hz2 rfl (by omega) _ (0 + (n - k)) _ (by rfl) (T0.grew hown2 hgrow2).own w1.heap.size _ k _ _ (by rfl) (htake.below (T0.grew hown2 hgrow2).bel) (cellsP_one _) (by unfold maxLen; omega) (by omega) (T0.grew hown2 hgrow2).size ?_); intro v3 w3 hown3 hgrow3 _)))
        have T1 := (T0.grew hown2 hgrow2).grew hown3 hgrow3
        clear hown2 hgrow2 hown3 hgrow3 T0
        have e5 : 0 + (n - k) + k = n := by omega
        rw [e5, List.nil_append, ← cellsP_app] at T1
        clear e5
        obtain ⟨SA, sc, rfl, hS⟩ := own_slice T1.own
        have hS : Rd w3 w3.heap.size 2 SA n (cellsP (Fm.turn l k)) := hS
        have HDT := Lib.hid (Fm.turn_dif k HD.out)
        have HLT := Lib.hid (Fm.turn_lag k HD.out z)
        have hl3 := (hp1.below T1.bel).more T1.size
        have b3 := hb.trans (T1.bel.mono hbs)
        have b3s := Nat.le_trans hbs T1.size
        clear hcut htake T1
        go_wp2_with fail
        refine (at_any _ _ _ l _ _ hl3 (by omega) HD.out).mono ?_
        rintro e w4 ⟨rfl, hb4⟩
        have hS4 := (hS.below hb4).more hb4.size
        have hl4 := (hl3.below hb4).more hb4.size
        have b4 := b3.trans (hb4.mono b3s)
        have b4s := Nat.le_trans b3s hb4.size
        clear hb4 hS hl3 b3 b3s
        go_wp2_with fail
        refine (at_any _ _ _ (Fm.turn l k) _ _ hS4 (by omega) HDT.out).mono ?_
        rintro e w5 ⟨he, hb5⟩
        rw [HLT.out] at he
        subst he
        have hl5 := (hl4.below hb5).more hb5.size
        have b5 := b4.trans (hb5.mono b4s)
        have b5s := Nat.le_trans b4s hb5.size
        clear hb5 hS4 hl4 b4 b4s
        go_wp2_with fail
        refine (at_any _ _ _ l _ _ hl5 (by omega) HD.out).mono ?_
        rintro e w6 ⟨rfl, hb6⟩
        have hl6 := (hl5.below hb6).more hb6.size
        have b6 := b5.trans (hb6.mono b5s)
        have b6s := Nat.le_trans b5s hb6.size
        clear hb6 hl5 b5 b5s
        obtain ⟨y, hy⟩ : ∃ y, Fm.lag l x = y := ⟨_, rfl⟩
        have HY := Lib.hid hy
        rw [hy]
        clear hy
        have T2 := one_lit w6 38 2
        go_wp2_with (first | (at_builtin; refine wpList_append_rd _ rfl (.tmp 78) (.tmp 79) 30 rfl w6.heap.size 38 i0 _ 2 16 Try.underlying30 hi hz0 hz1 hz2 rfl (by omega) _ 0 _ (by rfl) T2.own w6.heap.size _ n _ _ (by rfl) (hl6.below T2.bel) (cellsP_one _) (by unfold maxLen; omega) (by omega) T2.size ?_; intro v7 w7 hown7 hgrow7 _; have T3 := T2.grew hown7 hgrow7) | (at_builtin; refine wpList_append_rd _ rfl (.tmp 80) (.tmp 84) 30 rfl w6.heap.size 38 i0 _ 2 16 Try.underlying30 hi hz0 hz1 hz2 rfl (by omega) _ (0 + n) _ (by rfl) (T3.alloc _).own _ _ 1 _ _ (by rfl) (rd_new w7 38 [.int .i64 x, .int .i64 y] 1 2 rfl) (cellsP_one [(x, y)]) (by unfold maxLen; omega) (by omega) (T3.alloc _).size ?_; intro v8 w8 hown8 hgrow8 _; have T4 := (T3.alloc _).grew hown8 hgrow8; clear T3 T2 hown7 hgrow7 hown8 hgrow8))
        have e6 : 0 + n + 1 = n + 1 := by omega
        have e7 : cellsP (l ++ [(x, y)]) = cellsP l ++ [.int .i64 x, .int .i64 y] := by rw [cellsP_app]; rfl
        rw [e6, List.nil_append, ← e7] at T4
        clear e6 e7
        obtain ⟨MA, mc, rfl, hM⟩ := own_slice T4.own
        have b8 := b6.trans (T4.bel.mono b6s)
        have b8s := Nat.le_trans b6s T4.size
        clear T4 hl6 b6 b6s
        by_cases hdm : Fm.dif (l ++ [(x, y)])
        · have HDM := Lib.hid hdm
          clear hdm
          have HLM : Hid (Fm.lag (l ++ [(x, y)]) z = Fm.lag l z) := by
            show _ = _
            have h := HDM.out
            rw [← HY.out] at h ⊢
            exact Fm.more_lag HD.out h z
          refine (at_any _ _ _ (l ++ [(x, y)]) _ _ hM (by omega) HDM.out).mono ?_
          rintro e w9 ⟨he, hb9⟩
          rw [HLM.out] at he
          subst he
          have hM9 := (hM.below hb9).more hb9.size
          have b9 := b8.trans (hb9.mono b8s)
          clear hb9 hM b8 b8s
          go_wp2_with fail
          refine (different_yes _ _ _ (l ++ [(x, y)]) _ hM9 (by omega) HDM.out).mono ?_
          rintro e w1d ⟨rfl, d1⟩
          obtain ⟨m9, rfl⟩ := d1
          go_wp2
          go_ret
          exact ⟨rfl, bdr b9 m9⟩
        · have HDM := Lib.hid hdm
          clear hdm
          refine (at_dif _ _ _ (l ++ [(x, y)]) _ _ hM (by omega) HDM.out).mono ?_
          rintro e w9 ⟨rfl, hb9⟩
          have hM9 := (hM.below hb9).more hb9.size
          have b9 := b8.trans (hb9.mono b8s)
          clear hb9 hM b8 b8s
          go_wp2_with fail
          refine (different_no _ _ _ (l ++ [(x, y)]) _ hM9 (by omega) HDM.out).mono ?_
          rintro e w1d ⟨rfl, d1⟩
          obtain ⟨m9, rfl⟩ := d1
          go_wp2
          go_ret
          exact ⟨rfl, bdr b9 m9⟩
      · obtain rfl : n = 0 := by omega
        go_enter Try.func7, Try.ntmps7
        go_wp2_with fail
        refine (sane_any _).mono ?_
        rintro e w1 ⟨rfl, hb⟩
        have hbs := hb.size
        have hp1 := (hp.below hb).more hbs
        go_wp2_with fail
        refine (different_yes _ _ _ l _ hp1 (by omega) HD.out).mono ?_
        rintro e w1d ⟨rfl, d1⟩
        obtain ⟨m1, rfl⟩ := d1
        go_wp2
        go_ret
        exact ⟨rfl, bdr hb m1⟩
    · have HD := Lib.hid hd
      clear hd
      go_enter Try.func7, Try.ntmps7
      go_wp2_with fail
      refine (sane_any _).mono ?_
      rintro e w1 ⟨rfl, hb⟩
      have hbs := hb.size
      have hp1 := (hp.below hb).more hbs
      go_wp2_with fail
      refine (different_no _ _ _ l _ hp1 (by omega) HD.out).mono ?_
      rintro e w1d ⟨rfl, d1⟩
      obtain ⟨m1, rfl⟩ := d1
      go_wp2
      go_ret
      exact ⟨rfl, bdr hb m1⟩
  · have g1 : (64 : Int) ≤ n := by omega
    go_enter Try.func7, Try.ntmps7
    go_wp2_with fail
    refine (sane_any _).mono ?_
    rintro e w1 ⟨rfl, hb⟩
    go_wp2
    go_ret
    exact ⟨rfl, hb⟩

set_option maxRecDepth 100000 in
theorem lifted (os : Os) (started : os.Started) (H : Type) (enc : TypeId × Value → H) :
    ReturnsInHanded {} Try.checked os 7 .any (Rows.fieldOrderSpec.pre6 enc Try.prog Try.f7 Rows.fieldOrderRow.domain false) (Rows.fieldOrderSpec.post enc Try.prog Try.f7 false true false false) := by
  refine returnsInHanded_of_change (C := Try.checked) own started (by kernel_rfl) Try.func7
    (ChangeSpec.witness6 (enc := enc) (C := Try.checked) false ⟨#[], #[.slice none 0 0, .int .u8 0, .int .i64 0, .int .i64 0], []⟩ 8 (by kernel_rfl) (by kernel_rfl) (by kernel_rfl) (by kernel_rfl)) ?_
  intro W base args ds gs before hval0 hW hcnd _
  have hval : ∀ (j : Nat) t v, Try.f7.params[j]? = some t → args[j]? = some v → Value.okWide Try.prog W .any base t v := hval0
  have hW' := hW
  obtain ⟨p, q, hA0, hV, rfl, hfz, hnd⟩ := hW
  have hA : DataW.TrodAll enc Try.prog W 0 (fun _ => true) true Try.f7.params.toList args.toList ds p := hA0
  rw [Try.params7] at hA hval
  obtain ⟨v0, vs0, d0, ds0, p0, q0, hargs, rfl, rfl, h0, r0⟩ := trodAll_cons hA
  obtain ⟨v1, vs1, d1, ds1, p1, q1, rfl, rfl, rfl, h1, r1⟩ := trodAll_cons r0
  obtain ⟨v2, vs2, d2, ds2, p2, q2, rfl, rfl, rfl, h2, r2⟩ := trodAll_cons r1
  obtain ⟨v3, vs3, d3, ds3, p3, q3, rfl, rfl, rfl, h3, r3⟩ := trodAll_cons r2
  obtain ⟨rfl, rfl, rfl⟩ := trodAll_nil r3
  obtain rfl : args = #[v0, v1, v2, v3] := by cases args; simp_all
  obtain ⟨rfl, rfl⟩ := trodVars_none hV
  obtain ⟨a0, n0, c0, rfl⟩ := okWide_slice Try.underlying30 (hval 0 30 v0 rfl rfl)
  have k0 := h0
  have lt0 : ∀ x ∈ p0, x.block < W.heap.size := by obtain ⟨m, hm⟩ := k0; exact DataW.trod_lt m _ _ _ hm
  obtain ⟨z0, w0⟩ := open_pts h0
  obtain ⟨a1, rfl, rfl, rfl, w1⟩ := open_int Try.underlying5 (hval 1 5 v1 rfl rfl) h1
  obtain ⟨a2, rfl, rfl, rfl, w2⟩ := open_int Try.underlying3 (hval 2 3 v2 rfl rfl) h2
  obtain ⟨a3, rfl, rfl, rfl, w3⟩ := open_int Try.underlying3 (hval 3 3 v3 rfl rfl) h3
  clear hA0 hval0
  refine (walk a0 n0 c0 z0 a1 a2 a3 W w0 w1 w2 w3).mono fun e W' ⟨he, bel⟩ => ?_
  subst he
  exact ⟨_, rfl, _, _, _, [], _, [], hW', trodAll_mk1 (shut_bool Try.underlying4 _), (trodAll_cons_mk (Below.trod laidOut (by kernel_rfl) (of_decide_eq_true (by kernel_rfl)) k0 bel lt0) (trodAll_cons_mk (shut_int Try.underlying5 w1) (trodAll_cons_mk (shut_int Try.underlying3 w2) (trodAll_cons_mk (shut_int Try.underlying3 w3) trodAll_mk0)))), rfl, bel.frame _, fun h => by cases h⟩

theorem over : Rows.fieldOrderRow.holds Try.pinned (OpenSpec.ofChange Rows.fieldOrderSpec) :=
  OpenClaim.holds_of_wide 7 Try.f7 rfl rfl rfl rfl rfl rfl rfl ⟨rfl, rfl, rfl, rfl, rfl⟩ rfl rfl rfl rfl rfl (by kernel_rfl) Try.func7 (by kernel_rfl)
    (of_decide_eq_true (by kernel_rfl)) (by unfold Func.isWrapper; first | (rw [if_pos (by decide +kernel)]; kernel_rfl) | (rw [if_neg (by decide +kernel)]; exact ⟨rfl, rfl⟩))
    (fun os started H enc _ => lifted os started H enc)
theorem proved : Rows.FieldOrderSaid := over
#print axioms proved
end Go.Proofs.Ytdajanoikcemoaa.fieldOrder
