/- At the X of a point At returns its Y; and the values of a polynomial at as many different numbers as it has coefficients determine its values everywhere (at most 64 points). -/
import Derived.Test.YtdajanoikcemoaaRows
import Derived.Test.YtdajanoikcemoaaOneRow
import Derived.WalkKit
import Derived.ProofKit
import Derived.OpenShut
import Derived.ChangeOld
import Derived.Below
import Derived.Deep.RegionHeld3
import Derived.Deep.AppendLies
namespace Go.Proofs.Ytdajanoikcemoaa.fieldThrough
open Go.ChangeShapes Go.WideShapes Go.ChangeAt Go.RowKit
set_option linter.unusedVariables false

theorem own : ownKnob Try.prog.godebug = none := by kernel_rfl
theorem laidOut : laidOutB Try.prog = true := by kernel_rfl
theorem infoPt : (Try.prog.info? 38).map (fun i => (i.zero, i.size, i.bytes)) = some (some (.agg #[.int .i64 0, .int .i64 0]), 2, 16) := by kernel_rfl
def ownP (zb : List Int) (l : List Fm.Pt) : List Fm.Pt := l.map fun q => (q.1, Fm.val zb q.1)
theorem ownP_length (zb : List Int) (l : List Fm.Pt) : (ownP zb l).length = l.length := by simp [ownP]
theorem cellsP_snoc (l : List Fm.Pt) (q : Fm.Pt) : cellsP (l ++ [q]) = cellsP l ++ [.int .i64 q.1, .int .i64 q.2] := by simp [cellsP]
theorem ownP_next (zb : List Int) (l : List Fm.Pt) (k : Nat) (h : k < l.length) : cellsP (ownP zb (l.take k)) ++ [.int .i64 (Fm.pX l k), .int .i64 (Fm.val zb (Fm.pX l k))] = cellsP (ownP zb (l.take (k + 1))) := by
  rw [Fm.take_pt l k h]
  unfold ownP
  rw [List.map_append, List.map_cons, List.map_nil]
  exact (cellsP_snoc _ (Fm.pX l k, Fm.val zb (Fm.pX l k))).symm
theorem ownP_dif (zb : List Int) (l : List Fm.Pt) (h : Fm.dif l) : Fm.dif (ownP zb l) := by
  unfold Fm.dif ownP at *
  rw [List.map_map]
  exact h
theorem ownP_lag (zb : List Int) (l : List Fm.Pt) (h : Fm.dif l) (hl : zb.length ≤ l.length) (x : Int) : Fm.lag (ownP zb l) x = Fm.val zb x :=
  Fm.lag_val _ _ (ownP_dif zb l h) (by rw [ownP_length]; exact hl) (fun q hq => by
    unfold ownP at hq
    obtain ⟨p, _, rfl⟩ := List.mem_map.1 hq
    rfl) x
theorem lag_k (l : List Fm.Pt) (k : Nat) (h : k < l.length) (hd : Fm.dif l) : Fm.lag l (Fm.pX l k) = Fm.md (Fm.pY l k) :=
  Fm.lag_at l hd (Fm.pt l k) (by
    have e : Fm.pt l k = l[k] := by simp [Fm.pt, Fm.pX, Fm.pY, List.getD, List.getElem?_eq_getElem h]
    rw [e]; exact List.getElem_mem h)
theorem in_val (zb : List Int) (x : Int) : decide (0 ≤ Fm.val zb x ∧ Fm.val zb x < 1073741789) = true := by simp [Fm.val_lo, Fm.val_hi]
set_option maxRecDepth 100000 in
set_option maxHeartbeats 4000000 in
theorem walk (A : Option Addr) (n c : Nat) (l : List Fm.Pt) (A' : Option Addr) (n' c' : Nat) (zb : List Int) (x : Int) (w : World)
    (hp : Rd w w.heap.size 2 A n (cellsP l) ∧ n ≤ c ∧ c ≤ maxLen ∧ l.length = n ∧ ∀ x ∈ l, (Lit.int .i64 x.1).wf = true ∧ (Lit.int .i64 x.2).wf = true)
    (hq : Rd w w.heap.size 1 A' n' (zb.map (Value.int .i64)) ∧ n' ≤ c' ∧ c' ≤ maxLen ∧ zb.length = n' ∧ ∀ x ∈ zb, (Lit.int .i64 x).wf = true)
    (hx : (Lit.int .i64 x).wf = true) :
    Calls Try.prog 6 #[.slice A n c, .slice A' n' c', .int .i64 x] w fun e w' => e = .returned (.bool true) ∧ Below w.heap.size w w' := by
  obtain ⟨hp, hn, hm, hl, _⟩ := hp
  obtain ⟨hq, hn', hm', hl', _⟩ := hq
  unfold maxLen at hm hm'
  obtain ⟨i0, hi, hz0, hz1, hz2⟩ := info_parts infoPt
  have HL := Lib.hid hl
  have HL' := Lib.hid hl'
  clear hl hl'
  by_cases h1 : n ≤ 64
  · have g1 : (n : Int) ≤ 64 := by omega
    by_cases hd : Fm.dif l
    · have HD := Lib.hid hd
      clear hd
      by_cases h3 : n' ≤ n
      · have g3 : (n' : Int) ≤ n := by omega
        have g4 : decide (n < n') = false := by simp; omega
        go_enter Try.func6, Try.ntmps6
        go_wp2_with fail
        refine (sane_any _).mono ?_
        rintro e w1 ⟨rfl, hb⟩
        have hbs := hb.size
        have hp1 := (hp.below hb).more hbs
        have hq1 := (hq.below hb).more hbs
        go_wp2_with fail
        refine (different_yes _ _ _ l _ hp1 (by omega) HD.out).mono ?_
        rintro e w1d ⟨rfl, d1⟩
        obtain ⟨m1, rfl⟩ := d1
        have hp1 : Rd (w1.drewN m1) (w1.drewN m1).heap.size 2 A n (cellsP l) := hp1.drewN m1
        have hq1 : Rd (w1.drewN m1) (w1.drewN m1).heap.size 1 A' n' (zb.map (Value.int .i64)) := hq1.drewN m1
        have hb := bdr hb m1
        have hbs : w.heap.size ≤ (w1.drewN m1).heap.size := hbs
        generalize w1.drewN m1 = w1 at *
        go_wp2
        go_loopw [7, 33] (fun v i wr => ∃ k : Nat, k ≤ n ∧ i = .int .i64 k ∧ One w1 w1.heap.size wr 38 2 v k (cellsP (ownP zb (l.take k)))) (fun _ i _ => n - (intOf i).toNat)
        case atStart => exact ⟨0, Nat.zero_le _, rfl, by simpa [ownP, cellsP] using One.start w1 38 2⟩
        case round =>
          obtain ⟨k, hk, rfl, T⟩ := hrel
          by_cases hlt : k < n
          · have kk : (k : Int) < n := by omega
            have HK := Lib.hid (ownP_next zb l k (by have := HL.out; omega))
            have hpr := (hp1.below T.bel).more T.size
            have hqr := (hq1.below T.bel).more T.size
            obtain ⟨b, o, rfl, hbb, hcx, hcy⟩ := pts_at hpr hlt
            have HLK := Lib.hid (lag_k l k (by have := HL.out; omega) HD.out)
            generalize Fm.pX l k = X at *
            generalize Fm.pY l k = Y at *
            go_wp2_with fail
            have hne := own_far T.own
            have T := T.alloc (.cells #[.int .i64 X, .int .i64 Y] 38)
            have hpr := (hpr.alloc (Nat.le_refl _) (.cells #[.int .i64 X, .int .i64 Y] 38)).more (B' := (wr.alloc (.cells #[.int .i64 X, .int .i64 Y] 38)).heap.size) (by simp)
            have hqr := (hqr.alloc (Nat.le_refl _) (.cells #[.int .i64 X, .int .i64 Y] 38)).more (B' := (wr.alloc (.cells #[.int .i64 X, .int .i64 Y] 38)).heap.size) (by simp)
            refine (at_any _ _ _ l _ _ hpr h1 HD.out).mono ?_
            rintro e w2 ⟨he, hb2⟩
            rw [HLK.out] at he
            subst he
            have T := T.below hb2
            have hqr := (hqr.below hb2).more hb2.size
            have c0 : w2.cell? ⟨wr.heap.size, 0, none⟩ = some (.int .i64 X) := (hb2.cell (p := ⟨wr.heap.size, 0, none⟩) (by simp)).trans (alloc_cell0 wr _ [.int .i64 Y] _)
            have c1 : w2.cell? ⟨wr.heap.size, 1, none⟩ = some (.int .i64 Y) := (hb2.cell (p := ⟨wr.heap.size, 1, none⟩) (by simp)).trans (alloc_cell1 wr _ _ [] _)
            have hs2 : wr.heap.size < w2.heap.size := by have := hb2.size; simp at this; omega
            clear hb2 hpr
            go_wp2_with (go_at_call 12; (with_reducible refine (mod_any _ _).mono ?_); rintro e w' ⟨rfl, rfl⟩)
            go_region_held3 (fun w' => w'.cell? ⟨wr.heap.size, 0, none⟩ = some (.int .i64 X)) 
              (first
                | go_keep
                | exact (hb3.cell (p := ⟨wr.heap.size, 0, none⟩) hs2).trans c0
                | exact (hgrow.cell_far _ (by simp; have := hb3.size; simp at this; omega) hne).trans ((World.cell?_alloc_lt w3 _ _ (Nat.lt_of_lt_of_le hs2 hb3.size)).trans ((hb3.cell (p := ⟨wr.heap.size, 0, none⟩) hs2).trans c0)))
              ((first | (go_at_call 21; (with_reducible refine (value_any _ _ _ zb _ _ hqr.drew (by omega)).mono ?_); rintro e w3 ⟨rfl, hb3⟩) | (refine step_append_lies _ (by rfl) _ _ _ (by rfl) w1.heap.size 38 i0 _ 2 16 Try.underlying30 hi hz0 hz1 hz2 rfl (by omega) _ k _ (by rfl) ((T.drew.below hb3).alloc _).own ⟨w3.heap.size, 0, none⟩ 1 1 [.int .i64 X, .int .i64 (Fm.val zb X)] (by rfl) (by rfl) (World.news_of_block (cs := #[.int .i64 X, .int .i64 (Fm.val zb X)]) (t := 38) (fr := (0, 0)) (heap_alloc_new w3 _)) (by simp [Value.oneCell']) (by omega) (by unfold maxLen; omega) (by omega) ((T.drew.below hb3).alloc _).size (w3.heap.size + 1) (by simp) ?_; intro gg cap w4 hown4 hgrow hat hlt4)))
            have T := ((T.drew.below hb3).alloc _).grew hown4 hgrow
            clear hown4 hgrow hat hlt4 hb3 hqr c0 c1
            go_wp2
            go_roundw
            case rel => exact ⟨k + 1, by omega, by go_num, by rw [← HK.out]; exact T⟩
            case measure => simp [intOf]; omega
          · obtain rfl : n = k := by omega
            have t1 : l.take n = l := List.take_of_length_le (by have := HL.out; omega)
            rw [t1] at T
            clear t1
            have HO := Lib.hid (ownP_lag zb l HD.out (by have := HL.out; have := HL'.out; omega) x)
            have HI := Lib.hid (in_val zb x)
            have HDO := Lib.hid (ownP_dif zb l HD.out)
            obtain ⟨SA, sc, rfl, hS⟩ := own_slice T.own
            have hqr := (hq1.below T.bel).more T.size
            go_wp2_with fail
            refine (at_any _ _ _ (ownP zb l) _ _ hS h1 HDO.out).mono ?_
            rintro e w2 ⟨he, hb2⟩
            rw [HO.out] at he
            subst he
            have hqr := (hqr.below hb2).more hb2.size
            have b2 := (hb.trans (T.bel.mono hbs)).trans (hb2.mono (Nat.le_trans hbs T.size))
            have b2s := Nat.le_trans (Nat.le_trans hbs T.size) hb2.size
            clear hb2
            go_wp2_with fail
            refine (in_any _ _).mono ?_
            rintro e w' ⟨he, rfl⟩
            rw [HI.out] at he
            subst he
            go_wp2_with fail
            refine (value_any _ _ _ zb _ _ hqr (by omega)).mono ?_
            rintro e w3 ⟨rfl, hb3⟩
            go_wp2
            go_ret
            exact ⟨rfl, b2.trans (hb3.mono b2s)⟩
      · have g3 : (n : Int) < n' := by omega
        go_enter Try.func6, Try.ntmps6
        go_wp2_with fail
        refine (sane_any _).mono ?_
        rintro e w1 ⟨rfl, hb⟩
        have hbs := hb.size
        have hp1 := (hp.below hb).more hbs
        go_wp2_with fail
        refine (different_yes _ _ _ l _ hp1 (by omega) HD.out).mono ?_
        rintro e w1d ⟨rfl, d1⟩
        obtain ⟨m1, rfl⟩ := d1
        go_wp2
        go_ret
        exact ⟨rfl, bdr hb m1⟩
    · have HD := Lib.hid hd
      clear hd
      go_enter Try.func6, Try.ntmps6
      go_wp2_with fail
      refine (sane_any _).mono ?_
      rintro e w1 ⟨rfl, hb⟩
      have hbs := hb.size
      have hp1 := (hp.below hb).more hbs
      go_wp2_with fail
      refine (different_no _ _ _ l _ hp1 (by omega) HD.out).mono ?_
      rintro e w1d ⟨rfl, d1⟩
      obtain ⟨m1, rfl⟩ := d1
      go_wp2
      go_ret
      exact ⟨rfl, bdr hb m1⟩
  · have g1 : (64 : Int) < n := by omega
    go_enter Try.func6, Try.ntmps6
    go_wp2_with fail
    refine (sane_any _).mono ?_
    rintro e w1 ⟨rfl, hb⟩
    go_wp2
    go_ret
    exact ⟨rfl, hb⟩

set_option maxRecDepth 100000 in
theorem lifted (os : Os) (started : os.Started) (H : Type) (enc : TypeId × Value → H) :
    ReturnsInHanded {} Try.checked os 6 .any (Rows.fieldThroughSpec.pre6 enc Try.prog Try.f6 Rows.fieldThroughRow.domain false) (Rows.fieldThroughSpec.post enc Try.prog Try.f6 false true false false) := by
  refine returnsInHanded_of_change (C := Try.checked) own started (by kernel_rfl) Try.func6
    (ChangeSpec.witness6 (enc := enc) (C := Try.checked) false ⟨#[], #[.slice none 0 0, .slice none 0 0, .int .i64 0], []⟩ 8 (by kernel_rfl) (by kernel_rfl) (by kernel_rfl) (by kernel_rfl)) ?_
  intro W base args ds gs before hval0 hW hcnd _
  have hval : ∀ (j : Nat) t v, Try.f6.params[j]? = some t → args[j]? = some v → Value.okWide Try.prog W .any base t v := hval0
  have hW' := hW
  obtain ⟨p, q, hA0, hV, rfl, hfz, hnd⟩ := hW
  have hA : DataW.TrodAll enc Try.prog W 0 (fun _ => true) true Try.f6.params.toList args.toList ds p := hA0
  rw [Try.params6] at hA hval
  obtain ⟨v0, vs0, d0, ds0, p0, q0, hargs, rfl, rfl, h0, r0⟩ := trodAll_cons hA
  obtain ⟨v1, vs1, d1, ds1, p1, q1, rfl, rfl, rfl, h1, r1⟩ := trodAll_cons r0
  obtain ⟨v2, vs2, d2, ds2, p2, q2, rfl, rfl, rfl, h2, r2⟩ := trodAll_cons r1
  obtain ⟨rfl, rfl, rfl⟩ := trodAll_nil r2
  obtain rfl : args = #[v0, v1, v2] := by cases args; simp_all
  obtain ⟨rfl, rfl⟩ := trodVars_none hV
  obtain ⟨a0, n0, c0, rfl⟩ := okWide_slice Try.underlying30 (hval 0 30 v0 rfl rfl)
  have k0 := h0
  have lt0 : ∀ x ∈ p0, x.block < W.heap.size := by obtain ⟨m, hm⟩ := k0; exact DataW.trod_lt m _ _ _ hm
  obtain ⟨z0, w0⟩ := open_pts h0
  obtain ⟨a1, n1, c1, rfl⟩ := okWide_slice Try.underlying29 (hval 1 29 v1 rfl rfl)
  have k1 := h1
  have lt1 : ∀ x ∈ p1, x.block < W.heap.size := by obtain ⟨m, hm⟩ := k1; exact DataW.trod_lt m _ _ _ hm
  obtain ⟨z1, w1⟩ := open_ints64 h1
  obtain ⟨a2, rfl, rfl, rfl, w2⟩ := open_int Try.underlying3 (hval 2 3 v2 rfl rfl) h2
  clear hA0 hval0
  refine (walk a0 n0 c0 z0 a1 n1 c1 z1 a2 W w0 w1 w2).mono fun e W' ⟨he, bel⟩ => ?_
  subst he
  exact ⟨_, rfl, _, _, _, [], _, [], hW', trodAll_mk1 (shut_bool Try.underlying4 _), (trodAll_cons_mk (Below.trod laidOut (by kernel_rfl) (of_decide_eq_true (by kernel_rfl)) k0 bel lt0) (trodAll_cons_mk (Below.trod laidOut (by kernel_rfl) (of_decide_eq_true (by kernel_rfl)) k1 bel lt1) (trodAll_cons_mk (shut_int Try.underlying3 w2) trodAll_mk0))), rfl, bel.frame _, fun h => by cases h⟩

theorem over : Rows.fieldThroughRow.holds Try.pinned (OpenSpec.ofChange Rows.fieldThroughSpec) :=
  OpenClaim.holds_of_wide 6 Try.f6 rfl rfl rfl rfl rfl rfl rfl ⟨rfl, rfl, rfl, rfl, rfl⟩ rfl rfl rfl rfl rfl (by kernel_rfl) Try.func6 (by kernel_rfl)
    (of_decide_eq_true (by kernel_rfl)) (by unfold Func.isWrapper; first | (rw [if_pos (by decide +kernel)]; kernel_rfl) | (rw [if_neg (by decide +kernel)]; exact ⟨rfl, rfl⟩))
    (fun os started H enc _ => lifted os started H enc)
theorem proved : Rows.FieldThroughSaid := over
#print axioms proved
end Go.Proofs.Ytdajanoikcemoaa.fieldThrough
