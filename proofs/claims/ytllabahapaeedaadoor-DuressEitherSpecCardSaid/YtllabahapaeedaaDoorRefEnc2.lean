/- The reference's codec: the encoding of a list of two integers. -/
import Derived.Test.YtllabahapaeedaaDoorRefEnc
import Derived.Test.YtllabahapaeedaaDoorDigTag
namespace Go.Proofs.YtllabahapaeedaaDoor
open Go.RowKit
set_option linter.unusedVariables false
set_option maxRecDepth 100000 in
set_option maxHeartbeats 2000000 in
theorem renc_two (g c : Nat) (n1 n2 : Int) (L1 L2 : List Int) (w : World) (hr : Rd w w.heap.size 4 (some ⟨g, 0, none⟩) 2 (intCells [n1, n2])) (hl1 : L1.length ≤ 20) (hl2 : L2.length ≤ 20)
    (h0 : ∀ w, Calls Tryd.prog 55 #[.int .u64 2] w (OwnPost [2] w))
    (h1 : ∀ w, Calls Tryd.prog 43 #[.agg #[.int .i64 1, .int .i64 n1, .string ⟨#[]⟩, .slice none 0 0]] w (OwnPost L1 w))
    (h2 : ∀ w, Calls Tryd.prog 43 #[.agg #[.int .i64 1, .int .i64 n2, .string ⟨#[]⟩, .slice none 0 0]] w (OwnPost L2 w)) :
    Calls Tryd.prog 43 #[listV (some ⟨g, 0, none⟩) 2 c] w (BytesPost ([3] ++ [2] ++ L1 ++ L2) w) := by
  obtain ⟨i0, hi, hz0, hz1, hz2⟩ := info_parts infoU8c
  obtain ⟨hgb, q0, q1, q2, q3, q4, q5, q6, q7⟩ := rd_cells hr
  have hBx := (Below.refl w.heap.size w).alloc (Nat.le_refl _) (lcells g c)
  have hQ : ∀ wx, Below (w.heap.size + 1) (w.alloc (lcells g c)) wx →
      (wx.cell? ⟨w.heap.size, 0, none⟩ = some (.int .i64 3) ∧ wx.cell? ⟨w.heap.size, 1, none⟩ = some (.int .i64 0) ∧ wx.cell? ⟨w.heap.size, 2, none⟩ = some (.string ⟨#[]⟩) ∧ wx.cell? ⟨w.heap.size, 3, none⟩ = some (.slice (some ⟨g, 0, none⟩) 2 c)) ∧
      (wx.cell? ⟨g, 0, none⟩ = some (.int .i64 1) ∧ wx.cell? ⟨g, 1, none⟩ = some (.int .i64 n1) ∧ wx.cell? ⟨g, 2, none⟩ = some (.string ⟨#[]⟩) ∧ wx.cell? ⟨g, 3, none⟩ = some (.slice none 0 0)) ∧
      (wx.cell? ⟨g, 4, none⟩ = some (.int .i64 1) ∧ wx.cell? ⟨g, 5, none⟩ = some (.int .i64 n2) ∧ wx.cell? ⟨g, 6, none⟩ = some (.string ⟨#[]⟩) ∧ wx.cell? ⟨g, 7, none⟩ = some (.slice none 0 0)) := fun wx hx => by
    have hg2 : g < w.heap.size + 1 := by omega
    exact ⟨⟨(hx.cell (p := ⟨w.heap.size, 0, none⟩) (Nat.lt_succ_self _)).trans (box_cell w _ _ 0 _ rfl), (hx.cell (p := ⟨w.heap.size, 1, none⟩) (Nat.lt_succ_self _)).trans (box_cell w _ _ 1 _ rfl), (hx.cell (p := ⟨w.heap.size, 2, none⟩) (Nat.lt_succ_self _)).trans (box_cell w _ _ 2 _ rfl), (hx.cell (p := ⟨w.heap.size, 3, none⟩) (Nat.lt_succ_self _)).trans (box_cell w _ _ 3 _ rfl)⟩,
      ⟨(hx.cell (p := ⟨g, 0, none⟩) hg2).trans ((hBx.cell (p := ⟨g, 0, none⟩) hgb).trans q0), (hx.cell (p := ⟨g, 1, none⟩) hg2).trans ((hBx.cell (p := ⟨g, 1, none⟩) hgb).trans q1), (hx.cell (p := ⟨g, 2, none⟩) hg2).trans ((hBx.cell (p := ⟨g, 2, none⟩) hgb).trans q2), (hx.cell (p := ⟨g, 3, none⟩) hg2).trans ((hBx.cell (p := ⟨g, 3, none⟩) hgb).trans q3)⟩,
      ⟨(hx.cell (p := ⟨g, 4, none⟩) hg2).trans ((hBx.cell (p := ⟨g, 4, none⟩) hgb).trans q4), (hx.cell (p := ⟨g, 5, none⟩) hg2).trans ((hBx.cell (p := ⟨g, 5, none⟩) hgb).trans q5), (hx.cell (p := ⟨g, 6, none⟩) hg2).trans ((hBx.cell (p := ⟨g, 6, none⟩) hgb).trans q6), (hx.cell (p := ⟨g, 7, none⟩) hg2).trans ((hBx.cell (p := ⟨g, 7, none⟩) hgb).trans q7)⟩⟩
  have hown := World.ownsRow_lit (e := 5) (size := 1) (base := w.heap.size + 1) (w.alloc (lcells g c)) #[.int .u8 3] 1 (by simp) (by decide) rfl
  rw [World.size_alloc] at hown
  have hB0 := (Below.refl (w.heap.size + 1) (w.alloc (lcells g c))).alloc (by simp) (.cells #[.int .u8 3] 5)
  have T0 : One (w.alloc (lcells g c)) (w.heap.size + 1) ((w.alloc (lcells g c)).alloc (.cells #[.int .u8 3] 5)) 5 1 (.slice (some ⟨w.heap.size + 1, 0, none⟩) 1 1) 1 [.int .u8 3] := ⟨hown, hB0, by simp⟩
  obtain ⟨⟨k0, k1, k2, k3⟩, _, _⟩ := hQ _ (Below.refl _ _)
  obtain ⟨P, hP⟩ : ∃ P, BytesPost ([3] ++ [2] ++ L1 ++ L2) w = P := ⟨_, rfl⟩
  rw [hP]
  have HP := Lib.hid hP
  have HB := Lib.hid hBx
  have HT0 := Lib.hid T0
  have HQ := Lib.hid hQ
  clear hr hgb q0 q1 q2 q3 q4 q5 q6 q7 hBx hown hB0 T0 hP hQ
  unfold lcells at *
  unfold listV
  go_enter Tryd.func43, Tryd.ntmps43
  go_wp2_with fail
  refine (h0 _).mono ?_
  rintro e w1 ⟨g1, cap1, rfl, ho1, hb1⟩
  have T1 := HT0.out.below hb1
  have r1 := Rd.of_own ho1
  clear k0 k1 k2 k3 HT0 hb1 ho1
  obtain ⟨⟨k0, k1, k2, k3⟩, _, _⟩ := HQ.out _ T1.bel
  go_wp2_with (at_builtin; refine wpList_append_rd _ rfl (.tmp 27) (.tmp 32) 53 rfl (w.heap.size + 1) 5 i0 (.int .u8 0) 1 1 Tryd.underlying53 hi hz0 hz1 hz2 rfl (by decide) _ 1 _ (by rfl) T1.own w1.heap.size _ 1 _ _ (by rfl) r1 (u8_one _) (by unfold maxLen; omega) (by omega) T1.size ?_; intro v2 w2 ho2 hg2 _; have T2 := T1.grew ho2 hg2; clear ho2 hg2 T1 r1 k0 k1 k2 k3; obtain ⟨⟨k0, k1, k2, k3⟩, ⟨q0, q1, q2, q3⟩, _⟩ := HQ.out _ T2.bel)
  refine wp_loop_rounds 3 ?_
  rw [rounds_succ]
  go_wp2_with fail
  refine (h1 _).mono ?_
  rintro e w3 ⟨g3, cap3, rfl, ho3, hb3⟩
  have T3 := T2.below hb3
  have r3 := Rd.of_own ho3
  clear k0 k1 k2 k3 q0 q1 q2 q3 hb3 ho3 T2
  obtain ⟨⟨k0, k1, k2, k3⟩, _, _⟩ := HQ.out _ T3.bel
  go_wp2_with (at_builtin; refine wpList_append_rd _ rfl (.tmp 41) (.tmp 47) 53 rfl (w.heap.size + 1) 5 i0 (.int .u8 0) 1 1 Tryd.underlying53 hi hz0 hz1 hz2 rfl (by decide) _ (1 + 1) _ (by rfl) T3.own w3.heap.size _ L1.length _ _ (by rfl) r3 (u8_one _) (by unfold maxLen; omega) (by omega) T3.size ?_; intro v4 w4 ho4 hg4 _; have T4 := T3.grew ho4 hg4; clear ho4 hg4 T3 r3 k0 k1 k2 k3)
  obtain ⟨⟨k0, k1, k2, k3⟩, _, ⟨q0, q1, q2, q3⟩⟩ := HQ.out _ T4.bel
  rw [rounds_succ]
  go_wp2_with fail
  refine (h2 _).mono ?_
  rintro e w5 ⟨g5, cap5, rfl, ho5, hb5⟩
  have T5 := T4.below hb5
  have r5 := Rd.of_own ho5
  clear k0 k1 k2 k3 q0 q1 q2 q3 hb5 ho5 T4
  obtain ⟨⟨k0, k1, k2, k3⟩, _, _⟩ := HQ.out _ T5.bel
  go_wp2_with (at_builtin; refine wpList_append_rd _ rfl (.tmp 41) (.tmp 47) 53 rfl (w.heap.size + 1) 5 i0 (.int .u8 0) 1 1 Tryd.underlying53 hi hz0 hz1 hz2 rfl (by decide) _ (1 + 1 + L1.length) _ (by rfl) T5.own w5.heap.size _ L2.length _ _ (by rfl) r5 (u8_one _) (by unfold maxLen; omega) (by omega) T5.size ?_; intro v6 w6 ho6 hg6 _; have T6 := T5.grew ho6 hg6; clear ho6 hg6 T5 r5 k0 k1 k2 k3)
  obtain ⟨⟨k0, k1, k2, k3⟩, _, _⟩ := HQ.out _ T6.bel
  rw [rounds_succ]
  obtain ⟨A, cc, rfl, hR, hlc, hcm⟩ := own_slice' T6.own
  have HF := Lib.hid (And.intro hR (And.intro hlc (And.intro hcm T6.bel)))
  clear hR hlc hcm T6
  go_wp2
  obtain ⟨hR, hlc, hcm, hbel⟩ := HF.out
  have h9 := HP.out
  subst h9
  have hlen : ([3] ++ [2] ++ L1 ++ L2 : List Int).length = 1 + 1 + L1.length + L2.length := by simp; omega
  refine ⟨A, cc, by rw [hlen]; rfl, ?_, by rw [hlen]; exact hlc, hcm, HB.out.trans (hbel.mono (by omega))⟩
  rw [hlen, List.map_append, List.map_append, List.map_append]
  exact hR
theorem rencode_two (g c z1 z2 : Nat) (hz1 : z1 < 4611686018427387904) (hz2 : z2 < 4611686018427387904) (w : World) (hr : Rd w w.heap.size 4 (some ⟨g, 0, none⟩) 2 (intCells [(z1 : Int), (z2 : Int)])) :
    Calls Tryd.prog 43 #[listV (some ⟨g, 0, none⟩) 2 c] w (BytesPost (enc2 z1 z2) w) := by
  have h0 : ∀ w, Calls Tryd.prog 55 #[.int .u64 2] w (OwnPost [2] w) := fun w => by
    have h := rnumeral_any 9 2 (by omega) (by omega) (by omega) w
    rw [numL_two] at h
    exact h
  have t1 := Cd.numL_ten (u := 2 * z1) (by omega)
  have t2 := Cd.numL_ten (u := 2 * z2) (by omega)
  exact renc_two g c z1 z2 (1 :: Cd.numL (2 * z1)) (1 :: Cd.numL (2 * z2)) w hr (by rw [List.length_cons]; omega) (by rw [List.length_cons]; omega) h0 (rencode_int z1 hz1) (rencode_int z2 hz2)
/-- the reference's Encode of two integers -/
theorem rEncode_two (g c z1 z2 : Nat) (hz1 : z1 < 4611686018427387904) (hz2 : z2 < 4611686018427387904) (w : World) (hr : Rd w w.heap.size 4 (some ⟨g, 0, none⟩) 2 (intCells [(z1 : Int), (z2 : Int)])) :
    Calls Tryd.prog 35 #[listV (some ⟨g, 0, none⟩) 2 c] w (EncPost (enc2 z1 z2) w) := by
  have hR := (hr.alloc (Nat.le_refl _) (lcells g c)).more (B' := w.heap.size + 1) (by omega)
  have hBx := (Below.refl w.heap.size w).alloc (Nat.le_refl _) (lcells g c)
  have k0 : (w.alloc (lcells g c)).cell? ⟨w.heap.size, 0, none⟩ = some (.int .i64 3) := box_cell w _ _ 0 _ rfl
  have k1 : (w.alloc (lcells g c)).cell? ⟨w.heap.size, 1, none⟩ = some (.int .i64 0) := box_cell w _ _ 1 _ rfl
  have k2 : (w.alloc (lcells g c)).cell? ⟨w.heap.size, 2, none⟩ = some (.string ⟨#[]⟩) := box_cell w _ _ 2 _ rfl
  have k3 : (w.alloc (lcells g c)).cell? ⟨w.heap.size, 3, none⟩ = some (.slice (some ⟨g, 0, none⟩) 2 c) := box_cell w _ _ 3 _ rfl
  have hs : w.heap.size < (w.alloc (lcells g c)).heap.size := by simp
  have hc := rcheck_two g c z1 z2
  have he := rencode_two g c z1 z2 hz1 hz2
  obtain ⟨E, hE⟩ : ∃ E, enc2 z1 z2 = E := ⟨_, rfl⟩
  rw [hE] at he ⊢
  obtain ⟨P, hP⟩ : ∃ P, EncPost E w = P := ⟨_, rfl⟩
  rw [hP]
  have HP := Lib.hid hP
  have HR := Lib.hid hR
  have HB := Lib.hid hBx
  clear hr hR hBx hE hP
  unfold lcells listV at *
  go_enter Tryd.func35, Tryd.ntmps35
  go_wp2_with fail
  refine (hc _ (by rw [World.size_alloc]; exact HR.out)).mono ?_
  rintro e w1 ⟨rfl, hb1⟩
  have hR1 : Rd w1 w1.heap.size 4 (some ⟨g, 0, none⟩) 2 (intCells [(z1 : Int), (z2 : Int)]) := ((HR.out.below (hb1.mono (by simp))).more (by have := hb1.size; simp at this; omega))
  have hB1 := HB.out.trans (hb1.mono HB.out.size)
  have k0 := (hb1.cell (p := ⟨w.heap.size, 0, none⟩) hs).trans k0
  have k1 := (hb1.cell (p := ⟨w.heap.size, 1, none⟩) hs).trans k1
  have k2 := (hb1.cell (p := ⟨w.heap.size, 2, none⟩) hs).trans k2
  have k3 := (hb1.cell (p := ⟨w.heap.size, 3, none⟩) hs).trans k3
  have HR1 := Lib.hid hR1
  have HB1 := Lib.hid hB1
  clear hb1 hR1 hB1 HR HB
  go_wp2_with fail
  refine (he _ HR1.out).mono ?_
  rintro e w2 ⟨A, cc, rfl, hR2, hlc, hcm, hb2⟩
  have HF := Lib.hid (And.intro hR2 (And.intro hlc (And.intro hcm (HB1.out.trans (hb2.mono HB1.out.size)))))
  clear hR2 hlc hcm hb2
  go_wp2
  have h9 := HP.out
  subst h9
  exact ⟨A, cc, rfl, HF.out.1, HF.out.2.1, HF.out.2.2.1, HF.out.2.2.2⟩
end Go.Proofs.YtllabahapaeedaaDoor
