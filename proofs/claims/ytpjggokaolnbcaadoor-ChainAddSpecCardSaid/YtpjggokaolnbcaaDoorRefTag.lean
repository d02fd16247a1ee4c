/- The reference's digest: Tagged. -/
import Derived.Test.YtpjggokaolnbcaaDoorRefSum
namespace Go.Proofs.YtpjggokaolnbcaaDoor
open Go.RowKit
set_option linter.unusedVariables false
set_option maxRecDepth 100000 in
set_option maxHeartbeats 2000000 in
theorem rtagged_any (K : Sh.Cst) (s : ByteArray) (A : Option Addr) (n cap : Nat) (bs : List Int) (w : World) (hs : s.size ≤ 1000) (hr : Rd w w.heap.size 1 A n (bs.map (Value.int .u8))) (hbb : ∀ x ∈ bs, 0 ≤ x ∧ x < 256)
    (hn : n ≤ 100000) (hnc : n ≤ cap) (hcap : cap ≤ maxLen) :
    Calls Tryd.prog 34 #[.string s, .slice A n cap] w fun e w' => e = .returned (.agg ((Sh.tagged K (strInts s) bs).map (Value.int .u8)).toArray) ∧ Below w.heap.size w w' := by
  have hcv := fun W => Lib.run_convert_string_bytes (P := Tryd.prog) W 9 23 5 s Tryd.underlying9 Tryd.underlying23 Tryd.underlying5
  obtain ⟨i0, hi, hz0, hz1, hz2⟩ := info_parts infoU8c
  go_enter Tryd.func34, Tryd.ntmps34
  have hcb := conv_bytes (w.alloc (.cells ((List.replicate 32 (0 : Int)).map (Value.int .u8)).toArray 35)) s
  have hc1 := grownCap_ge (w.alloc (.cells ((List.replicate 32 (0 : Int)).map (Value.int .u8)).toArray 35)) s.size 0 5
  have hc2 := grownCap_le_maxLen (w.alloc (.cells ((List.replicate 32 (0 : Int)).map (Value.int .u8)).toArray 35)) s.size 0 5 (by unfold maxLen; omega)
  rw [World.size_alloc] at hcb
  obtain ⟨hR1, hb1⟩ := hcb
  have hB1 := ((Below.refl w.heap.size w).alloc (Nat.le_refl _) (.cells ((List.replicate 32 (0 : Int)).map (Value.int .u8)).toArray 35)).trans (hb1.mono (by omega))
  have hD := (Ints.new w 35 .u8 (List.replicate 32 0)).below hb1 (by omega)
  have HR := Lib.hid hr
  clear hb1 hr
  have HF := Lib.hid (And.intro hR1 (And.intro hc1 (And.intro hc2 (And.intro hB1 hD))))
  clear hR1 hc1 hc2 hB1 hD
  go_wp2_with fail
  obtain ⟨hR1, hc1, hc2, hB1, hD⟩ := HF.out
  refine (rsum_any K _ s.size _ (strInts s) _ hR1 (strInts_byt s) (by omega) hc1 hc2).mono ?_
  rintro e w2 ⟨rfl, hb2⟩
  have hD2 := hD.below hb2 hD.lt
  have hB2 := hB1.trans (hb2.mono hB1.size)
  have hs2 := Nat.le_trans hB1.size hb2.size
  have hdw := hD2.lt
  clear HF hR1 hc1 hc2 hB1 hD hb2 hcv
  have hT := Sh.sum_length K (strInts s)
  have hTb := Sh.sum_bytes K (strInts s)
  obtain ⟨T, hTe⟩ : ∃ T, Sh.sum K (strInts s) = T := ⟨_, rfl⟩
  rw [hTe] at hT hTb ⊢
  have HTE := Lib.hid hTe
  have hi73 : (Tryd.prog.info? 35).map (·.size) = some T.length := by rw [hT]; kernel_rfl
  have HT := Lib.hid hT
  have HTB := Lib.hid hTb
  have HI73 := Lib.hid hi73
  clear hTe hT hTb hi73
  have hN := Ints.new w2 35 .u8 (List.replicate 32 0)
  have HN := Lib.hid hN
  clear hN
  go_wp2_with (first
    | (refine wpList_store_ints rfl 35 (.tmp 5) (.tmp 8) rfl w2.heap.size .u8 T (by rfl) (by rfl) 35 _ HN.out (by rw [HT.out]; rfl) HI73.out ?_; intro w3 hN3 hg3
       have hD3 := (hD2.alloc _).grown hg3 (by simp; omega)
       have hB3 := (hB2.alloc hs2 _).grown hg3 (by simp; omega) (fun g e => by injection e with e; omega)
       have hown := World.ownsRow_lit (e := 5) (size := 1) (base := w3.heap.size) w3 #[] 0 (Nat.le_refl _) (by decide) rfl
       have hB0 := (Below.refl w3.heap.size w3).alloc (Nat.le_refl _) (.cells #[] 5)
       have T0 : One w3 w3.heap.size (w3.alloc (.cells #[] 5)) 5 1 (.slice (some ⟨w3.heap.size, 0, none⟩) 0 0) 0 [] := ⟨hown, hB0, hB0.size⟩
       have r1 : Rd w3 w3.heap.size 1 (some ⟨w2.heap.size, 0, none⟩) 32 (T.map (Value.int .u8)) := by
         have h := hN3.rd 0 32 (by rw [HT.out]; omega)
         rw [List.drop_zero, List.take_of_length_le (by rw [HT.out]; omega)] at h
         exact h
       have HRA := Lib.hid r1
       have HRB := Lib.hid ((HR.out.below hB3).more hB3.size)
       have HDB := Lib.hid (And.intro hD3 hB3)
       clear hown hB0 r1 hN3 hg3 hD3 hB3 hD2 hB2 HN)
    | (at_builtin; refine wpList_append_rd _ rfl (.tmp 9) (.tmp 10) 23 rfl w3.heap.size 5 i0 (.int .u8 0) 1 1 Tryd.underlying23 hi hz0 hz1 hz2 rfl (by decide) _ 0 _ (by rfl) T0.own w3.heap.size _ 32 _ _ (by rfl) (HRA.out.below T0.bel) (u8_one _) (by unfold maxLen; omega) (by omega) T0.size ?_; intro v1 w4 ho4 hg4 _; have T1 := T0.grew ho4 hg4; clear ho4 hg4 T0)
    | (at_builtin; refine wpList_append_rd _ rfl (.tmp 11) (.tmp 12) 23 rfl w3.heap.size 5 i0 (.int .u8 0) 1 1 Tryd.underlying23 hi hz0 hz1 hz2 rfl (by decide) _ (0 + 32) _ (by rfl) T1.own w3.heap.size _ n _ _ (by rfl) (HRB.out.below T1.bel) (u8_one _) (by unfold maxLen; omega) (by omega) T1.size ?_; intro v2 w5 ho5 hg5 _; have T2 := T1.grew ho5 hg5; clear ho5 hg5 T1; obtain ⟨A5, c5, rfl, hR5, hl5, hc5⟩ := own_slice' T2.own; have HS := Lib.hid (And.intro T2.bel (And.intro hR5 (And.intro hl5 hc5))); clear T2 hR5 hl5 hc5)
    | fail)
  obtain ⟨hb5, hR5, hl5, hc5⟩ := HS.out
  obtain ⟨hD3, hB3⟩ := HDB.out
  have hTbb : ∀ x ∈ T ++ bs, 0 ≤ x ∧ x < 256 := fun x hx => by
    rcases List.mem_append.1 hx with h | h
    · exact HTB.out x h
    · exact hbb x h
  have hR5' : Rd w5 w5.heap.size 1 A5 (32 + n) ((T ++ bs).map (Value.int .u8)) := by
    rw [List.map_append]
    have h := hR5
    rw [Nat.zero_add, List.nil_append] at h
    exact h
  have hl5' : 32 + n ≤ c5 := by omega
  have hD5 := hD3.below hb5 hD3.lt
  have hB5 := hB3.trans (hb5.mono hB3.size)
  clear hR5 hl5 hD3 hB3
  refine (rsum_any K A5 (32 + n) c5 (T ++ bs) _ hR5' hTbb (by omega) hl5' hc5).mono ?_
  rintro e w6 ⟨rfl, hb6⟩
  have hD6 := hD5.below hb6 hD5.lt
  have hB6 := hB5.trans (hb6.mono hB5.size)
  have HG : Hid (Sh.tagged K (strInts s) bs = Sh.sum K (T ++ bs)) := by
    show _ = _
    rw [Sh.tagged, HTE.out]
  have hUl := Sh.sum_length K (T ++ bs)
  clear hR5' hTbb hl5' hD5 hB5 hb6 HS HDB hc5 hb5
  generalize Sh.sum K (T ++ bs) = U at *
  have hi73' : (Tryd.prog.info? 35).map (·.size) = some U.length := by rw [hUl]; exact info73
  have HUl := Lib.hid hUl
  have HI := Lib.hid hi73'
  clear hUl hi73'
  go_wp2_with (refine wpList_store_ints rfl 35 (.tmp 4) (.tmp 14) rfl w.heap.size .u8 U (by rfl) (by rfl) 35 _ hD6 (by rw [HUl.out]; rfl) HI.out ?_; intro w7 hD7 hg7)
  refine bodyPost_ret (results_cell_row rfl _ _ w.heap.size 35 _ (0, 0) _ (by rfl) hD7 Tryd.underlying35 (by rfl) (by simpa using HI.out)) rfl ?_
  exact ⟨by rw [HG.out], hB6.grown hg7 hB6.size (fun g e => by injection e with e; omega)⟩
end Go.Proofs.YtpjggokaolnbcaaDoor
