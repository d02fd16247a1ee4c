/- Where two chains part. -/
import Derived.Test.YtpjggokaolnbcaaDoorLFew
namespace Go.Proofs.YtpjggokaolnbcaaDoor
open Go.RowKit
attribute [local go_sem] Oper.semAt_some
set_option linter.unusedVariables false
namespace Ch
/-- the first place where two lists differ, below m -/
def firstTo (L M : List LkV) (m : Nat) : Option Nat := (List.range m).find? fun k => !sameV (gk L k) (gk M k)
theorem firstTo_none {L M : List LkV} {m : Nat} (h : sameTo L M m) : firstTo L M m = none := by
  unfold firstTo
  rw [List.find?_eq_none]
  intro k hk
  rw [List.mem_range] at hk
  simp [h k hk]
theorem firstTo_some {L M : List LkV} {k m : Nat} (h : sameTo L M k) (hk : k < m) (hf : sameV (gk L k) (gk M k) = false) : firstTo L M m = some k := by
  obtain ⟨d, rfl⟩ : ∃ d, m = k + (d + 1) := ⟨m - k - 1, by omega⟩
  have h0 := firstTo_none h
  unfold firstTo at h0 ⊢
  rw [List.range_add, List.find?_append, h0, List.range_succ_eq_map]
  simp [hf]
def differ (L M : List LkV) : Option Nat := firstTo L M (min L.length M.length)
def differV (o : Option Nat) : Value := .tuple #[.int .i64 (o.getD 0 : Nat), .bool o.isSome]
end Ch
set_option maxRecDepth 100000 in
set_option maxHeartbeats 2000000 in
theorem differ_lt (A A' : Option Addr) (n n' c c' : Nat) (L M : List LkV) (w : World) (hL : Lks w w.heap.size A n L) (hM : Lks w w.heap.size A' n' M) (hn : n ≤ 100000) (hn' : n' ≤ 100000) (hcmp : n' < n) :
    Calls Tryd.prog 23 #[.slice A n c, .slice A' n' c', .func (.func 24) #[] #[]] w fun e w' => e = .returned (Ch.differV (Ch.differ L M)) ∧ Below w.heap.size w w' := by
  have hm : min n n' = n' := by omega
  have hm1 : n' ≤ n := by omega
  have hm2 : n' ≤ n' := by omega
  have HN : Hid (L.length = n) := hL.len
  have HN' : Hid (M.length = n') := hM.len
  have HD : Hid (Ch.differ L M = Ch.firstTo L M n') := by show _ = _; unfold Ch.differ; rw [HN.out, HN'.out, hm]
  go_enter Tryd.func23, Tryd.ntmps23
  go_wp2
  go_loopw [14] (fun i wr => ∃ k : Nat, k ≤ n' ∧ i = .int .i64 k ∧ Ch.sameTo L M k ∧ Below w.heap.size w wr) (fun i _ => n' - (intOf i).toNat)
  case atStart => exact ⟨0, Nat.zero_le _, rfl, fun j hj => absurd hj (by omega), Below.refl _ _⟩
  case round =>
    obtain ⟨k, hk, rfl, hu, hB⟩ := hrel
    by_cases hlt : k < n'
    · have hmL := Ch.gk_mem (L := L) (k := k) (by rw [HN.out]; omega)
      have hmM := Ch.gk_mem (L := M) (k := k) (by rw [HN'.out]; omega)
      have hLw := hL.below hB
      have hMw := hM.below hB
      obtain ⟨b, o, rfl, hb, hc⟩ := hLw.at hmL.2
      obtain ⟨b', o', rfl, hb', hc'⟩ := hMw.at hmM.2
      have hoL := (hLw.all _ hmL.1).more hB.size
      have hoM := (hMw.all _ hmM.1).more hB.size
      have hk3 : (0 : Int) ≤ (k : Int) := by omega
      have hk4 : (k : Int) < (n : Int) := by omega
      have hk5 : (k : Int) < (n' : Int) := by omega
      have hk6 : (k : Int) < (n' : Int) := by omega
      have hs := fun w' (hB' : Below wr.heap.size wr w') => partsame_any (Ch.gk L k) (Ch.gk M k) w' ((hoL.below hB').more hB'.size) ((hoM.below hB').more hB'.size)
      have hx1 : ∀ (j : Nat) (v : Value), (Ch.gk L k).cells[j]? = some v → wr.cell? ((⟨b, o + k * 35, none⟩ : Addr).add j) = some v := fun j v hv => by
        rw [Addr.add_flat]; exact hc j v hv
      have hx2 : ∀ (j : Nat) (v : Value), (Ch.gk M k).cells[j]? = some v → wr.cell? ((⟨b', o' + k * 35, none⟩ : Addr).add j) = some v := fun j v hv => by
        rw [Addr.add_flat]; exact hc' j v hv
      have hlx := LkV.cells_length hoL
      have hly := LkV.cells_length hoM
      have hix : (Tryd.prog.info? 37).map (·.size) = some (Ch.gk L k).cells.length := by rw [hlx]; exact info_link
      have hiy : (Tryd.prog.info? 37).map (·.size) = some (Ch.gk M k).cells.length := by rw [hly]; exact info_link
      obtain ⟨s, hsv⟩ : ∃ s, Ch.sameV (Ch.gk L k) (Ch.gk M k) = s := ⟨_, rfl⟩
      rw [hsv] at hs
      generalize (Ch.gk L k).cells = CX at hs hx1 hix
      generalize (Ch.gk M k).cells = CY at hs hx2 hiy
      have HP := Lib.hid (And.intro hx1 (And.intro hx2 (And.intro hix hiy)))
      have HS := Lib.hid hs
      have HV := Lib.hid hsv
      have HB := Lib.hid hB
      clear hs hx1 hx2 hix hiy hc hc' hsv hlx hly hoL hoM hmL hmM hLw hMw
      cases s with
      | true =>
        have HG : Hid (Ch.sameTo L M (k + 1)) := Ch.sameTo_next hu HV.out
        go_wp2
        go_still_tail 9, (by kernel_rfl)
        refine wpStill_val (.agg CX.toArray) (by rfl) (run_load_exec 37 (.tmp 20) rfl ⟨b, o + k * 35, none⟩ (by rfl) CX _ (fun j v hv => HP.out.1 j v hv) Tryd.underlying37 (by rfl) HP.out.2.2.1) ?_
        repeat still_step
        refine wpStill_val (.agg CY.toArray) (by rfl) (run_load_exec 37 (.tmp 24) rfl ⟨b', o' + k * 35, none⟩ (by rfl) CY _ (fun j v hv => HP.out.2.1 j v hv) Tryd.underlying37 (by rfl) HP.out.2.2.2) ?_
        refine wpStill_nil ?_
        change wpList _ _ _ _ _ wr.drew
        go_wp2_with fail
        refine (HS.out _ ((Below.refl _ wr).drew)).mono ?_
        rintro e w4 ⟨rfl, hb⟩
        have HB4 := Lib.hid (HB.out.trans ((((Below.refl wr.heap.size wr).drew).trans hb).mono HB.out.size))
        go_wp2
        go_roundw
        case rel => exact ⟨k + 1, by omega, by go_num, HG.out, HB4.out⟩
        case measure => simp [intOf]; omega
      | false =>
        have HG : Hid (Ch.differ L M = some k) := by
          show _ = _
          rw [HD.out]
          exact Ch.firstTo_some hu hlt HV.out
        go_wp2
        go_still_tail 9, (by kernel_rfl)
        refine wpStill_val (.agg CX.toArray) (by rfl) (run_load_exec 37 (.tmp 20) rfl ⟨b, o + k * 35, none⟩ (by rfl) CX _ (fun j v hv => HP.out.1 j v hv) Tryd.underlying37 (by rfl) HP.out.2.2.1) ?_
        repeat still_step
        refine wpStill_val (.agg CY.toArray) (by rfl) (run_load_exec 37 (.tmp 24) rfl ⟨b', o' + k * 35, none⟩ (by rfl) CY _ (fun j v hv => HP.out.2.1 j v hv) Tryd.underlying37 (by rfl) HP.out.2.2.2) ?_
        refine wpStill_nil ?_
        change wpList _ _ _ _ _ wr.drew
        go_wp2_with fail
        refine (HS.out _ ((Below.refl _ wr).drew)).mono ?_
        rintro e w4 ⟨rfl, hb⟩
        have HB4 := Lib.hid (HB.out.trans ((((Below.refl wr.heap.size wr).drew).trans hb).mono HB.out.size))
        go_wp2
        go_ret2
        exact ⟨by rw [HG.out]; rfl, HB4.out⟩
    · obtain rfl : n' = k := by omega
      go_wp2
      go_ret2
      exact ⟨by rw [HD.out, Ch.firstTo_none hu]; rfl, hB⟩
set_option maxRecDepth 100000 in
set_option maxHeartbeats 2000000 in
theorem differ_ge (A A' : Option Addr) (n n' c c' : Nat) (L M : List LkV) (w : World) (hL : Lks w w.heap.size A n L) (hM : Lks w w.heap.size A' n' M) (hn : n ≤ 100000) (hn' : n' ≤ 100000) (hcmp : ¬ n' < n) :
    Calls Tryd.prog 23 #[.slice A n c, .slice A' n' c', .func (.func 24) #[] #[]] w fun e w' => e = .returned (Ch.differV (Ch.differ L M)) ∧ Below w.heap.size w w' := by
  have hm : min n n' = n := by omega
  have hm1 : n ≤ n := by omega
  have hm2 : n ≤ n' := by omega
  have HN : Hid (L.length = n) := hL.len
  have HN' : Hid (M.length = n') := hM.len
  have HD : Hid (Ch.differ L M = Ch.firstTo L M n) := by show _ = _; unfold Ch.differ; rw [HN.out, HN'.out, hm]
  go_enter Tryd.func23, Tryd.ntmps23
  go_wp2
  go_loopw [14] (fun i wr => ∃ k : Nat, k ≤ n ∧ i = .int .i64 k ∧ Ch.sameTo L M k ∧ Below w.heap.size w wr) (fun i _ => n - (intOf i).toNat)
  case atStart => exact ⟨0, Nat.zero_le _, rfl, fun j hj => absurd hj (by omega), Below.refl _ _⟩
  case round =>
    obtain ⟨k, hk, rfl, hu, hB⟩ := hrel
    by_cases hlt : k < n
    · have hmL := Ch.gk_mem (L := L) (k := k) (by rw [HN.out]; omega)
      have hmM := Ch.gk_mem (L := M) (k := k) (by rw [HN'.out]; omega)
      have hLw := hL.below hB
      have hMw := hM.below hB
      obtain ⟨b, o, rfl, hb, hc⟩ := hLw.at hmL.2
      obtain ⟨b', o', rfl, hb', hc'⟩ := hMw.at hmM.2
      have hoL := (hLw.all _ hmL.1).more hB.size
      have hoM := (hMw.all _ hmM.1).more hB.size
      have hk3 : (0 : Int) ≤ (k : Int) := by omega
      have hk4 : (k : Int) < (n : Int) := by omega
      have hk5 : (k : Int) < (n' : Int) := by omega
      have hk6 : (k : Int) < (n : Int) := by omega
      have hs := fun w' (hB' : Below wr.heap.size wr w') => partsame_any (Ch.gk L k) (Ch.gk M k) w' ((hoL.below hB').more hB'.size) ((hoM.below hB').more hB'.size)
      have hx1 : ∀ (j : Nat) (v : Value), (Ch.gk L k).cells[j]? = some v → wr.cell? ((⟨b, o + k * 35, none⟩ : Addr).add j) = some v := fun j v hv => by
        rw [Addr.add_flat]; exact hc j v hv
      have hx2 : ∀ (j : Nat) (v : Value), (Ch.gk M k).cells[j]? = some v → wr.cell? ((⟨b', o' + k * 35, none⟩ : Addr).add j) = some v := fun j v hv => by
        rw [Addr.add_flat]; exact hc' j v hv
      have hlx := LkV.cells_length hoL
      have hly := LkV.cells_length hoM
      have hix : (Tryd.prog.info? 37).map (·.size) = some (Ch.gk L k).cells.length := by rw [hlx]; exact info_link
      have hiy : (Tryd.prog.info? 37).map (·.size) = some (Ch.gk M k).cells.length := by rw [hly]; exact info_link
      obtain ⟨s, hsv⟩ : ∃ s, Ch.sameV (Ch.gk L k) (Ch.gk M k) = s := ⟨_, rfl⟩
      rw [hsv] at hs
      generalize (Ch.gk L k).cells = CX at hs hx1 hix
      generalize (Ch.gk M k).cells = CY at hs hx2 hiy
      have HP := Lib.hid (And.intro hx1 (And.intro hx2 (And.intro hix hiy)))
      have HS := Lib.hid hs
      have HV := Lib.hid hsv
      have HB := Lib.hid hB
      clear hs hx1 hx2 hix hiy hc hc' hsv hlx hly hoL hoM hmL hmM hLw hMw
      cases s with
      | true =>
        have HG : Hid (Ch.sameTo L M (k + 1)) := Ch.sameTo_next hu HV.out
        go_wp2
        go_still_tail 9, (by kernel_rfl)
        refine wpStill_val (.agg CX.toArray) (by rfl) (run_load_exec 37 (.tmp 20) rfl ⟨b, o + k * 35, none⟩ (by rfl) CX _ (fun j v hv => HP.out.1 j v hv) Tryd.underlying37 (by rfl) HP.out.2.2.1) ?_
        repeat still_step
        refine wpStill_val (.agg CY.toArray) (by rfl) (run_load_exec 37 (.tmp 24) rfl ⟨b', o' + k * 35, none⟩ (by rfl) CY _ (fun j v hv => HP.out.2.1 j v hv) Tryd.underlying37 (by rfl) HP.out.2.2.2) ?_
        refine wpStill_nil ?_
        change wpList _ _ _ _ _ wr.drew
        go_wp2_with fail
        refine (HS.out _ ((Below.refl _ wr).drew)).mono ?_
        rintro e w4 ⟨rfl, hb⟩
        have HB4 := Lib.hid (HB.out.trans ((((Below.refl wr.heap.size wr).drew).trans hb).mono HB.out.size))
        go_wp2
        go_roundw
        case rel => exact ⟨k + 1, by omega, by go_num, HG.out, HB4.out⟩
        case measure => simp [intOf]; omega
      | false =>
        have HG : Hid (Ch.differ L M = some k) := by
          show _ = _
          rw [HD.out]
          exact Ch.firstTo_some hu hlt HV.out
        go_wp2
        go_still_tail 9, (by kernel_rfl)
        refine wpStill_val (.agg CX.toArray) (by rfl) (run_load_exec 37 (.tmp 20) rfl ⟨b, o + k * 35, none⟩ (by rfl) CX _ (fun j v hv => HP.out.1 j v hv) Tryd.underlying37 (by rfl) HP.out.2.2.1) ?_
        repeat still_step
        refine wpStill_val (.agg CY.toArray) (by rfl) (run_load_exec 37 (.tmp 24) rfl ⟨b', o' + k * 35, none⟩ (by rfl) CY _ (fun j v hv => HP.out.2.1 j v hv) Tryd.underlying37 (by rfl) HP.out.2.2.2) ?_
        refine wpStill_nil ?_
        change wpList _ _ _ _ _ wr.drew
        go_wp2_with fail
        refine (HS.out _ ((Below.refl _ wr).drew)).mono ?_
        rintro e w4 ⟨rfl, hb⟩
        have HB4 := Lib.hid (HB.out.trans ((((Below.refl wr.heap.size wr).drew).trans hb).mono HB.out.size))
        go_wp2
        go_ret2
        exact ⟨by rw [HG.out]; rfl, HB4.out⟩
    · obtain rfl : n = k := by omega
      go_wp2
      go_ret2
      exact ⟨by rw [HD.out, Ch.firstTo_none hu]; rfl, hB⟩
theorem differ_any (A A' : Option Addr) (n n' c c' : Nat) (L M : List LkV) (w : World) (hL : Lks w w.heap.size A n L) (hM : Lks w w.heap.size A' n' M) (hn : n ≤ 100000) (hn' : n' ≤ 100000) :
    Calls Tryd.prog 23 #[.slice A n c, .slice A' n' c', .func (.func 24) #[] #[]] w fun e w' => e = .returned (Ch.differV (Ch.differ L M)) ∧ Below w.heap.size w w' := by
  by_cases h : n' < n
  · exact differ_lt A A' n n' c c' L M w hL hM hn hn' h
  · exact differ_ge A A' n n' c c' L M w hL hM hn hn' h
end Go.Proofs.YtpjggokaolnbcaaDoor
