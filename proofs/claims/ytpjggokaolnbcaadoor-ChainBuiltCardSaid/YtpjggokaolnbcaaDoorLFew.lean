/- Few; Same. -/
import Derived.Test.YtpjggokaolnbcaaDoorLPart1
import Derived.StillTailTactics
namespace Go.Proofs.YtpjggokaolnbcaaDoor
open Go.RowKit
attribute [local go_sem] Oper.semAt_some
set_option linter.unusedVariables false
theorem wpStill_val {P : Program} {ops : Array Oper} {rest : List Oper} {o : Oper} {a : Act} {w : World} {Q : Act → Prop} (v : Value) (hw : Region.wanted o (yielded ops a.tmps) = true)
    (hrun : (execOp a.eval o).run P w = .ok (.value v) w) (h : wpStill P ops w Q rest (a.put o.dst v)) : wpStill P ops w Q (o :: rest) a :=
  wpStill_step fun K hK => by
    rw [if_pos hw]
    unfold Oper.still
    rw [hrun, Oper.stillUpon_value]
    exact hK _ h
namespace Ch
/-- are the links few and small? -/
def few (L : List LkV) : Bool := decide (L.length ≤ 16 ∧ ∀ x ∈ L, x.data.length ≤ 300)
/-- are two chains the same? -/
def sameL (L M : List LkV) : Bool := decide (L.length = M.length ∧ ∀ j, j < L.length → sameV (gk L j) (gk M j) = true)
theorem gk_mem {L : List LkV} {k : Nat} (hk : k < L.length) : gk L k ∈ L ∧ L[k]? = some (gk L k) := by
  have : gk L k = L[k] := by unfold gk; rw [List.getD_eq_getElem?_getD, List.getElem?_eq_getElem hk]; rfl
  rw [this]
  exact ⟨List.getElem_mem hk, List.getElem?_eq_getElem hk⟩
def fewTo (L : List LkV) (k : Nat) : Prop := ∀ j, j < k → (gk L j).data.length ≤ 300
theorem fewTo_next {L : List LkV} {k : Nat} (h : fewTo L k) (hk : (gk L k).data.length ≤ 300) : fewTo L (k + 1) := fun j hj => by
  by_cases e : j = k
  · rw [e]; exact hk
  · exact h j (by omega)
theorem fewTo_end {L : List LkV} (hl : L.length ≤ 16) (h : fewTo L L.length) : few L = true := by
  unfold few
  refine decide_eq_true ⟨hl, fun x hx => ?_⟩
  obtain ⟨j, hj, rfl⟩ := List.getElem_of_mem hx
  have h2 := (gk_mem hj).2
  rw [List.getElem?_eq_getElem hj] at h2
  injection h2 with h2
  rw [h2]
  exact h j hj
theorem few_not {L : List LkV} {k : Nat} (hk : k < L.length) (h : ¬ (gk L k).data.length ≤ 300) : few L = false :=
  decide_eq_false fun hh => h (hh.2 _ (gk_mem hk).1)
def sameTo (L M : List LkV) (k : Nat) : Prop := ∀ j, j < k → sameV (gk L j) (gk M j) = true
theorem sameTo_next {L M : List LkV} {k : Nat} (h : sameTo L M k) (hk : sameV (gk L k) (gk M k) = true) : sameTo L M (k + 1) := fun j hj => by
  by_cases e : j = k
  · rw [e]; exact hk
  · exact h j (by omega)
end Ch
set_option maxRecDepth 100000 in
set_option maxHeartbeats 2000000 in
theorem few_any (A : Option Addr) (n c : Nat) (L : List LkV) (w : World) (hL : Lks w w.heap.size A n L) :
    Calls Tryd.prog 9 #[.slice A n c] w fun e w' => e = .returned (.bool (Ch.few L)) ∧ w' = w := by
  have HN : Hid (L.length = n) := hL.len
  by_cases hn : n ≤ 16
  · have hn1 : ¬ (16 : Int) < (n : Int) := by omega
    have hn2 : (n : Int) ≤ 16 := by omega
    go_enter Tryd.func9, Tryd.ntmps9
    go_wp2
    go_loopw [3] (fun i wr => w = wr ∧ ∃ k : Nat, k ≤ n ∧ i = .int .i64 k ∧ Ch.fewTo L k) (fun i _ => n - (intOf i).toNat)
    case atStart => exact ⟨rfl, 0, Nat.zero_le _, rfl, fun j hj => absurd hj (by omega)⟩
    case round =>
      obtain ⟨rfl, k, hk, rfl, hu⟩ := hrel
      by_cases hlt : k < n
      · obtain ⟨b, o, rfl, hb, hc⟩ := hL.at (Ch.gk_mem (L := L) (k := k) (by rw [HN.out]; exact hlt)).2
        have hd := hc 34 _ (LkV.cell_d _ (hL.all _ (Ch.gk_mem (L := L) (k := k) (by rw [HN.out]; exact hlt)).1).plen)
        have hk3 : (0 : Int) ≤ (k : Int) := by omega
        have hk4 : (k : Int) < (n : Int) := by omega
        obtain ⟨d, hdl⟩ : ∃ d, (Ch.gk L k).data.length = d := ⟨_, rfl⟩
        rw [hdl] at hd
        clear hc
        by_cases h3 : d ≤ 300
        · have HG : Hid (Ch.fewTo L (k + 1)) := Ch.fewTo_next hu (by rw [hdl]; exact h3)
          have h4 : ¬ (300 : Int) < (d : Int) := by omega
          have h5 : (d : Int) ≤ 300 := by omega
          clear hdl
          go_wp2
          go_roundw
          case rel => exact ⟨trivial, k + 1, by omega, by go_num, HG.out⟩
          case measure => simp [intOf]; omega
        · have HG : Hid (Ch.few L = false) := Ch.few_not (L := L) (k := k) (by rw [HN.out]; exact hlt) (by rw [hdl]; exact h3)
          have h4 : (300 : Int) < (d : Int) := by omega
          clear hdl
          go_wp2
          go_ret
          exact ⟨by rw [HG.out]; rfl, rfl⟩
      · obtain rfl : k = n := by omega
        go_wp2
        go_ret
        exact ⟨by rw [Ch.fewTo_end (by rw [HN.out]; exact hn) (by rw [HN.out]; exact hu)]; rfl, rfl⟩
  · have hn1 : (16 : Int) < (n : Int) := by omega
    have HG : Hid (Ch.few L = false) := by
      show _ = _
      exact decide_eq_false fun hh => hn (by have := hh.1; rw [HN.out] at this; exact this)
    go_enter Tryd.func9, Tryd.ntmps9
    go_wp2
    go_ret
    exact ⟨by rw [HG.out]; rfl, rfl⟩
set_option maxRecDepth 100000 in
set_option maxHeartbeats 2000000 in
theorem same_any (A A' : Option Addr) (n n' c c' : Nat) (L M : List LkV) (w : World) (hL : Lks w w.heap.size A n L) (hM : Lks w w.heap.size A' n' M) (hn : n ≤ 100000) :
    Calls Tryd.prog 14 #[.slice A n c, .slice A' n' c'] w fun e w' => e = .returned (.bool (Ch.sameL L M)) ∧ Below w.heap.size w w' := by
  have HN : Hid (L.length = n) := hL.len
  have HN' : Hid (M.length = n') := hM.len
  by_cases hnn : n = n'
  · subst hnn
    go_enter Tryd.func14, Tryd.ntmps14
    go_wp2
    go_loopw [5] (fun i wr => ∃ k : Nat, k ≤ n ∧ i = .int .i64 k ∧ Ch.sameTo L M k ∧ Below w.heap.size w wr) (fun i _ => n - (intOf i).toNat)
    case atStart => exact ⟨0, Nat.zero_le _, rfl, fun j hj => absurd hj (by omega), Below.refl _ _⟩
    case round =>
      obtain ⟨k, hk, rfl, hu, hB⟩ := hrel
      by_cases hlt : k < n
      · have hmL := Ch.gk_mem (L := L) (k := k) (by rw [HN.out]; exact hlt)
        have hmM := Ch.gk_mem (L := M) (k := k) (by rw [HN'.out]; exact hlt)
        have hLw := hL.below hB
        have hMw := hM.below hB
        obtain ⟨b, o, rfl, hb, hc⟩ := hLw.at hmL.2
        obtain ⟨b', o', rfl, hb', hc'⟩ := hMw.at hmM.2
        have hoL := (hLw.all _ hmL.1).more hB.size
        have hoM := (hMw.all _ hmM.1).more hB.size
        have hk3 : (0 : Int) ≤ (k : Int) := by omega
        have hk4 : (k : Int) < (n : Int) := by omega
        have hs := fun w' (hB' : Below wr.heap.size wr w') => samelink_any (Ch.gk L k) (Ch.gk M k) w' ((hoL.below hB').more hB'.size) ((hoM.below hB').more hB'.size)
        have hx1 : ∀ (j : Nat) (v : Value), (Ch.gk L k).cells[j]? = some v → wr.cell? ((⟨b, o + k * 35, none⟩ : Addr).add j) = some v := fun j v hv => by
          rw [Addr.add_flat]; exact hc j v hv
        have hx2 : ∀ (j : Nat) (v : Value), (Ch.gk M k).cells[j]? = some v → wr.cell? ((⟨b', o' + k * 35, none⟩ : Addr).add j) = some v := fun j v hv => by
          rw [Addr.add_flat]; exact hc' j v hv
        have hlx := LkV.cells_length hoL
        have hly := LkV.cells_length hoM
        have hix : (Tryd.prog.info? 37).map (·.size) = some (Ch.gk L k).cells.length := by rw [hlx]; exact info_link
        have hiy : (Tryd.prog.info? 37).map (·.size) = some (Ch.gk M k).cells.length := by rw [hly]; exact info_link
        obtain ⟨s, hsv⟩ : ∃ s, Ch.sameV (Ch.gk L k) (Ch.gk M k) = s := ⟨_, rfl⟩
        rw [hsv] at hs
        generalize (Ch.gk L k).cells = CX at hs hx1 hix
        generalize (Ch.gk M k).cells = CY at hs hx2 hiy
        have HP := Lib.hid (And.intro hx1 (And.intro hx2 (And.intro hix hiy)))
        have HS := Lib.hid hs
        have HV := Lib.hid hsv
        have HB := Lib.hid hB
        clear hs hx1 hx2 hix hiy hc hc' hsv hlx hly hoL hoM hmL hmM hLw hMw
        cases s with
        | true =>
          have HG : Hid (Ch.sameTo L M (k + 1)) := Ch.sameTo_next hu HV.out
          go_wp2
          go_still_tail 8, (by kernel_rfl)
          refine wpStill_val (.agg CX.toArray) (by rfl) (run_load_exec 37 (.tmp 19) rfl ⟨b, o + k * 35, none⟩ (by rfl) CX _ (fun j v hv => HP.out.1 j v hv) Tryd.underlying37 (by rfl) HP.out.2.2.1) ?_
          repeat still_step
          refine wpStill_val (.agg CY.toArray) (by rfl) (run_load_exec 37 (.tmp 23) rfl ⟨b', o' + k * 35, none⟩ (by rfl) CY _ (fun j v hv => HP.out.2.1 j v hv) Tryd.underlying37 (by rfl) HP.out.2.2.2) ?_
          refine wpStill_nil ?_
          change wpList _ _ _ _ _ wr.drew
          go_wp2_with fail
          refine (HS.out _ ((Below.refl _ wr).drew)).mono ?_
          rintro e w4 ⟨rfl, hb⟩
          have HB4 := Lib.hid (HB.out.trans ((((Below.refl wr.heap.size wr).drew).trans hb).mono HB.out.size))
          go_wp2
          go_roundw
          case rel => exact ⟨k + 1, by omega, by go_num, HG.out, HB4.out⟩
          case measure => simp [intOf]; omega
        | false =>
          have HG : Hid (Ch.sameL L M = false) := by
            show _ = _
            exact decide_eq_false fun hh => by have := hh.2 k (by rw [HN.out]; exact hlt); rw [HV.out] at this; cases this
          go_wp2
          go_still_tail 8, (by kernel_rfl)
          refine wpStill_val (.agg CX.toArray) (by rfl) (run_load_exec 37 (.tmp 19) rfl ⟨b, o + k * 35, none⟩ (by rfl) CX _ (fun j v hv => HP.out.1 j v hv) Tryd.underlying37 (by rfl) HP.out.2.2.1) ?_
          repeat still_step
          refine wpStill_val (.agg CY.toArray) (by rfl) (run_load_exec 37 (.tmp 23) rfl ⟨b', o' + k * 35, none⟩ (by rfl) CY _ (fun j v hv => HP.out.2.1 j v hv) Tryd.underlying37 (by rfl) HP.out.2.2.2) ?_
          refine wpStill_nil ?_
          change wpList _ _ _ _ _ wr.drew
          go_wp2_with fail
          refine (HS.out _ ((Below.refl _ wr).drew)).mono ?_
          rintro e w4 ⟨rfl, hb⟩
          have HB4 := Lib.hid (HB.out.trans ((((Below.refl wr.heap.size wr).drew).trans hb).mono HB.out.size))
          go_wp2
          go_ret
          exact ⟨by rw [HG.out]; rfl, HB4.out⟩
      · obtain rfl : k = n := by omega
        go_wp2
        go_ret
        exact ⟨by rw [show Ch.sameL L M = true from decide_eq_true ⟨by rw [HN.out, HN'.out], by rw [HN.out]; exact hu⟩]; rfl, hB⟩
  · have hn1 : ((n : Int) == (n' : Int)) = false := by simp; omega
    have HG : Hid (Ch.sameL L M = false) := by
      show _ = _
      exact decide_eq_false fun hh => hnn (by have := hh.1; rw [HN.out, HN'.out] at this; exact this)
    go_enter Tryd.func14, Tryd.ntmps14
    go_wp2
    go_ret
    exact ⟨by rw [HG.out]; rfl, Below.refl _ _⟩
end Go.Proofs.YtpjggokaolnbcaaDoor
