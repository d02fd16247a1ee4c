/- chain.Part. -/
import Derived.Test.YtpjggokaolnbcaaDoorLPart
import Derived.BigQuiet
import Derived.OwnWalk
namespace Go.Proofs.YtpjggokaolnbcaaDoor
open Go.RowKit
attribute [local go_sem] Oper.semAt_some
set_option linter.unusedVariables false
namespace Ch
/-- do two chains lie on different nodes? -/
def apart (L M : List LkV) : Bool := decide (0 < L.length ∧ 0 < M.length ∧ (gk L 0).node ≠ (gk M 0).node)
/-- what Part answers -/
def part (K : Sh.Cst) (L M : List LkV) : Nat × Bool × Int :=
  if allB K L = true ∧ allB K M = true ∧ apart L M = false then ((differ L M).getD 0, (differ L M).isSome, 0) else (0, false, 80)
def partV (r : Nat × Bool × Int) : Value := .tuple #[.int .i64 (r.1 : Nat), .bool r.2.1, .int .i64 r.2.2]
end Ch
set_option maxRecDepth 100000 in
set_option maxHeartbeats 2000000 in
theorem part_any (K : Sh.Cst) (A A' : Option Addr) (n n' c c' : Nat) (L M : List LkV) (w : World) (hL : Lks w w.heap.size A n L) (hM : Lks w w.heap.size A' n' M) (hn : n ≤ 1000) (hn' : n' ≤ 1000) (hnc : n ≤ c) (hnc' : n' ≤ c') (hf : ∀ x ∈ L, Ch.fit x) (hf' : ∀ x ∈ M, Ch.fit x) (hLd : Laid w) :
    Calls Tryd.prog 12 #[.slice A n c, .slice A' n' c'] w fun e w' => e = .returned (Ch.partV (Ch.part K L M)) ∧ Below w.heap.size w w' := by
  have HN : Hid (L.length = n) := hL.len
  have HN' : Hid (M.length = n') := hM.len
  have HC1 := Lib.hid (check_any K A n c L w hL hn hnc hf hLd)
  have HC2 : Hid (∀ w1, Below w.heap.size w w1 → Calls Tryd.prog 16 #[.slice A' n' c'] w1 fun e W' => e = .returned (.int .i64 (Ch.chk K M)) ∧ Below w1.heap.size w1 W') :=
    fun w1 hb => check_any K A' n' c' M w1 ((hM.below hb).more hb.size) hn' hnc' hf' (hLd.below hb hLd.size)
  have HD : Hid (∀ w1, Below w.heap.size w w1 → Calls Tryd.prog 23 #[.slice A n c, .slice A' n' c', .func (.func 24) #[] #[]] w1 fun e W' => e = .returned (Ch.differV (Ch.differ L M)) ∧ Below w1.heap.size w1 W') :=
    fun w1 hb => differ_any A A' n n' c c' L M w1 ((hL.below hb).more hb.size) ((hM.below hb).more hb.size) (by omega) (by omega)
  clear hf hf' hLd hnc hnc'
  unfold Ch.differV at HD
  by_cases h1 : Ch.allB K L = true
  · have e1 : Ch.chk K L = 0 := by unfold Ch.chk; rw [if_pos h1]
    rw [e1] at HC1
    by_cases h2 : Ch.allB K M = true
    · have e2 : Ch.chk K M = 0 := by unfold Ch.chk; rw [if_pos h2]
      rw [e2] at HC2
      by_cases h3 : Ch.apart L M = true
      · have HG : Hid (Ch.part K L M = (0, false, 80)) := by
          show _ = _
          exact if_neg fun h => by rw [h3] at h; exact absurd h.2.2 (by simp)
        unfold Ch.apart at h3
        rw [decide_eq_true_eq, HN.out, HN'.out] at h3
        obtain ⟨h30, h31, h32⟩ := h3
        have j1 : (0 : Int) < (n : Int) := by omega
        have j2 : (0 : Int) < (n' : Int) := by omega
        obtain ⟨b, o, rfl, hb, hc⟩ := hL.at (Ch.gk_mem (L := L) (k := 0) (by rw [HN.out]; omega)).2
        obtain ⟨b', o', rfl, hb', hc'⟩ := hM.at (Ch.gk_mem (L := M) (k := 0) (by rw [HN'.out]; omega)).2
        have p0 := hc 0 _ (LkV.cell_n _)
        have p1 := hc' 0 _ (LkV.cell_n _)
        simp only [Nat.zero_mul, Nat.add_zero] at p0 p1
        clear hc hc'
        go_enter Tryd.func12, Tryd.ntmps12
        go_wp2_with fail
        refine HC1.out.mono ?_
        rintro e w1 ⟨rfl, hb1⟩
        go_wp2_with fail
        refine (HC2.out _ hb1).mono ?_
        rintro e w2 ⟨rfl, hb2⟩
        have HB2 := Lib.hid (hb1.trans (hb2.mono hb1.size))
        have q0 := (HB2.out.cell (p := ⟨b, o, none⟩) hb).trans p0
        have q1 := (HB2.out.cell (p := ⟨b', o', none⟩) hb').trans p1
        clear hb1 hb2 p0 p1 HC1 HC2
        generalize (Ch.gk L 0).node = a at q0 h32
        generalize (Ch.gk M 0).node = d at q1 h32
        have j3 : ((a == d : Bool)) = false := beq_eq_false_iff_ne.2 h32
        have j4 : ((a != d : Bool)) = true := by rw [bne, j3]; rfl
        go_wp2
        go_quiet (fail)
        go_wp2
        go_ret3
        exact ⟨by rw [HG.out]; rfl, below_drewN HB2.out _⟩
      · have HG : Hid (Ch.part K L M = ((Ch.differ L M).getD 0, (Ch.differ L M).isSome, 0)) := by
          show _ = _
          exact if_pos ⟨h1, h2, by simpa using h3⟩
        have h4 : ¬ (0 < n ∧ 0 < n' ∧ (Ch.gk L 0).node ≠ (Ch.gk M 0).node) := by
          unfold Ch.apart at h3
          rw [HN.out, HN'.out] at h3
          exact fun h => h3 (decide_eq_true h)
        clear h3
        by_cases h5 : n = 0
        · subst h5
          go_enter Tryd.func12, Tryd.ntmps12
          go_wp2_with fail
          refine HC1.out.mono ?_
          rintro e w1 ⟨rfl, hb1⟩
          go_wp2_with fail
          refine (HC2.out _ hb1).mono ?_
          rintro e w2 ⟨rfl, hb2⟩
          have HB2 := Lib.hid (hb1.trans (hb2.mono hb1.size))
          go_wp2
          go_quiet (fail)
          go_wp2_with fail
          refine (HD.out _ (below_drewN HB2.out _)).mono ?_
          rintro e w3 ⟨rfl, hb3⟩
          have HB3 := Lib.hid ((below_drewN HB2.out _).trans (hb3.mono (below_drewN HB2.out _).size))
          go_wp2
          go_ret3
          exact ⟨by rw [HG.out]; rfl, HB3.out⟩
        · have h50 : 0 < n := by omega
          have j1 : (0 : Int) < (n : Int) := by omega
          by_cases h6 : n' = 0
          · subst h6
            go_enter Tryd.func12, Tryd.ntmps12
            go_wp2_with fail
            refine HC1.out.mono ?_
            rintro e w1 ⟨rfl, hb1⟩
            go_wp2_with fail
            refine (HC2.out _ hb1).mono ?_
            rintro e w2 ⟨rfl, hb2⟩
            have HB2 := Lib.hid (hb1.trans (hb2.mono hb1.size))
            go_wp2
            go_quiet (fail)
            go_wp2_with fail
            refine (HD.out _ (below_drewN HB2.out _)).mono ?_
            rintro e w3 ⟨rfl, hb3⟩
            have HB3 := Lib.hid ((below_drewN HB2.out _).trans (hb3.mono (below_drewN HB2.out _).size))
            go_wp2
            go_ret3
            exact ⟨by rw [HG.out]; rfl, HB3.out⟩
          · have h51 : 0 < n' := by omega
            have j2 : (0 : Int) < (n' : Int) := by omega
            have h32 : (Ch.gk L 0).node = (Ch.gk M 0).node := by
              by_cases h : (Ch.gk L 0).node = (Ch.gk M 0).node
              · exact h
              · exact absurd ⟨h50, h51, h⟩ h4
            obtain ⟨b, o, rfl, hb, hc⟩ := hL.at (Ch.gk_mem (L := L) (k := 0) (by rw [HN.out]; omega)).2
            obtain ⟨b', o', rfl, hb', hc'⟩ := hM.at (Ch.gk_mem (L := M) (k := 0) (by rw [HN'.out]; omega)).2
            have p0 := hc 0 _ (LkV.cell_n _)
            have p1 := hc' 0 _ (LkV.cell_n _)
            simp only [Nat.zero_mul, Nat.add_zero] at p0 p1
            clear hc hc'
            go_enter Tryd.func12, Tryd.ntmps12
            go_wp2_with fail
            refine HC1.out.mono ?_
            rintro e w1 ⟨rfl, hb1⟩
            go_wp2_with fail
            refine (HC2.out _ hb1).mono ?_
            rintro e w2 ⟨rfl, hb2⟩
            have HB2 := Lib.hid (hb1.trans (hb2.mono hb1.size))
            have q0 := (HB2.out.cell (p := ⟨b, o, none⟩) hb).trans p0
            have q1 := (HB2.out.cell (p := ⟨b', o', none⟩) hb').trans p1
            clear hb1 hb2 p0 p1 HC1 HC2
            rw [h32] at q0
            generalize (Ch.gk M 0).node = d at q0 q1
            go_wp2
            go_quiet (fail)
            go_wp2_with fail
            refine (HD.out _ (below_drewN HB2.out _)).mono ?_
            rintro e w3 ⟨rfl, hb3⟩
            have HB3 := Lib.hid ((below_drewN HB2.out _).trans (hb3.mono (below_drewN HB2.out _).size))
            go_wp2
            go_ret3
            exact ⟨by rw [HG.out]; rfl, HB3.out⟩
    · have e2 : Ch.chk K M = 80 := by unfold Ch.chk; rw [if_neg h2]
      rw [e2] at HC2
      have HG : Hid (Ch.part K L M = (0, false, 80)) := by
        show _ = _
        exact if_neg fun h => h2 h.2.1
      go_enter Tryd.func12, Tryd.ntmps12
      go_wp2_with fail
      refine HC1.out.mono ?_
      rintro e w1 ⟨rfl, hb1⟩
      go_wp2_with fail
      refine (HC2.out _ hb1).mono ?_
      rintro e w2 ⟨rfl, hb2⟩
      have HB2 := Lib.hid (hb1.trans (hb2.mono hb1.size))
      go_wp2
      go_ret3
      exact ⟨by rw [HG.out]; rfl, HB2.out⟩
  · have e1 : Ch.chk K L = 80 := by unfold Ch.chk; rw [if_neg h1]
    rw [e1] at HC1
    have HG : Hid (Ch.part K L M = (0, false, 80)) := by
      show _ = _
      exact if_neg fun h => h1 h.1
    go_enter Tryd.func12, Tryd.ntmps12
    go_wp2_with fail
    refine HC1.out.mono ?_
    rintro e w1 ⟨rfl, hb1⟩
    go_wp2
    go_ret3
    exact ⟨by rw [HG.out]; rfl, hb1⟩
end Go.Proofs.YtpjggokaolnbcaaDoor
