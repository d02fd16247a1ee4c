/- The reference's Part of two chains (written by gen_lrefpart.py). -/
import Derived.Test.YtpjggokaolnbcaaDoorLRefCheck
import Derived.Test.YtpjggokaolnbcaaDoorLEqualWalk
namespace Go.Proofs.YtpjggokaolnbcaaDoor
open Go.RowKit
attribute [local go_sem] Oper.semAt_some
set_option linter.unusedVariables false
namespace Ch
theorem part_of {K : Sh.Cst} {L M : List LkV} (hL : allB K L = true) (hM : allB K M = true) (ha : apart L M = false) : part K L M = ((differ L M).getD 0, (differ L M).isSome, 0) := by
  unfold part; rw [if_pos ⟨hL, hM, ha⟩]
theorem part_no {K : Sh.Cst} {L M : List LkV} (h : ¬ (allB K L = true ∧ allB K M = true ∧ apart L M = false)) : part K L M = (0, false, 80) := by
  unfold part; rw [if_neg h]
theorem differ_at {L M : List LkV} {k : Nat} (hk : k < min L.length M.length) (hs : sameTo L M k) (hd : sameV (gk L k) (gk M k) = false) : differ L M = some k := by
  cases h : differ L M with
  | none => have := firstTo_no h k hk; rw [hd] at this; cases this
  | some j =>
    obtain ⟨h1, h2, h3⟩ := firstTo_spec h
    rcases Nat.lt_trichotomy j k with hj | hj | hj
    · have := hs j hj; rw [h3] at this; cases this
    · rw [hj]
    · have := h2 k hj; rw [hd] at this; cases this
theorem differ_no {L M : List LkV} (hs : sameTo L M (min L.length M.length)) : differ L M = none := firstTo_none hs
end Ch
set_option maxRecDepth 100000 in
set_option maxHeartbeats 4000000 in
theorem rpart_bad1 (K : Sh.Cst) (A A' : Option Addr) (n n' c c' : Nat) (L M : List LkV) (w : World) (hL : Lks w w.heap.size A n L) (hM : Lks w w.heap.size A' n' M) (hn : n ≤ 1000) (hn' : n' ≤ 1000) (hnc : n ≤ c) (hnc' : n' ≤ c') (hA : A = none → c = 0) (hA' : A' = none → c' = 0) (hf : ∀ x ∈ L, Ch.fit x) (hf' : ∀ x ∈ M, Ch.fit x) (h1 : Ch.allB K L = false) :
    Calls Tryd.prog 13 #[.slice A n c, .slice A' n' c'] w fun e w' => e = .returned (.tuple #[.int .i64 0, .bool false, .int .i64 80]) ∧ Below w.heap.size w w' := by
  have H1 := rcheck_any K A n c L w hL hn hnc hA hf
  rw [chk_not h1] at H1
  have H1 := Lib.hid H1
  have HL := Lib.hid hL
  have HM := Lib.hid hM
  have HLL := hL.len
  have HML := hM.len
  clear hL hM
  go_enter Tryd.func13, Tryd.ntmps13
  go_wp2_with fail
  refine H1.out.mono ?_
  rintro e w1 ⟨rfl, hb1⟩
  go_wp2
  go_ret3
  exact ⟨rfl, hb1⟩
set_option maxRecDepth 100000 in
set_option maxHeartbeats 4000000 in
theorem rpart_bad2 (K : Sh.Cst) (A A' : Option Addr) (n n' c c' : Nat) (L M : List LkV) (w : World) (hL : Lks w w.heap.size A n L) (hM : Lks w w.heap.size A' n' M) (hn : n ≤ 1000) (hn' : n' ≤ 1000) (hnc : n ≤ c) (hnc' : n' ≤ c') (hA : A = none → c = 0) (hA' : A' = none → c' = 0) (hf : ∀ x ∈ L, Ch.fit x) (hf' : ∀ x ∈ M, Ch.fit x) (h1 : Ch.allB K L = true) (h2 : Ch.allB K M = false) :
    Calls Tryd.prog 13 #[.slice A n c, .slice A' n' c'] w fun e w' => e = .returned (.tuple #[.int .i64 0, .bool false, .int .i64 80]) ∧ Below w.heap.size w w' := by
  have H1 := rcheck_any K A n c L w hL hn hnc hA hf
  rw [Ch.chk_of h1] at H1
  have H1 := Lib.hid H1
  have HL := Lib.hid hL
  have HM := Lib.hid hM
  have HLL := hL.len
  have HML := hM.len
  clear hL hM
  go_enter Tryd.func13, Tryd.ntmps13
  go_wp2_with fail
  refine H1.out.mono ?_
  rintro e w1 ⟨rfl, hb1⟩
  have H2 := rcheck_any K A' n' c' M w1 ((HM.out.below hb1).more hb1.size) hn' hnc' hA' hf'
  rw [chk_not h2] at H2
  have H2 := Lib.hid H2
  go_wp2_with fail
  refine H2.out.mono ?_
  rintro e w2 ⟨rfl, hb2⟩
  have hb2 := hb1.trans (hb2.mono hb1.size)
  go_wp2
  go_ret3
  exact ⟨rfl, hb2⟩
set_option maxRecDepth 100000 in
set_option maxHeartbeats 4000000 in
theorem rpart_apart (K : Sh.Cst) (A A' : Option Addr) (n n' c c' : Nat) (L M : List LkV) (w : World) (hL : Lks w w.heap.size A n L) (hM : Lks w w.heap.size A' n' M) (hn : n ≤ 1000) (hn' : n' ≤ 1000) (hnc : n ≤ c) (hnc' : n' ≤ c') (hA : A = none → c = 0) (hA' : A' = none → c' = 0) (hf : ∀ x ∈ L, Ch.fit x) (hf' : ∀ x ∈ M, Ch.fit x) (h1 : Ch.allB K L = true) (h2 : Ch.allB K M = true) (hn0 : 0 < n) (hn0' : 0 < n') (h3 : (Ch.gk L 0).node ≠ (Ch.gk M 0).node) :
    Calls Tryd.prog 13 #[.slice A n c, .slice A' n' c'] w fun e w' => e = .returned (.tuple #[.int .i64 0, .bool false, .int .i64 80]) ∧ Below w.heap.size w w' := by
  have H1 := rcheck_any K A n c L w hL hn hnc hA hf
  rw [Ch.chk_of h1] at H1
  have H1 := Lib.hid H1
  have HL := Lib.hid hL
  have HM := Lib.hid hM
  have HLL := hL.len
  have HML := hM.len
  clear hL hM
  go_enter Tryd.func13, Tryd.ntmps13
  go_wp2_with fail
  refine H1.out.mono ?_
  rintro e w1 ⟨rfl, hb1⟩
  have H2 := rcheck_any K A' n' c' M w1 ((HM.out.below hb1).more hb1.size) hn' hnc' hA' hf'
  rw [Ch.chk_of h2] at H2
  have H2 := Lib.hid H2
  go_wp2_with fail
  refine H2.out.mono ?_
  rintro e w2 ⟨rfl, hb2⟩
  have hb2 := hb1.trans (hb2.mono hb1.size)
  have n1 : (0 : Int) < (n : Int) := by omega
  have n2 : (0 : Int) < (n' : Int) := by omega
  have n3 : 0 < n := hn0
  have n4 : 0 < n' := hn0'
  obtain ⟨b, o, rfl, hbw, hc0⟩ := lks_head_cell HL.out hn0
  obtain ⟨b', o', rfl, hbw', hc0'⟩ := lks_head_cell HM.out hn0'
  obtain ⟨N, hN⟩ : ∃ N, (Ch.gk L 0).node = N := ⟨_, rfl⟩
  obtain ⟨N', hN'⟩ : ∃ N, (Ch.gk M 0).node = N := ⟨_, rfl⟩
  have hQ : ∀ W, Below w2.heap.size w2 W → W.cell? ⟨b, o, none⟩ = some (.int .i64 N) ∧ W.cell? ⟨b', o', none⟩ = some (.int .i64 N') := fun W hW => by
    have hLW := hb2.trans (hW.mono hb2.size)
    exact ⟨(hLW.cell (p := ⟨b, o, none⟩) hbw).trans (by rw [← hN]; exact hc0 0 _ (LkV.cell_n _)), (hLW.cell (p := ⟨b', o', none⟩) hbw').trans (by rw [← hN']; exact hc0' 0 _ (LkV.cell_n _))⟩
  have HQ := Lib.hid hQ
  clear hQ hc0 hc0'
  rw [hN, hN'] at h3
  have h4 : (N != N') = true := by simpa using h3
  have hS0 : Below w2.heap.size w2 w2.drew := (Below.refl _ _).drew
  go_wp2_with fail
  rename_i Kz hKz
  refine wp_region_ord (fun w' => Below w2.heap.size w2 w') [(0, true), (1, true), (2, true), (3, true), (4, true), (5, true), (6, true), (7, true), (8, true), (9, true), (10, true), (11, true), (12, true), (13, true), (14, true), (15, true), (16, true), (17, true), (18, true)] (by kernel_rfl) (by kernel_rfl) rfl (by kernel_rfl) (fun x _ _ _ _ h => by cases x <;> exact h) hS0 ?_
  refine wpOrd_take rfl _ (by rfl) (by intro w' hS; obtain ⟨q1, q2⟩ := HQ.out w' hS; go_simp; try with_reducible rfl) fun KK hKK => ?_
  go_simp
  refine hKK _ ?_
  clear hKK KK
  refine wpOrd_take rfl _ (by rfl) (by intro w' hS; obtain ⟨q1, q2⟩ := HQ.out w' hS; go_simp; try with_reducible rfl) fun KK hKK => ?_
  go_simp
  refine hKK _ ?_
  clear hKK KK
  refine wpOrd_take rfl _ (by rfl) (by intro w' hS; obtain ⟨q1, q2⟩ := HQ.out w' hS; go_simp; try with_reducible rfl) fun KK hKK => ?_
  go_simp
  refine hKK _ ?_
  clear hKK KK
  refine wpOrd_take rfl _ (by rfl) (by intro w' hS; obtain ⟨q1, q2⟩ := HQ.out w' hS; go_simp; try with_reducible rfl) fun KK hKK => ?_
  go_simp
  refine hKK _ ?_
  clear hKK KK
  refine wpOrd_take rfl _ (by rfl) (by intro w' hS; obtain ⟨q1, q2⟩ := HQ.out w' hS; go_simp; try with_reducible rfl) fun KK hKK => ?_
  go_simp
  refine hKK _ ?_
  clear hKK KK
  refine wpOrd_take rfl _ (by rfl) (by intro w' hS; obtain ⟨q1, q2⟩ := HQ.out w' hS; go_simp; try with_reducible rfl) fun KK hKK => ?_
  go_simp
  refine hKK _ ?_
  clear hKK KK
  refine wpOrd_take rfl _ (by rfl) (by intro w' hS; obtain ⟨q1, q2⟩ := HQ.out w' hS; go_simp; try with_reducible rfl) fun KK hKK => ?_
  go_simp
  refine hKK _ ?_
  clear hKK KK
  refine wpOrd_take rfl _ (by rfl) (by intro w' hS; obtain ⟨q1, q2⟩ := HQ.out w' hS; go_simp; try with_reducible rfl) fun KK hKK => ?_
  go_simp
  refine hKK _ ?_
  clear hKK KK
  refine wpOrd_take rfl _ (by rfl) (by intro w' hS; obtain ⟨q1, q2⟩ := HQ.out w' hS; go_simp; try with_reducible rfl) fun KK hKK => ?_
  go_simp
  refine hKK _ ?_
  clear hKK KK
  refine wpOrd_take rfl _ (by rfl) (by intro w' hS; obtain ⟨q1, q2⟩ := HQ.out w' hS; go_simp; try with_reducible rfl) fun KK hKK => ?_
  go_simp
  refine hKK _ ?_
  clear hKK KK
  refine wpOrd_take rfl _ (by rfl) (by intro w' hS; obtain ⟨q1, q2⟩ := HQ.out w' hS; go_simp; try with_reducible rfl) fun KK hKK => ?_
  go_simp
  refine hKK _ ?_
  clear hKK KK
  refine wpOrd_take rfl _ (by rfl) (by intro w' hS; obtain ⟨q1, q2⟩ := HQ.out w' hS; go_simp; try with_reducible rfl) fun KK hKK => ?_
  go_simp
  refine hKK _ ?_
  clear hKK KK
  refine wpOrd_take rfl _ (by rfl) (by intro w' hS; obtain ⟨q1, q2⟩ := HQ.out w' hS; go_simp; try with_reducible rfl) fun KK hKK => ?_
  go_simp
  refine hKK _ ?_
  clear hKK KK
  refine wpOrd_take rfl _ (by rfl) (by intro w' hS; obtain ⟨q1, q2⟩ := HQ.out w' hS; go_simp; try with_reducible rfl) fun KK hKK => ?_
  go_simp
  refine hKK _ ?_
  clear hKK KK
  refine wpOrd_take rfl _ (by rfl) (by intro w' hS; obtain ⟨q1, q2⟩ := HQ.out w' hS; go_simp; try with_reducible rfl) fun KK hKK => ?_
  go_simp
  refine hKK _ ?_
  clear hKK KK
  refine wpOrd_take rfl _ (by rfl) (by intro w' hS; obtain ⟨q1, q2⟩ := HQ.out w' hS; go_simp; try with_reducible rfl) fun KK hKK => ?_
  go_simp
  refine hKK _ ?_
  clear hKK KK
  refine wpOrd_take rfl _ (by rfl) (by intro w' hS; obtain ⟨q1, q2⟩ := HQ.out w' hS; go_simp; try with_reducible rfl) fun KK hKK => ?_
  go_simp
  refine hKK _ ?_
  clear hKK KK
  refine wpOrd_take rfl _ (by rfl) (by intro w' hS; obtain ⟨q1, q2⟩ := HQ.out w' hS; go_simp; try with_reducible rfl) fun KK hKK => ?_
  go_simp
  refine hKK _ ?_
  clear hKK KK
  refine wpOrd_take rfl _ (by rfl) (by intro w' hS; obtain ⟨q1, q2⟩ := HQ.out w' hS; go_simp; try with_reducible rfl) fun KK hKK => ?_
  go_simp
  refine hKK _ ?_
  clear hKK KK
  refine wpOrd_nil ?_
  show Kz _ _
  refine hKz _ _ ?_
  clear hKz
  go_wp2
  go_ret3
  exact ⟨rfl, hb2.trans (hS0.mono hb2.size)⟩
set_option maxRecDepth 100000 in
set_option maxHeartbeats 4000000 in
theorem rpart_none1 (K : Sh.Cst) (A A' : Option Addr) (n n' c c' : Nat) (L M : List LkV) (w : World) (hL : Lks w w.heap.size A n L) (hM : Lks w w.heap.size A' n' M) (hn : n ≤ 1000) (hn' : n' ≤ 1000) (hnc : n ≤ c) (hnc' : n' ≤ c') (hA : A = none → c = 0) (hA' : A' = none → c' = 0) (hf : ∀ x ∈ L, Ch.fit x) (hf' : ∀ x ∈ M, Ch.fit x) (h1 : Ch.allB K L = true) (h2 : Ch.allB K M = true) (hn0 : n = 0) :
    Calls Tryd.prog 13 #[.slice A n c, .slice A' n' c'] w fun e w' => e = .returned (.tuple #[.int .i64 (((Ch.differ L M).getD 0 : Nat) : Int), .bool (Ch.differ L M).isSome, .int .i64 0]) ∧ Below w.heap.size w w' := by
  subst hn0
  have n1 : ¬ (0 : Int) < ((0 : Nat) : Int) := by simp
  have H1 := rcheck_any K A 0 c L w hL hn hnc hA hf
  rw [Ch.chk_of h1] at H1
  have H1 := Lib.hid H1
  have HL := Lib.hid hL
  have HM := Lib.hid hM
  have HLL := hL.len
  have HML := hM.len
  clear hL hM
  go_enter Tryd.func13, Tryd.ntmps13
  go_wp2_with fail
  refine H1.out.mono ?_
  rintro e w1 ⟨rfl, hb1⟩
  have H2 := rcheck_any K A' n' c' M w1 ((HM.out.below hb1).more hb1.size) hn' hnc' hA' hf'
  rw [Ch.chk_of h2] at H2
  have H2 := Lib.hid H2
  go_wp2_with fail
  refine H2.out.mono ?_
  rintro e w2 ⟨rfl, hb2⟩
  have hb2 := hb1.trans (hb2.mono hb1.size)
  have hS0 : Below w2.heap.size w2 w2.drew := (Below.refl _ _).drew
  go_wp2_with fail
  rename_i Kz hKz
  refine wp_region_ord (fun w' => Below w2.heap.size w2 w') [(0, true), (1, true), (2, true), (3, true), (4, true), (5, true), (6, true), (7, true), (8, true), (9, true), (10, true), (11, true), (12, true), (13, true), (14, true), (15, true), (16, true), (17, true), (18, true)] (by kernel_rfl) (by kernel_rfl) rfl (by kernel_rfl) (fun x _ _ _ _ h => by cases x <;> exact h) hS0 ?_
  refine wpOrd_take rfl _ (by rfl) (by intro w' hS;  go_simp; try with_reducible rfl) fun KK hKK => ?_
  go_simp
  refine hKK _ ?_
  clear hKK KK
  refine wpOrd_take rfl _ (by rfl) (by intro w' hS;  go_simp; try with_reducible rfl) fun KK hKK => ?_
  go_simp
  refine hKK _ ?_
  clear hKK KK
  refine wpOrd_take rfl _ (by rfl) (by intro w' hS;  go_simp; try with_reducible rfl) fun KK hKK => ?_
  go_simp
  refine hKK _ ?_
  clear hKK KK
  refine wpOrd_take rfl _ (by rfl) (by intro w' hS;  go_simp; try with_reducible rfl) fun KK hKK => ?_
  go_simp
  refine hKK _ ?_
  clear hKK KK
  refine wpOrd_skip rfl (by rfl) fun KK hKK => ?_
  go_simp
  refine hKK _ ?_
  clear hKK KK
  refine wpOrd_skip rfl (by rfl) fun KK hKK => ?_
  go_simp
  refine hKK _ ?_
  clear hKK KK
  refine wpOrd_skip rfl (by rfl) fun KK hKK => ?_
  go_simp
  refine hKK _ ?_
  clear hKK KK
  refine wpOrd_take rfl _ (by rfl) (by intro w' hS;  go_simp; try with_reducible rfl) fun KK hKK => ?_
  go_simp
  refine hKK _ ?_
  clear hKK KK
  refine wpOrd_take rfl _ (by rfl) (by intro w' hS;  go_simp; try with_reducible rfl) fun KK hKK => ?_
  go_simp
  refine hKK _ ?_
  clear hKK KK
  refine wpOrd_skip rfl (by rfl) fun KK hKK => ?_
  go_simp
  refine hKK _ ?_
  clear hKK KK
  refine wpOrd_skip rfl (by rfl) fun KK hKK => ?_
  go_simp
  refine hKK _ ?_
  clear hKK KK
  refine wpOrd_skip rfl (by rfl) fun KK hKK => ?_
  go_simp
  refine hKK _ ?_
  clear hKK KK
  refine wpOrd_skip rfl (by rfl) fun KK hKK => ?_
  go_simp
  refine hKK _ ?_
  clear hKK KK
  refine wpOrd_skip rfl (by rfl) fun KK hKK => ?_
  go_simp
  refine hKK _ ?_
  clear hKK KK
  refine wpOrd_skip rfl (by rfl) fun KK hKK => ?_
  go_simp
  refine hKK _ ?_
  clear hKK KK
  refine wpOrd_skip rfl (by rfl) fun KK hKK => ?_
  go_simp
  refine hKK _ ?_
  clear hKK KK
  refine wpOrd_skip rfl (by rfl) fun KK hKK => ?_
  go_simp
  refine hKK _ ?_
  clear hKK KK
  refine wpOrd_skip rfl (by rfl) fun KK hKK => ?_
  go_simp
  refine hKK _ ?_
  clear hKK KK
  refine wpOrd_take rfl _ (by rfl) (by intro w' hS;  go_simp; try with_reducible rfl) fun KK hKK => ?_
  go_simp
  refine hKK _ ?_
  clear hKK KK
  refine wpOrd_nil ?_
  show Kz _ _
  refine hKz _ _ ?_
  clear hKz
  obtain ⟨m, hm⟩ : ∃ m, min 0 n' = m := ⟨_, rfl⟩
  have hm1 : m ≤ 0 := by omega
  have hm2 : m ≤ n' := by omega
  have HB2 := Lib.hid (hb2.trans (hS0.mono hb2.size))
  have HMM : Hid (min L.length M.length = m) := by show _ = _; rw [HLL, HML, hm]
  have HMN : Hid (m = 0 ∨ m = n') := by show _ ∨ _; omega
  clear hm
  go_wp2
  go_loopw [9] (fun i wr => ∃ k : Nat, k ≤ m ∧ i = .int .i64 k ∧ Ch.sameTo L M k ∧ Below w.heap.size w wr) (fun i _ => m - (intOf i).toNat)
  case atStart => exact ⟨0, Nat.zero_le _, rfl, fun j hj => absurd hj (by omega), HB2.out⟩
  case round =>
    obtain ⟨k, hk, rfl, hu, hbr⟩ := hrel
    have HU := Lib.hid hu
    have HBR := Lib.hid hbr
    clear hu hbr
    by_cases hlt : k < m
    · exfalso; omega
    · obtain rfl : k = m := by omega
      have HRES : Hid (Ch.differ L M = none) := Ch.differ_no (by rw [HMM.out]; exact HU.out)
      have HG := HMN.out
      clear HMN HMM
      rcases HG with hk1 | hk1
      · have g1 : ¬ (k : Int) < ((0 : Nat) : Int) := by omega
        have g2 : ((0 : Nat) : Int) ≤ (k : Int) := by omega
        clear hk1
        go_wp2
        go_ret3
        exact ⟨by rw [HRES.out]; rfl, HBR.out⟩
      · by_cases hk2 : k = 0
        · have g1 : ¬ (k : Int) < ((0 : Nat) : Int) := by omega
          have g2 : ((0 : Nat) : Int) ≤ (k : Int) := by omega
          clear hk1 hk2
          go_wp2
          go_ret3
          exact ⟨by rw [HRES.out]; rfl, HBR.out⟩
        · exfalso; omega
set_option maxRecDepth 100000 in
set_option maxHeartbeats 4000000 in
theorem rpart_none2 (K : Sh.Cst) (A A' : Option Addr) (n n' c c' : Nat) (L M : List LkV) (w : World) (hL : Lks w w.heap.size A n L) (hM : Lks w w.heap.size A' n' M) (hn : n ≤ 1000) (hn' : n' ≤ 1000) (hnc : n ≤ c) (hnc' : n' ≤ c') (hA : A = none → c = 0) (hA' : A' = none → c' = 0) (hf : ∀ x ∈ L, Ch.fit x) (hf' : ∀ x ∈ M, Ch.fit x) (h1 : Ch.allB K L = true) (h2 : Ch.allB K M = true) (hn0 : 0 < n) (hn0' : n' = 0) :
    Calls Tryd.prog 13 #[.slice A n c, .slice A' n' c'] w fun e w' => e = .returned (.tuple #[.int .i64 (((Ch.differ L M).getD 0 : Nat) : Int), .bool (Ch.differ L M).isSome, .int .i64 0]) ∧ Below w.heap.size w w' := by
  subst hn0'
  have n1 : (0 : Int) < (n : Int) := by omega
  have n2 : ¬ (0 : Int) < ((0 : Nat) : Int) := by simp
  have H1 := rcheck_any K A n c L w hL hn hnc hA hf
  rw [Ch.chk_of h1] at H1
  have H1 := Lib.hid H1
  have HL := Lib.hid hL
  have HM := Lib.hid hM
  have HLL := hL.len
  have HML := hM.len
  clear hL hM
  go_enter Tryd.func13, Tryd.ntmps13
  go_wp2_with fail
  refine H1.out.mono ?_
  rintro e w1 ⟨rfl, hb1⟩
  have H2 := rcheck_any K A' 0 c' M w1 ((HM.out.below hb1).more hb1.size) hn' hnc' hA' hf'
  rw [Ch.chk_of h2] at H2
  have H2 := Lib.hid H2
  go_wp2_with fail
  refine H2.out.mono ?_
  rintro e w2 ⟨rfl, hb2⟩
  have hb2 := hb1.trans (hb2.mono hb1.size)
  have hS0 : Below w2.heap.size w2 w2.drew := (Below.refl _ _).drew
  go_wp2_with fail
  rename_i Kz hKz
  refine wp_region_ord (fun w' => Below w2.heap.size w2 w') [(0, true), (1, true), (2, true), (3, true), (4, true), (5, true), (6, true), (7, true), (8, true), (9, true), (10, true), (11, true), (12, true), (13, true), (14, true), (15, true), (16, true), (17, true), (18, true)] (by kernel_rfl) (by kernel_rfl) rfl (by kernel_rfl) (fun x _ _ _ _ h => by cases x <;> exact h) hS0 ?_
  refine wpOrd_take rfl _ (by rfl) (by intro w' hS;  go_simp; try with_reducible rfl) fun KK hKK => ?_
  go_simp
  refine hKK _ ?_
  clear hKK KK
  refine wpOrd_take rfl _ (by rfl) (by intro w' hS;  go_simp; try with_reducible rfl) fun KK hKK => ?_
  go_simp
  refine hKK _ ?_
  clear hKK KK
  refine wpOrd_take rfl _ (by rfl) (by intro w' hS;  go_simp; try with_reducible rfl) fun KK hKK => ?_
  go_simp
  refine hKK _ ?_
  clear hKK KK
  refine wpOrd_take rfl _ (by rfl) (by intro w' hS;  go_simp; try with_reducible rfl) fun KK hKK => ?_
  go_simp
  refine hKK _ ?_
  clear hKK KK
  refine wpOrd_take rfl _ (by rfl) (by intro w' hS;  go_simp; try with_reducible rfl) fun KK hKK => ?_
  go_simp
  refine hKK _ ?_
  clear hKK KK
  refine wpOrd_take rfl _ (by rfl) (by intro w' hS;  go_simp; try with_reducible rfl) fun KK hKK => ?_
  go_simp
  refine hKK _ ?_
  clear hKK KK
  refine wpOrd_take rfl _ (by rfl) (by intro w' hS;  go_simp; try with_reducible rfl) fun KK hKK => ?_
  go_simp
  refine hKK _ ?_
  clear hKK KK
  refine wpOrd_take rfl _ (by rfl) (by intro w' hS;  go_simp; try with_reducible rfl) fun KK hKK => ?_
  go_simp
  refine hKK _ ?_
  clear hKK KK
  refine wpOrd_take rfl _ (by rfl) (by intro w' hS;  go_simp; try with_reducible rfl) fun KK hKK => ?_
  go_simp
  refine hKK _ ?_
  clear hKK KK
  refine wpOrd_skip rfl (by rfl) fun KK hKK => ?_
  go_simp
  refine hKK _ ?_
  clear hKK KK
  refine wpOrd_skip rfl (by rfl) fun KK hKK => ?_
  go_simp
  refine hKK _ ?_
  clear hKK KK
  refine wpOrd_skip rfl (by rfl) fun KK hKK => ?_
  go_simp
  refine hKK _ ?_
  clear hKK KK
  refine wpOrd_skip rfl (by rfl) fun KK hKK => ?_
  go_simp
  refine hKK _ ?_
  clear hKK KK
  refine wpOrd_skip rfl (by rfl) fun KK hKK => ?_
  go_simp
  refine hKK _ ?_
  clear hKK KK
  refine wpOrd_skip rfl (by rfl) fun KK hKK => ?_
  go_simp
  refine hKK _ ?_
  clear hKK KK
  refine wpOrd_skip rfl (by rfl) fun KK hKK => ?_
  go_simp
  refine hKK _ ?_
  clear hKK KK
  refine wpOrd_skip rfl (by rfl) fun KK hKK => ?_
  go_simp
  refine hKK _ ?_
  clear hKK KK
  refine wpOrd_skip rfl (by rfl) fun KK hKK => ?_
  go_simp
  refine hKK _ ?_
  clear hKK KK
  refine wpOrd_take rfl _ (by rfl) (by intro w' hS;  go_simp; try with_reducible rfl) fun KK hKK => ?_
  go_simp
  refine hKK _ ?_
  clear hKK KK
  refine wpOrd_nil ?_
  show Kz _ _
  refine hKz _ _ ?_
  clear hKz
  obtain ⟨m, hm⟩ : ∃ m, min n 0 = m := ⟨_, rfl⟩
  have hm1 : m ≤ n := by omega
  have hm2 : m ≤ 0 := by omega
  have HB2 := Lib.hid (hb2.trans (hS0.mono hb2.size))
  have HMM : Hid (min L.length M.length = m) := by show _ = _; rw [HLL, HML, hm]
  have HMN : Hid (m = n ∨ m = 0) := by show _ ∨ _; omega
  clear hm
  go_wp2
  go_loopw [9] (fun i wr => ∃ k : Nat, k ≤ m ∧ i = .int .i64 k ∧ Ch.sameTo L M k ∧ Below w.heap.size w wr) (fun i _ => m - (intOf i).toNat)
  case atStart => exact ⟨0, Nat.zero_le _, rfl, fun j hj => absurd hj (by omega), HB2.out⟩
  case round =>
    obtain ⟨k, hk, rfl, hu, hbr⟩ := hrel
    have HU := Lib.hid hu
    have HBR := Lib.hid hbr
    clear hu hbr
    by_cases hlt : k < m
    · exfalso; omega
    · obtain rfl : k = m := by omega
      have HRES : Hid (Ch.differ L M = none) := Ch.differ_no (by rw [HMM.out]; exact HU.out)
      have HG := HMN.out
      clear HMN HMM
      rcases HG with hk1 | hk1
      · have g1 : ¬ (k : Int) < (n : Int) := by omega
        have g2 : (n : Int) ≤ (k : Int) := by omega
        clear hk1
        go_wp2
        go_ret3
        exact ⟨by rw [HRES.out]; rfl, HBR.out⟩
      · by_cases hk2 : k = n
        · have g1 : ¬ (k : Int) < (n : Int) := by omega
          have g2 : (n : Int) ≤ (k : Int) := by omega
          clear hk1 hk2
          go_wp2
          go_ret3
          exact ⟨by rw [HRES.out]; rfl, HBR.out⟩
        · have g1 : (k : Int) < (n : Int) := by omega
          have g2 : ¬ (k : Int) < ((0 : Nat) : Int) := by omega
          have g3 : ((0 : Nat) : Int) ≤ (k : Int) := by omega
          clear hk1 hk2
          go_wp2
          go_ret3
          exact ⟨by rw [HRES.out]; rfl, HBR.out⟩
set_option maxRecDepth 100000 in
set_option maxHeartbeats 4000000 in
theorem rpart_some (K : Sh.Cst) (A A' : Option Addr) (n n' c c' : Nat) (L M : List LkV) (w : World) (hL : Lks w w.heap.size A n L) (hM : Lks w w.heap.size A' n' M) (hn : n ≤ 1000) (hn' : n' ≤ 1000) (hnc : n ≤ c) (hnc' : n' ≤ c') (hA : A = none → c = 0) (hA' : A' = none → c' = 0) (hf : ∀ x ∈ L, Ch.fit x) (hf' : ∀ x ∈ M, Ch.fit x) (h1 : Ch.allB K L = true) (h2 : Ch.allB K M = true) (hn0 : 0 < n) (hn0' : 0 < n') (h3 : (Ch.gk L 0).node = (Ch.gk M 0).node) :
    Calls Tryd.prog 13 #[.slice A n c, .slice A' n' c'] w fun e w' => e = .returned (.tuple #[.int .i64 (((Ch.differ L M).getD 0 : Nat) : Int), .bool (Ch.differ L M).isSome, .int .i64 0]) ∧ Below w.heap.size w w' := by
  have H1 := rcheck_any K A n c L w hL hn hnc hA hf
  rw [Ch.chk_of h1] at H1
  have H1 := Lib.hid H1
  have HL := Lib.hid hL
  have HM := Lib.hid hM
  have HLL := hL.len
  have HML := hM.len
  clear hL hM
  go_enter Tryd.func13, Tryd.ntmps13
  go_wp2_with fail
  refine H1.out.mono ?_
  rintro e w1 ⟨rfl, hb1⟩
  have H2 := rcheck_any K A' n' c' M w1 ((HM.out.below hb1).more hb1.size) hn' hnc' hA' hf'
  rw [Ch.chk_of h2] at H2
  have H2 := Lib.hid H2
  go_wp2_with fail
  refine H2.out.mono ?_
  rintro e w2 ⟨rfl, hb2⟩
  have hb2 := hb1.trans (hb2.mono hb1.size)
  have n1 : (0 : Int) < (n : Int) := by omega
  have n2 : (0 : Int) < (n' : Int) := by omega
  have n3 : 0 < n := hn0
  have n4 : 0 < n' := hn0'
  obtain ⟨b, o, rfl, hbw, hc0⟩ := lks_head_cell HL.out hn0
  obtain ⟨b', o', rfl, hbw', hc0'⟩ := lks_head_cell HM.out hn0'
  obtain ⟨N, hN⟩ : ∃ N, (Ch.gk L 0).node = N := ⟨_, rfl⟩
  obtain ⟨N', hN'⟩ : ∃ N, (Ch.gk M 0).node = N := ⟨_, rfl⟩
  have hQ : ∀ W, Below w2.heap.size w2 W → W.cell? ⟨b, o, none⟩ = some (.int .i64 N) ∧ W.cell? ⟨b', o', none⟩ = some (.int .i64 N') := fun W hW => by
    have hLW := hb2.trans (hW.mono hb2.size)
    exact ⟨(hLW.cell (p := ⟨b, o, none⟩) hbw).trans (by rw [← hN]; exact hc0 0 _ (LkV.cell_n _)), (hLW.cell (p := ⟨b', o', none⟩) hbw').trans (by rw [← hN']; exact hc0' 0 _ (LkV.cell_n _))⟩
  have HQ := Lib.hid hQ
  clear hQ hc0 hc0'
  rw [hN, hN'] at h3
  subst h3
  have hS0 : Below w2.heap.size w2 w2.drew := (Below.refl _ _).drew
  go_wp2_with fail
  rename_i Kz hKz
  refine wp_region_ord (fun w' => Below w2.heap.size w2 w') [(0, true), (1, true), (2, true), (3, true), (4, true), (5, true), (6, true), (7, true), (8, true), (9, true), (10, true), (11, true), (12, true), (13, true), (14, true), (15, true), (16, true), (17, true), (18, true)] (by kernel_rfl) (by kernel_rfl) rfl (by kernel_rfl) (fun x _ _ _ _ h => by cases x <;> exact h) hS0 ?_
  refine wpOrd_take rfl _ (by rfl) (by intro w' hS; obtain ⟨q1, q2⟩ := HQ.out w' hS; go_simp; try with_reducible rfl) fun KK hKK => ?_
  go_simp
  refine hKK _ ?_
  clear hKK KK
  refine wpOrd_take rfl _ (by rfl) (by intro w' hS; obtain ⟨q1, q2⟩ := HQ.out w' hS; go_simp; try with_reducible rfl) fun KK hKK => ?_
  go_simp
  refine hKK _ ?_
  clear hKK KK
  refine wpOrd_take rfl _ (by rfl) (by intro w' hS; obtain ⟨q1, q2⟩ := HQ.out w' hS; go_simp; try with_reducible rfl) fun KK hKK => ?_
  go_simp
  refine hKK _ ?_
  clear hKK KK
  refine wpOrd_take rfl _ (by rfl) (by intro w' hS; obtain ⟨q1, q2⟩ := HQ.out w' hS; go_simp; try with_reducible rfl) fun KK hKK => ?_
  go_simp
  refine hKK _ ?_
  clear hKK KK
  refine wpOrd_take rfl _ (by rfl) (by intro w' hS; obtain ⟨q1, q2⟩ := HQ.out w' hS; go_simp; try with_reducible rfl) fun KK hKK => ?_
  go_simp
  refine hKK _ ?_
  clear hKK KK
  refine wpOrd_take rfl _ (by rfl) (by intro w' hS; obtain ⟨q1, q2⟩ := HQ.out w' hS; go_simp; try with_reducible rfl) fun KK hKK => ?_
  go_simp
  refine hKK _ ?_
  clear hKK KK
  refine wpOrd_take rfl _ (by rfl) (by intro w' hS; obtain ⟨q1, q2⟩ := HQ.out w' hS; go_simp; try with_reducible rfl) fun KK hKK => ?_
  go_simp
  refine hKK _ ?_
  clear hKK KK
  refine wpOrd_take rfl _ (by rfl) (by intro w' hS; obtain ⟨q1, q2⟩ := HQ.out w' hS; go_simp; try with_reducible rfl) fun KK hKK => ?_
  go_simp
  refine hKK _ ?_
  clear hKK KK
  refine wpOrd_take rfl _ (by rfl) (by intro w' hS; obtain ⟨q1, q2⟩ := HQ.out w' hS; go_simp; try with_reducible rfl) fun KK hKK => ?_
  go_simp
  refine hKK _ ?_
  clear hKK KK
  refine wpOrd_take rfl _ (by rfl) (by intro w' hS; obtain ⟨q1, q2⟩ := HQ.out w' hS; go_simp; try with_reducible rfl) fun KK hKK => ?_
  go_simp
  refine hKK _ ?_
  clear hKK KK
  refine wpOrd_take rfl _ (by rfl) (by intro w' hS; obtain ⟨q1, q2⟩ := HQ.out w' hS; go_simp; try with_reducible rfl) fun KK hKK => ?_
  go_simp
  refine hKK _ ?_
  clear hKK KK
  refine wpOrd_take rfl _ (by rfl) (by intro w' hS; obtain ⟨q1, q2⟩ := HQ.out w' hS; go_simp; try with_reducible rfl) fun KK hKK => ?_
  go_simp
  refine hKK _ ?_
  clear hKK KK
  refine wpOrd_take rfl _ (by rfl) (by intro w' hS; obtain ⟨q1, q2⟩ := HQ.out w' hS; go_simp; try with_reducible rfl) fun KK hKK => ?_
  go_simp
  refine hKK _ ?_
  clear hKK KK
  refine wpOrd_take rfl _ (by rfl) (by intro w' hS; obtain ⟨q1, q2⟩ := HQ.out w' hS; go_simp; try with_reducible rfl) fun KK hKK => ?_
  go_simp
  refine hKK _ ?_
  clear hKK KK
  refine wpOrd_take rfl _ (by rfl) (by intro w' hS; obtain ⟨q1, q2⟩ := HQ.out w' hS; go_simp; try with_reducible rfl) fun KK hKK => ?_
  go_simp
  refine hKK _ ?_
  clear hKK KK
  refine wpOrd_take rfl _ (by rfl) (by intro w' hS; obtain ⟨q1, q2⟩ := HQ.out w' hS; go_simp; try with_reducible rfl) fun KK hKK => ?_
  go_simp
  refine hKK _ ?_
  clear hKK KK
  refine wpOrd_take rfl _ (by rfl) (by intro w' hS; obtain ⟨q1, q2⟩ := HQ.out w' hS; go_simp; try with_reducible rfl) fun KK hKK => ?_
  go_simp
  refine hKK _ ?_
  clear hKK KK
  refine wpOrd_take rfl _ (by rfl) (by intro w' hS; obtain ⟨q1, q2⟩ := HQ.out w' hS; go_simp; try with_reducible rfl) fun KK hKK => ?_
  go_simp
  refine hKK _ ?_
  clear hKK KK
  refine wpOrd_take rfl _ (by rfl) (by intro w' hS; obtain ⟨q1, q2⟩ := HQ.out w' hS; go_simp; try with_reducible rfl) fun KK hKK => ?_
  go_simp
  refine hKK _ ?_
  clear hKK KK
  refine wpOrd_nil ?_
  show Kz _ _
  refine hKz _ _ ?_
  clear hKz
  obtain ⟨m, hm⟩ : ∃ m, min n n' = m := ⟨_, rfl⟩
  have hm1 : m ≤ n := by omega
  have hm2 : m ≤ n' := by omega
  have HB2 := Lib.hid (hb2.trans (hS0.mono hb2.size))
  have HMM : Hid (min L.length M.length = m) := by show _ = _; rw [HLL, HML, hm]
  have HMN : Hid (m = n ∨ m = n') := by show _ ∨ _; omega
  clear hm
  go_wp2
  go_loopw [9] (fun i wr => ∃ k : Nat, k ≤ m ∧ i = .int .i64 k ∧ Ch.sameTo L M k ∧ Below w.heap.size w wr) (fun i _ => m - (intOf i).toNat)
  case atStart => exact ⟨0, Nat.zero_le _, rfl, fun j hj => absurd hj (by omega), HB2.out⟩
  case round =>
    obtain ⟨k, hk, rfl, hu, hbr⟩ := hrel
    have HU := Lib.hid hu
    have HBR := Lib.hid hbr
    clear hu hbr
    by_cases hlt : k < m
    · have g1 : (k : Int) < (n : Int) := by omega
      have g2 : (k : Int) < (n' : Int) := by omega
      have g0 : (0 : Int) ≤ (k : Int) := by omega
      have g3 : k < n := by omega
      have g4 : k < n' := by omega
      have kL := Ch.gk_mem (L := L) (k := k) (by omega)
      have kM := Ch.gk_mem (L := M) (k := k) (by omega)
      have okL := HL.out.all _ kL.1
      have okM := HM.out.all _ kM.1
      have cL : ∀ W, Below wr.heap.size wr W → ∀ (j : Nat) (v : Value), (Ch.gk L k).cells[j]? = some v → W.cell? ((⟨b, o + k * 35, none⟩ : Addr).add j) = some v := fun W hW j v hj => by
        rw [Addr.add_flat]; exact lks_cell (HL.out.below (HBR.out.trans (hW.mono HBR.out.size))) kL.2 j v hj
      have cM : ∀ W, Below wr.heap.size wr W → ∀ (j : Nat) (v : Value), (Ch.gk M k).cells[j]? = some v → W.cell? ((⟨b', o' + k * 35, none⟩ : Addr).add j) = some v := fun W hW j v hj => by
        rw [Addr.add_flat]; exact lks_cell (HM.out.below (HBR.out.trans (hW.mono HBR.out.size))) kM.2 j v hj
      have hSL : ∀ W, Below wr.heap.size wr W → Calls Tryd.prog 18 #[.agg (Ch.gk L k).cells.toArray, .agg (Ch.gk M k).cells.toArray] W fun e w' => e = .returned (.bool (Ch.sameV (Ch.gk L k) (Ch.gk M k))) ∧ Below W.heap.size W w' := fun W hW => by
        have hLW := HBR.out.trans (hW.mono HBR.out.size)
        exact samelink_any (Ch.gk L k) (Ch.gk M k) W ((okL.below hLW).more hLW.size) ((okM.below hLW).more hLW.size)
      have HI : Hid ((Tryd.prog.info? 37).map (·.size) = some (Ch.gk L k).cells.length) := by show _ = _; rw [LkV.cells_length okL]; exact info_link
      have HI' : Hid ((Tryd.prog.info? 37).map (·.size) = some (Ch.gk M k).cells.length) := by show _ = _; rw [LkV.cells_length okM]; exact info_link
      have hSr : Below wr.heap.size wr wr.drew := (Below.refl _ _).drew
      obtain ⟨XL, hXL⟩ : ∃ X, (Ch.gk L k).cells = X := ⟨_, rfl⟩
      obtain ⟨XM, hXM⟩ : ∃ X, (Ch.gk M k).cells = X := ⟨_, rfl⟩
      rw [hXL] at HI cL hSL
      rw [hXM] at HI' cM hSL
      have HCL := Lib.hid cL
      have HCM := Lib.hid cM
      clear cL cM hXL hXM okL okM kL kM
      cases hv : Ch.sameV (Ch.gk L k) (Ch.gk M k) with
      | true =>
        rw [hv] at hSL
        have HSL := Lib.hid hSL
        have HV := Lib.hid hv
        clear hSL hv
        go_wp2_with fail
        rename_i Kz hKz
        refine wp_region_ord (fun w' => Below wr.heap.size wr w') [(0, true), (1, true), (2, true), (3, true), (4, true), (5, true), (6, true), (7, true), (8, false), (9, true)] (by kernel_rfl) (by kernel_rfl) rfl (by kernel_rfl) (fun x _ _ _ _ h => by cases x <;> exact h) hSr ?_
        refine wpOrd_take rfl _ (by rfl) (by intro w' hS; go_simp; try with_reducible rfl) fun KK hKK => ?_
        go_simp
        refine hKK _ ?_
        clear hKK KK
        refine wpOrd_take rfl _ (by rfl) (by intro w' hS; go_simp; try with_reducible rfl) fun KK hKK => ?_
        go_simp
        refine hKK _ ?_
        clear hKK KK
        refine wpOrd_take rfl _ (by rfl) (by intro w' hS; go_simp; try with_reducible rfl) fun KK hKK => ?_
        go_simp
        refine hKK _ ?_
        clear hKK KK
        refine wpOrd_take rfl _ (by rfl) (fun w' hS => run_load_exec 37 (.tmp 53) rfl ⟨b, o + k * 35, none⟩ (by rfl) XL _ (HCL.out w' hS) Tryd.underlying37 (by rfl) HI.out) fun KK hKK => ?_
        go_simp
        refine hKK _ ?_
        clear hKK KK
        refine wpOrd_take rfl _ (by rfl) (by intro w' hS; go_simp; try with_reducible rfl) fun KK hKK => ?_
        go_simp
        refine hKK _ ?_
        clear hKK KK
        refine wpOrd_take rfl _ (by rfl) (by intro w' hS; go_simp; try with_reducible rfl) fun KK hKK => ?_
        go_simp
        refine hKK _ ?_
        clear hKK KK
        refine wpOrd_take rfl _ (by rfl) (by intro w' hS; go_simp; try with_reducible rfl) fun KK hKK => ?_
        go_simp
        refine hKK _ ?_
        clear hKK KK
        refine wpOrd_take rfl _ (by rfl) (fun w' hS => run_load_exec 37 (.tmp 57) rfl ⟨b', o' + k * 35, none⟩ (by rfl) XM _ (HCM.out w' hS) Tryd.underlying37 (by rfl) HI'.out) fun KK hKK => ?_
        go_simp
        refine hKK _ ?_
        clear hKK KK
        refine wpOrd_force rfl (by rfl) fun KK hKK => ?_
        go_simp
        refine (HSL.out _ hSr).mono ?_
        rintro e w6 ⟨rfl, hb6⟩
        have hS6 : Below wr.heap.size wr w6 := hSr.trans (hb6.mono hSr.size)
        refine hKK _ _ hS6 ?_
        clear hKK KK
        refine wpOrd_take rfl _ (by rfl) (by intro w' hS; go_simp; try with_reducible rfl) fun KK hKK => ?_
        go_simp
        refine hKK _ ?_
        clear hKK KK
        refine wpOrd_nil ?_
        show Kz _ _
        refine hKz _ _ ?_
        clear hKz
        go_wp2
        go_roundw
        case rel => exact ⟨k + 1, by omega, by go_num, Ch.sameTo_next HU.out HV.out, HBR.out.trans (hS6.mono HBR.out.size)⟩
        case measure => simp [intOf]; omega
      | false =>
        rw [hv] at hSL
        have HSL := Lib.hid hSL
        have HRES : Hid (Ch.differ L M = some k) := Ch.differ_at (by rw [HMM.out]; exact hlt) HU.out hv
        clear hSL hv
        go_wp2_with fail
        rename_i Kz hKz
        refine wp_region_ord (fun w' => Below wr.heap.size wr w') [(0, true), (1, true), (2, true), (3, true), (4, true), (5, true), (6, true), (7, true), (8, false), (9, true)] (by kernel_rfl) (by kernel_rfl) rfl (by kernel_rfl) (fun x _ _ _ _ h => by cases x <;> exact h) hSr ?_
        refine wpOrd_take rfl _ (by rfl) (by intro w' hS; go_simp; try with_reducible rfl) fun KK hKK => ?_
        go_simp
        refine hKK _ ?_
        clear hKK KK
        refine wpOrd_take rfl _ (by rfl) (by intro w' hS; go_simp; try with_reducible rfl) fun KK hKK => ?_
        go_simp
        refine hKK _ ?_
        clear hKK KK
        refine wpOrd_take rfl _ (by rfl) (by intro w' hS; go_simp; try with_reducible rfl) fun KK hKK => ?_
        go_simp
        refine hKK _ ?_
        clear hKK KK
        refine wpOrd_take rfl _ (by rfl) (fun w' hS => run_load_exec 37 (.tmp 53) rfl ⟨b, o + k * 35, none⟩ (by rfl) XL _ (HCL.out w' hS) Tryd.underlying37 (by rfl) HI.out) fun KK hKK => ?_
        go_simp
        refine hKK _ ?_
        clear hKK KK
        refine wpOrd_take rfl _ (by rfl) (by intro w' hS; go_simp; try with_reducible rfl) fun KK hKK => ?_
        go_simp
        refine hKK _ ?_
        clear hKK KK
        refine wpOrd_take rfl _ (by rfl) (by intro w' hS; go_simp; try with_reducible rfl) fun KK hKK => ?_
        go_simp
        refine hKK _ ?_
        clear hKK KK
        refine wpOrd_take rfl _ (by rfl) (by intro w' hS; go_simp; try with_reducible rfl) fun KK hKK => ?_
        go_simp
        refine hKK _ ?_
        clear hKK KK
        refine wpOrd_take rfl _ (by rfl) (fun w' hS => run_load_exec 37 (.tmp 57) rfl ⟨b', o' + k * 35, none⟩ (by rfl) XM _ (HCM.out w' hS) Tryd.underlying37 (by rfl) HI'.out) fun KK hKK => ?_
        go_simp
        refine hKK _ ?_
        clear hKK KK
        refine wpOrd_force rfl (by rfl) fun KK hKK => ?_
        go_simp
        refine (HSL.out _ hSr).mono ?_
        rintro e w6 ⟨rfl, hb6⟩
        have hS6 : Below wr.heap.size wr w6 := hSr.trans (hb6.mono hSr.size)
        refine hKK _ _ hS6 ?_
        clear hKK KK
        refine wpOrd_take rfl _ (by rfl) (by intro w' hS; go_simp; try with_reducible rfl) fun KK hKK => ?_
        go_simp
        refine hKK _ ?_
        clear hKK KK
        refine wpOrd_nil ?_
        show Kz _ _
        refine hKz _ _ ?_
        clear hKz
        go_wp2
        go_ret3
        exact ⟨by rw [HRES.out]; rfl, HBR.out.trans (hS6.mono HBR.out.size)⟩
    · obtain rfl : k = m := by omega
      have HRES : Hid (Ch.differ L M = none) := Ch.differ_no (by rw [HMM.out]; exact HU.out)
      have HG := HMN.out
      clear HMN HMM
      rcases HG with hk1 | hk1
      · have g1 : ¬ (k : Int) < (n : Int) := by omega
        have g2 : (n : Int) ≤ (k : Int) := by omega
        clear hk1
        go_wp2
        go_ret3
        exact ⟨by rw [HRES.out]; rfl, HBR.out⟩
      · by_cases hk2 : k = n
        · have g1 : ¬ (k : Int) < (n : Int) := by omega
          have g2 : (n : Int) ≤ (k : Int) := by omega
          clear hk1 hk2
          go_wp2
          go_ret3
          exact ⟨by rw [HRES.out]; rfl, HBR.out⟩
        · have g1 : (k : Int) < (n : Int) := by omega
          have g2 : ¬ (k : Int) < (n' : Int) := by omega
          have g3 : (n' : Int) ≤ (k : Int) := by omega
          clear hk1 hk2
          go_wp2
          go_ret3
          exact ⟨by rw [HRES.out]; rfl, HBR.out⟩
theorem rpart_any (K : Sh.Cst) (A A' : Option Addr) (n n' c c' : Nat) (L M : List LkV) (w : World) (hL : Lks w w.heap.size A n L) (hM : Lks w w.heap.size A' n' M) (hn : n ≤ 1000) (hn' : n' ≤ 1000) (hnc : n ≤ c) (hnc' : n' ≤ c') (hA : A = none → c = 0) (hA' : A' = none → c' = 0) (hf : ∀ x ∈ L, Ch.fit x) (hf' : ∀ x ∈ M, Ch.fit x) :
    Calls Tryd.prog 13 #[.slice A n c, .slice A' n' c'] w fun e w' => e = .returned (Ch.partV (Ch.part K L M)) ∧ Below w.heap.size w w' := by
  have hLl := hL.len
  have hMl := hM.len
  cases h1 : Ch.allB K L with
  | false => rw [Ch.part_no (fun h => by rw [h1] at h; cases h.1)]; exact rpart_bad1 K A A' n n' c c' L M w hL hM hn hn' hnc hnc' hA hA' hf hf' h1
  | true =>
    cases h2 : Ch.allB K M with
    | false => rw [Ch.part_no (fun h => by rw [h2] at h; cases h.2.1)]; exact rpart_bad2 K A A' n n' c c' L M w hL hM hn hn' hnc hnc' hA hA' hf hf' h1 h2
    | true =>
      rcases Nat.eq_zero_or_pos n with hn0 | hn0
      · rw [Ch.part_of h1 h2 (decide_eq_false fun h => by omega)]
        exact rpart_none1 K A A' n n' c c' L M w hL hM hn hn' hnc hnc' hA hA' hf hf' h1 h2 hn0
      · rcases Nat.eq_zero_or_pos n' with hn0' | hn0'
        · rw [Ch.part_of h1 h2 (decide_eq_false fun h => by omega)]
          exact rpart_none2 K A A' n n' c c' L M w hL hM hn hn' hnc hnc' hA hA' hf hf' h1 h2 hn0 hn0'
        · by_cases h3 : (Ch.gk L 0).node = (Ch.gk M 0).node
          · rw [Ch.part_of h1 h2 (decide_eq_false fun h => h.2.2 h3)]
            exact rpart_some K A A' n n' c c' L M w hL hM hn hn' hnc hnc' hA hA' hf hf' h1 h2 hn0 hn0' h3
          · rw [Ch.part_no (fun h => by
              have h4 : Ch.apart L M = true := decide_eq_true ⟨by omega, by omega, h3⟩
              rw [h4] at h; cases h.2.2)]
            exact rpart_apart K A A' n n' c c' L M w hL hM hn hn' hnc hnc' hA hA' hf hf' h1 h2 hn0 hn0' h3
end Go.Proofs.YtpjggokaolnbcaaDoor
