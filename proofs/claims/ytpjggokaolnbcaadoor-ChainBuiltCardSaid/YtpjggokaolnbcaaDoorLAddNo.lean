/- chain.Add, where it refuses. -/
import Derived.Test.YtpjggokaolnbcaaDoorLPart2
namespace Go.Proofs.YtpjggokaolnbcaaDoor
open Go.RowKit
attribute [local go_sem] Oper.semAt_some
set_option linter.unusedVariables false
set_option maxRecDepth 100000 in
set_option maxHeartbeats 2000000 in
theorem add_wide (K : Sh.Cst) (A : Option Addr) (n c : Nat) (L : List LkV) (node : Int) (B : Option Addr) (m cd : Nat) (w : World) (hL : Lks w w.heap.size A n L) (hn : n ≤ 1000) (hnc : n ≤ c) (hf : ∀ x ∈ L, Ch.fit x) (hLd : Laid w)
    (h1 : Ch.allB K L = true) (hn1 : 24 ≤ node) :
    Calls Tryd.prog 10 #[.slice A n c, .int .i64 node, .slice B m cd] w fun e w' => e = .returned (.tuple #[.slice none 0 0, .int .i64 1]) ∧ Below w.heap.size w w' := by
  have e1 : Ch.chk K L = 0 := by unfold Ch.chk; rw [if_pos h1]
  have HC := Lib.hid (check_any K A n c L w hL hn hnc hf hLd)
  rw [e1] at HC
  have g1 : ¬ node < 0 := by omega
  clear hf hLd hL
  go_enter Tryd.func10, Tryd.ntmps10
  go_wp2_with fail
  refine HC.out.mono ?_
  rintro e w1 ⟨rfl, hb1⟩
  go_wp2
  go_ret2
  exact ⟨rfl, hb1⟩
set_option maxRecDepth 100000 in
set_option maxHeartbeats 2000000 in
theorem add_other (K : Sh.Cst) (A : Option Addr) (n c : Nat) (L : List LkV) (node : Int) (B : Option Addr) (m cd : Nat) (w : World) (hL : Lks w w.heap.size A n L) (hn : n ≤ 1000) (hnc : n ≤ c) (hf : ∀ x ∈ L, Ch.fit x) (hLd : Laid w)
    (h1 : Ch.allB K L = true) (hn0 : 0 ≤ node) (hn1 : node < 24) (h0 : 0 < n) (hne : node ≠ (Ch.gk L 0).node) :
    Calls Tryd.prog 10 #[.slice A n c, .int .i64 node, .slice B m cd] w fun e w' => e = .returned (.tuple #[.slice none 0 0, .int .i64 1]) ∧ Below w.heap.size w w' := by
  have e1 : Ch.chk K L = 0 := by unfold Ch.chk; rw [if_pos h1]
  have HC := Lib.hid (check_any K A n c L w hL hn hnc hf hLd)
  rw [e1] at HC
  obtain ⟨b, o, rfl, hb, hc⟩ := hL.at (Ch.gk_mem (L := L) (k := 0) (by rw [hL.len]; omega)).2
  have p0 := hc 0 _ (LkV.cell_n _)
  simp only [Nat.zero_mul, Nat.add_zero] at p0
  clear hc
  generalize (Ch.gk L 0).node = d at p0 hne
  have g1 : ¬ node < 0 := by omega
  have g2 : ¬ (24 : Int) ≤ node := by omega
  have g3 : (0 : Int) < (n : Int) := by omega
  have g4 : ((node == d : Bool)) = false := beq_eq_false_iff_ne.2 hne
  have g5 : ((node != d : Bool)) = true := by rw [bne, g4]; rfl
  clear hf hLd hL
  go_enter Tryd.func10, Tryd.ntmps10
  go_wp2_with fail
  refine HC.out.mono ?_
  rintro e w1 ⟨rfl, hb1⟩
  have q0 := (hb1.cell (p := ⟨b, o, none⟩) hb).trans p0
  go_wp2
  go_ret2
  exact ⟨rfl, hb1⟩
end Go.Proofs.YtpjggokaolnbcaaDoor
