/- bytes.Clone. -/
import Derived.Test.YtpjggokaolnbcaaDoorLPart2
import Derived.Laws.OwnMore
namespace Go.Proofs.YtpjggokaolnbcaaDoor
open Go.RowKit
attribute [local go_sem] Oper.semAt_some
set_option linter.unusedVariables false
theorem eql_nil (w : World) (a : Option Addr) (l c : Nat) : (binOp .eql 23 (.slice a l c) (.slice none 0 0)).run Tryd.prog w = .ok (.bool a.isNone) w := by
  have h := run_equal_slice_nil (P := Tryd.prog) w 23 _ a l c Tryd.underlying23
  simp [binOp, h]
set_option maxRecDepth 100000 in
set_option maxHeartbeats 2000000 in
theorem clone_any (A : Option Addr) (n c : Nat) (l : List Int) (w : World) (hr : Rd w w.heap.size 1 A n (l.map (Value.int .u8))) (hn : n ≤ 100000) :
    Calls Tryd.prog 20 #[.slice A n c] w fun e w' => ∃ A' c', e = .returned (.slice A' l.length c') ∧ Rd w' w'.heap.size 1 A' l.length (l.map (Value.int .u8)) ∧ l.length ≤ c' ∧ c' ≤ maxLen ∧ Below w.heap.size w w' := by
  have hl : l.length = n := by have := hr.1; simpa using this
  rcases A with _ | a
  · have he := eql_nil w none n c
    have h0 : n = 0 := by
      rcases Nat.eq_zero_or_pos n with h | h
      · exact h
      · obtain ⟨b, o, h, _⟩ := hr.2 h; cases h
    subst h0
    obtain rfl : l = [] := List.eq_nil_of_length_eq_zero hl
    go_enter Tryd.func20, Tryd.ntmps20
    go_wp2
    go_ret
    exact ⟨none, 0, rfl, ⟨rfl, fun h => absurd h (by simp)⟩, Nat.le_refl _, by unfold maxLen; omega, Below.refl _ _⟩
  · obtain ⟨i0, hi, hz0, hz1, hz2⟩ := info_parts infoU8
    have he := eql_nil w (some a) n c
    have HL := Lib.hid hl
    have HR := Lib.hid hr
    clear hl hr
    have T : One w w.heap.size (w.alloc (.cells #[] 5)) 5 1 (.slice (some ⟨w.heap.size, 0, none⟩) 0 0) 0 [] :=
      ⟨World.ownsRow_lit w #[] 0 (Nat.le_refl _) (by unfold maxLen; omega) rfl, (Below.refl _ w).alloc (Nat.le_refl _) _, by simp⟩
    go_enter Tryd.func20, Tryd.ntmps20
    go_wp2_with (at_builtin; refine wpList_append_rd _ rfl (.tmp 5) (.tmp 6) 23 rfl w.heap.size 5 i0 _ 1 1 Tryd.underlying23 hi hz0 hz1 hz2 rfl (by omega) _ 0 _ (by rfl) T.own w.heap.size _ n _ _ (by rfl) (HR.out.below T.bel) (u8_one _) (by unfold maxLen; omega) (by omega) T.size ?_; intro v2 w2 hown2 hg2 _)
    have T2 := T.grew hown2 hg2
    clear hown2 hg2 T
    obtain ⟨A', c', rfl, hR, hlc, hcm⟩ := own_slice' T2.own
    go_wp2
    go_ret
    rw [Nat.zero_add] at hR hlc
    refine ⟨A', c', ?_, ?_, ?_, hcm, T2.bel⟩
    · rw [HL.out]
      first | done | rfl | simp
    · rw [HL.out]; exact hR
    · rw [HL.out]; exact hlc
end Go.Proofs.YtpjggokaolnbcaaDoor
