/- The walks of the reference's values and points: Value, in, Few, Different, At. -/
import Derived.Test.YtdajanoikcemoaaFieldWalks2
import Derived.Deep.QuietTactic
import Derived.BigQuiet
namespace Go.Proofs.Ytdajanoikcemoaa
open Go.RowKit

theorem in_any (n : Int) (w : World) : Calls Try.prog 23 #[.int .i64 n] w fun e w' => e = .returned (.bool (decide (0 ≤ n ∧ n < 1073741789))) ∧ w = w' := by
  by_cases h1 : 0 ≤ n
  · by_cases h2 : n < 1073741789
    · go_enter Try.func23, Try.ntmps23
      go_wp2
      go_ret
      exact ⟨ret_bool (by simp [h1, h2]), rfl⟩
    · have h3 : 1073741789 ≤ n := by omega
      go_enter Try.func23, Try.ntmps23
      go_wp2
      go_ret
      exact ⟨ret_bool (by simp; omega), rfl⟩
  · have h3 : n < 0 := by omega
    go_enter Try.func23, Try.ntmps23
    go_wp2
    go_ret
    exact ⟨ret_bool (by simp; omega), rfl⟩
theorem few_any (A : Option Addr) (n cap : Nat) (w : World) : Calls Try.prog 18 #[.slice A n cap] w fun e w' => e = .returned (.bool (decide (n ≤ 70))) ∧ w = w' := by
  by_cases h1 : n ≤ 70
  · go_enter Try.func18, Try.ntmps18
    go_wp2
    go_ret
    exact ⟨ret_bool (by simp; omega), rfl⟩
  · go_enter Try.func18, Try.ntmps18
    go_wp2
    go_ret
    exact ⟨ret_bool (by simp; omega), rfl⟩
theorem drop_cons (zs : List Int) (k : Nat) (h : k < zs.length) : zs.drop k = zs.getD k 0 :: zs.drop (k + 1) := by
  rw [List.drop_eq_getElem_cons h, List.getD_eq_getElem?_getD, List.getElem?_eq_getElem h]; rfl
theorem rvalue_any (A : Option Addr) (n cap : Nat) (zs : List Int) (x : Int) (w : World) (hr : Rd w w.heap.size 1 A n (zs.map (Value.int .i64))) (hn : n ≤ 100000) :
    Calls Try.prog 22 #[.slice A n cap, .int .i64 x] w fun e w' => e = .returned (.int .i64 (Fm.val zs x)) ∧ Drw w w' := by
  have hlen : n = zs.length := by simpa using hr.1.symm
  have HL := Lib.hid hlen
  clear hlen
  go_enter Try.func22, Try.ntmps22
  go_wp2
  go_loopw [5, 6] (fun y i wr => ∃ k : Nat, k ≤ n ∧ i = .int .i64 ((k : Int) - 1) ∧ y = .int .i64 (Fm.val (zs.drop k) x) ∧ Drw w wr) (fun _ i _ => (intOf i + 1).toNat)
  case atStart => exact ⟨n, Nat.le_refl _, rfl, by rw [HL.out, List.drop_length]; rfl, Drw.refl _⟩
  case round =>
    obtain ⟨k, hk, rfl, rfl, hd⟩ := hrel
    cases k with
    | zero =>
      go_wp2
      go_ret
      exact ⟨rfl, hd⟩
    | succ k =>
      obtain ⟨b, o, rfl, hbb, hc⟩ := ints_at (hr.drw hd) (show k < n by omega)
      have E : Hid (Fm.ad (Fm.ml (Fm.val (zs.drop (k + 1)) x) x) (zs.getD k 0) = Fm.val (zs.drop k) x) := by
        show _ = _
        rw [Fm.val_cons, ← drop_cons zs k (by have := HL.out; omega)]
      generalize Fm.val (zs.drop (k + 1)) x = v at *
      generalize zs.getD k 0 = c at *
      have ek : ((k + 1 : Nat) : Int) - 1 = (k : Int) := by omega
      rw [ek]
      have hk1 : (0 : Int) ≤ (k : Int) := by omega
      have hk2 : (k : Int) < (n : Int) := by omega
      clear ek
      go_wp2
      go_quiet (first | (go_at_call 17; exact quiet_eq (rmul_any _ _ _)) | (go_at_call 15; exact quiet_eq (radd_any _ _ _)))
      go_wp2
      go_roundw
      case rel => exact ⟨k, by omega, by go_num, by rw [E.out], hd.drewN _⟩
      case measure => simp [intOf]
def cellsP (l : List Fm.Pt) : List Value := l.flatMap fun p => [.int .i64 p.1, .int .i64 p.2]
theorem cellsP_length (l : List Fm.Pt) : (cellsP l).length = l.length * 2 := by
  unfold cellsP; induction l with
  | nil => rfl
  | cons a l ih => simp only [List.flatMap_cons, List.length_append, List.length_cons, List.length_nil, ih]; omega
theorem cellsP_at (l : List Fm.Pt) : ∀ k, k < l.length → (cellsP l)[k * 2]? = some (.int .i64 (Fm.pX l k)) ∧ (cellsP l)[k * 2 + 1]? = some (.int .i64 (Fm.pY l k)) := by
  induction l with
  | nil => intro k h; simp at h
  | cons p l ih =>
    intro k h
    have e : cellsP (p :: l) = .int .i64 p.1 :: .int .i64 p.2 :: cellsP l := by simp [cellsP]
    rw [e]
    cases k with
    | zero => simp [Fm.pX, Fm.pY]
    | succ k =>
      have h' := ih k (by simp at h; omega)
      rw [show (k + 1) * 2 = k * 2 + 1 + 1 by omega, List.getElem?_cons_succ, List.getElem?_cons_succ, List.getElem?_cons_succ, List.getElem?_cons_succ, h'.1, h'.2]
      simp [Fm.pX, Fm.pY]
theorem pts_at {w : World} {B : Nat} {A : Option Addr} {n : Nat} {l : List Fm.Pt} (h : Rd w B 2 A n (cellsP l)) {k : Nat} (hk : k < n) :
    ∃ b o, A = some ⟨b, o, none⟩ ∧ b < B ∧ w.cell? ⟨b, o + k * 2, none⟩ = some (.int .i64 (Fm.pX l k)) ∧ w.cell? ⟨b, o + k * 2 + 1, none⟩ = some (.int .i64 (Fm.pY l k)) := by
  obtain ⟨h1, h2⟩ := h
  obtain ⟨b, o, e, hb, hc⟩ := h2 (by omega)
  rw [cellsP_length] at h1
  have h3 := cellsP_at l k (by omega)
  exact ⟨b, o, e, hb, hc _ _ h3.1, hc _ _ h3.2⟩
def DifPost (w : World) (l : List Fm.Pt) (e : Ending) (w' : World) : Prop := ∃ r : Bool, e = .returned (.bool r) ∧ (r = true ↔ Fm.dif l) ∧ Drw w w'
/-- all pairs below (i, k) differ -/
def upTo (l : List Fm.Pt) (i k : Nat) : Prop := (∀ i' k' : Nat, i' < i → k' < i' → Fm.md (Fm.pX l i') ≠ Fm.md (Fm.pX l k')) ∧ ∀ k' : Nat, k' < k → Fm.md (Fm.pX l i) ≠ Fm.md (Fm.pX l k')
theorem upTo_zero (l : List Fm.Pt) : upTo l 0 0 := ⟨fun i' k' h => absurd h (by omega), fun k' h => absurd h (by omega)⟩
theorem upTo_next {l : List Fm.Pt} {i k : Nat} (h : upTo l i k) (hn : Fm.md (Fm.pX l i) ≠ Fm.md (Fm.pX l k)) : upTo l i (k + 1) := by
  refine ⟨h.1, fun k' hk => ?_⟩
  by_cases e : k' = k
  · subst e; exact hn
  · exact h.2 k' (by omega)
theorem upTo_row {l : List Fm.Pt} {i : Nat} (h : upTo l i i) : upTo l (i + 1) 0 := by
  refine ⟨fun i' k' hi hk => ?_, fun k' hk => absurd hk (by omega)⟩
  by_cases e : i' = i
  · subst e; exact h.2 k' hk
  · exact h.1 i' k' (by omega) hk
theorem upTo_end {l : List Fm.Pt} {n : Nat} (hn : n = l.length) (h : upTo l n 0) : Fm.dif l := by
  subst hn
  exact (Fm.dif_iff l).2 h.1
theorem upTo_not {l : List Fm.Pt} {i k : Nat} (hi : i < l.length) (hk : k < i) (h : Fm.md (Fm.pX l i) = Fm.md (Fm.pX l k)) : ¬ Fm.dif l := fun hd => (Fm.dif_iff l).1 hd i k hi hk h
theorem different_any (A : Option Addr) (n cap : Nat) (l : List Fm.Pt) (w : World) (hr : Rd w w.heap.size 2 A n (cellsP l)) (hn : n ≤ 100000) :
    Calls Try.prog 24 #[.slice A n cap] w (DifPost w l) := by
  have HL : Hid (n = l.length) := by show _ = _; have := hr.1; rw [cellsP_length] at this; omega
  go_enter Try.func24, Try.ntmps24
  go_wp2
  go_loopw [3] (fun i wr => ∃ i0 : Nat, i0 ≤ n ∧ i = .int .i64 i0 ∧ upTo l i0 0 ∧ Drw w wr) (fun i _ => n - (intOf i).toNat)
  case atStart => exact ⟨0, Nat.zero_le _, rfl, upTo_zero l, Drw.refl _⟩
  case round =>
    obtain ⟨i0, hi, rfl, hu, hd⟩ := hrel
    obtain ⟨wo, rfl⟩ : ∃ wo : World, wo = wr := ⟨_, rfl⟩
    by_cases hlt : i0 < n
    · go_wp2
      go_loopw [4] (fun k wr => ∃ k0 : Nat, k0 ≤ i0 ∧ k = .int .i64 k0 ∧ upTo l i0 k0 ∧ Drw w wr) (fun k _ => i0 - (intOf k).toNat)
      case atStart => exact ⟨0, Nat.zero_le _, rfl, hu, hd⟩
      case round =>
        obtain ⟨k0, hk, rfl, hu2, hd2⟩ := hrel
        by_cases hlt2 : k0 < i0
        · obtain ⟨b, o, hA, hbb, hc1, _⟩ := pts_at (hr.drw hd2) hlt
          obtain ⟨b', o', hA', _, hc2, _⟩ := pts_at (hr.drw hd2) (show k0 < n by omega)
          rw [hA] at hA'
          simp only [Option.some.injEq, Addr.mk.injEq, and_true] at hA'
          obtain ⟨rfl, rfl⟩ := hA'
          subst hA
          have hk1 : (0 : Int) ≤ (k0 : Int) := by omega
          have hk2 : (k0 : Int) < (n : Int) := by omega
          have hk3 : (0 : Int) ≤ (i0 : Int) := by omega
          have hk4 : (i0 : Int) < (n : Int) := by omega
          by_cases hm : Fm.md (Fm.pX l i0) = Fm.md (Fm.pX l k0)
          · have HM := Lib.hid (upTo_not (l := l) (by have := HL.out; omega) hlt2 hm)
            have hb := beq_iff_eq.2 hm
            clear hm
            go_wp2
            go_quiet (first | (go_at_call 13; exact quiet_eq (rmod_any _ _)))
            go_wp2
            go_ret
            exact ⟨false, rfl, by simpa using HM.out, hd2.drewN _⟩
          · have HM := Lib.hid (upTo_next hu2 hm)
            have hb := beq_eq_false_iff_ne.2 hm
            clear hm
            go_wp2
            go_quiet (first | (go_at_call 13; exact quiet_eq (rmod_any _ _)))
            go_wp2
            go_roundw
            case rel => exact ⟨k0 + 1, by omega, by go_num, HM.out, hd2.drewN _⟩
            case measure => simp [intOf]; omega
        · obtain rfl : k0 = i0 := by omega
          go_wp2
          go_roundw
          case rel => exact ⟨k0 + 1, by omega, by go_num, upTo_row hu2, hd2⟩
          case measure => simp [intOf]; omega
    · obtain rfl : i0 = n := by omega
      go_wp2
      go_ret
      exact ⟨true, rfl, by simpa using upTo_end HL.out hu, hd⟩
end Go.Proofs.Ytdajanoikcemoaa
