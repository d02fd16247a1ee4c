/- The walk of the reference's At. -/
import Derived.Test.YtdajanoikcemoaaFieldWalks3
namespace Go.Proofs.Ytdajanoikcemoaa
open Go.RowKit

theorem different_yes (A : Option Addr) (n cap : Nat) (l : List Fm.Pt) (w : World) (hr : Rd w w.heap.size 2 A n (cellsP l)) (hn : n ≤ 100000) (hd : Fm.dif l) :
    Calls Try.prog 24 #[.slice A n cap] w fun e w' => e = .returned (.bool true) ∧ Drw w w' :=
  (different_any A n cap l w hr hn).mono fun e w' ⟨r, he, hi, hw⟩ => ⟨by rw [he, hi.2 hd], hw⟩
theorem different_no (A : Option Addr) (n cap : Nat) (l : List Fm.Pt) (w : World) (hr : Rd w w.heap.size 2 A n (cellsP l)) (hn : n ≤ 100000) (hd : ¬ Fm.dif l) :
    Calls Try.prog 24 #[.slice A n cap] w fun e w' => e = .returned (.bool false) ∧ Drw w w' :=
  (different_any A n cap l w hr hn).mono fun e w' ⟨r, he, hi, hw⟩ => ⟨by
    cases r with
    | false => exact he
    | true => exact absurd (hi.1 rfl) hd, hw⟩
theorem rat_lim (A : Option Addr) (n cap : Nat) (x : Int) (w : World) (hn : 64 < n) (hn2 : n ≤ 100000) :
    Calls Try.prog 20 #[.slice A n cap, .int .i64 x] w fun e w' => e = .returned (.tuple #[.int .i64 0, .int .i64 2]) ∧ w = w' := by
  go_enter Try.func20, Try.ntmps20
  go_wp2
  go_ret2
  exact ⟨rfl, rfl⟩
theorem rat_dif (A : Option Addr) (n cap : Nat) (l : List Fm.Pt) (x : Int) (w : World) (hr : Rd w w.heap.size 2 A n (cellsP l)) (hn : n ≤ 64) (hd : ¬ Fm.dif l) :
    Calls Try.prog 20 #[.slice A n cap, .int .i64 x] w fun e w' => e = .returned (.tuple #[.int .i64 0, .int .i64 90]) ∧ Drw w w' := by
  have HD := Lib.hid hd
  have HR := Lib.hid hr
  clear hd hr
  go_enter Try.func20, Try.ntmps20
  go_wp2_with (go_at_call 24; refine (different_no _ _ _ l _ HR.out (by omega) HD.out).mono ?_; rintro e w' ⟨rfl, hd⟩)
  go_ret2
  exact ⟨rfl, hd⟩
set_option maxHeartbeats 1600000 in
theorem rat_any (A : Option Addr) (n cap : Nat) (l : List Fm.Pt) (x : Int) (w : World) (hr : Rd w w.heap.size 2 A n (cellsP l)) (hn : n ≤ 64) (hd : Fm.dif l) :
    Calls Try.prog 20 #[.slice A n cap, .int .i64 x] w fun e w' => e = .returned (.tuple #[.int .i64 (Fm.lag l x), .int .i64 0]) ∧ Drw w w' := by
  have HD := Lib.hid hd
  have HR := Lib.hid hr
  have HL : Hid (n = l.length) := by show _ = _; have := hr.1; rw [cellsP_length] at this; omega
  clear hd hr
  go_enter Try.func20, Try.ntmps20
  go_wp2_with (go_at_call 24; refine (different_yes _ _ _ l _ HR.out (by omega) HD.out).mono ?_; rintro e w' ⟨rfl, hd⟩)
  have HR1 := Lib.hid (HR.out.drw hd)
  go_loopw [6, 7] (fun y i wr => ∃ i0 : Nat, i0 ≤ n ∧ i = .int .i64 i0 ∧ y = .int .i64 (Fm.sm l x i0 % 1073741789) ∧ Drw w wr) (fun _ i _ => n - (intOf i).toNat)
  case atStart => exact ⟨0, Nat.zero_le _, rfl, rfl, hd⟩
  case round =>
    obtain ⟨i0, hi, rfl, rfl, hd1⟩ := hrel
    obtain ⟨wo, rfl⟩ : ∃ wo : World, wo = wr := ⟨_, rfl⟩
    clear hd
    by_cases hlt : i0 < n
    · obtain ⟨b, o, rfl, hbb, hcx, hcy⟩ := pts_at (HR.out.drw hd1) hlt
      have hk3 : (0 : Int) ≤ (i0 : Int) := by omega
      have hk4 : (i0 : Int) < (n : Int) := by omega
      have HY := Lib.hid (Fm.rp_zero (Fm.pt l i0) x)
      go_wp2_with (go_at_call 13; refine (rmod_any _ _).mono ?_; rintro e w' ⟨rfl, rfl⟩)
      go_loopw [8, 9] (fun p k wr => ∃ (k0 : Nat) (p0 : Int), k0 ≤ n ∧ k = .int .i64 k0 ∧ p = .int .i64 p0 ∧ Fm.cg p0 (Fm.rp (Fm.pt l i0) (Fm.so l i0 k0) x) ∧ Drw w wr) (fun _ k _ => n - (intOf k).toNat)
      case atStart => exact ⟨0, _, Nat.zero_le _, rfl, rfl, HY.out, hd1⟩
      case round =>
        obtain ⟨k0, p0, hk, rfl, rfl, hp, hd2⟩ := hrel
        have HP := Lib.hid hp
        clear hp
        by_cases hlt2 : k0 < n
        · obtain ⟨b', o', hA', _, hc2, _⟩ := pts_at (HR.out.drw hd2) hlt2
          simp only [Option.some.injEq, Addr.mk.injEq, and_true] at hA'
          obtain ⟨rfl, rfl⟩ := hA'
          have hc1 := (hd2.cell ⟨b, o + i0 * 2, none⟩).trans ((hd1.cell _).symm.trans hcx)
          have hk1 : (0 : Int) ≤ (k0 : Int) := by omega
          have hk2 : (k0 : Int) < (n : Int) := by omega
          have b1 := Fm.md_lo (Fm.pX l k0)
          have b2 := Fm.md_hi (Fm.pX l k0)
          by_cases he : k0 = i0
          · have HS : Hid (Fm.so l i0 (k0 + 1) = Fm.so l i0 k0) := by show _ = _; rw [Fm.so, if_pos he]
            have hne : ((k0 : Int) != (i0 : Int)) = false := by simp [he]
            clear he
            go_wp2
            go_roundw
            case rel => exact ⟨k0 + 1, p0, by omega, by go_num, rfl, by rw [HS.out]; exact HP.out, hd2⟩
            case measure => simp [intOf]; omega
          · have HS : Hid (Fm.so l i0 (k0 + 1) = Fm.so l i0 k0 ++ [Fm.pt l k0]) := by show _ = _; rw [Fm.so, if_neg he]
            have hne : ((k0 : Int) != (i0 : Int)) = true := by simp; omega
            clear he
            have HN := Lib.hid (Fm.rp_next (q := Fm.pt l k0) HP.out)
            go_wp2
            go_quiet (first | (go_at_call 13; exact quiet_eq (rmod_any _ _)) | (go_at_call 15; exact quiet_eq (radd_any _ _ _)) | (go_at_call 11; exact quiet_eq (rinv_any _ _)))
            go_wp2_with (first | (go_at_call 13; refine (rmod_any _ _).mono ?_; rintro e w' ⟨rfl, rfl⟩) | (go_at_call 15; refine (radd_any _ _ _).mono ?_; rintro e w' ⟨rfl, rfl⟩) | (go_at_call 17; refine (rmul_any _ _ _).mono ?_; rintro e w' ⟨rfl, rfl⟩))
            go_roundw
            case rel => exact ⟨k0 + 1, _, by omega, by go_num, rfl, by rw [HS.out]; exact HN.out, hd2.drewN _⟩
            case measure => simp [intOf]; omega
        · obtain rfl : k0 = n := by omega
          have HE : Hid (Fm.ad (Fm.sm l x i0 % 1073741789) p0 = Fm.sm l x (i0 + 1) % 1073741789) := by
            show _ = _
            have h1 := HP.out
            have h2 := HL.out
            rw [h2] at h1
            exact Fm.sm_next l x p0 i0 (by omega) (Fm.rp_end h1)
          go_wp2_with (first | (go_at_call 13; refine (rmod_any _ _).mono ?_; rintro e w' ⟨rfl, rfl⟩) | (go_at_call 15; refine (radd_any _ _ _).mono ?_; rintro e w' ⟨rfl, rfl⟩) | (go_at_call 17; refine (rmul_any _ _ _).mono ?_; rintro e w' ⟨rfl, rfl⟩))
          go_roundw
          case rel => exact ⟨i0 + 1, by omega, by go_num, by rw [HE.out], hd2⟩
          case measure => simp [intOf]; omega
    · obtain rfl : i0 = n := by omega
      have HE : Hid (Fm.sm l x i0 % 1073741789 = Fm.lag l x) := by show _ = _; rw [HL.out]; exact Fm.lag_sm l x
      go_wp2
      go_ret2
      exact ⟨ret_tup2 HE.out rfl, hd1⟩
end Go.Proofs.Ytdajanoikcemoaa
