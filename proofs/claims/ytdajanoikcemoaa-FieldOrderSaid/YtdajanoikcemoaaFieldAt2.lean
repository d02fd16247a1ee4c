/- field.At where it is refused: too many points; points that stand for one number. -/
import Derived.Test.YtdajanoikcemoaaFieldAt
namespace Go.Proofs.Ytdajanoikcemoaa
open Go.RowKit Go.Shelf
attribute [local go_sem] Oper.semAt_some

set_option maxRecDepth 100000 in
set_option maxHeartbeats 4000000 in
theorem at_dif (A : Option Addr) (n cap : Nat) (l : List Fm.Pt) (x : Int) (w : World) (hr : Rd w w.heap.size 2 A n (cellsP l)) (hn : n ≤ 64) (hd : ¬ Fm.dif l) :
    Calls Try.prog 19 #[.slice A n cap, .int .i64 x] w fun e w' => e = .returned (.tuple #[.int .i64 0, .int .i64 90]) ∧ Below w.heap.size w w' := by
  have HL : Hid (n = l.length) := by show _ = _; have := hr.1; rw [cellsP_length] at this; omega
  have HD := Lib.hid hd
  clear hd
  have hmm := @run_makeMap Try.prog
  refine (callsIn_wide (n := 3)).1 ?_
  refine callsIn_of_wp_marks Try.func19 rfl trivial ?_ rfl
  simp only [Try.ntmps19, List.size_toArray, List.length_cons, List.length_nil, Nat.reduceAdd, Nat.reduceSub, Array.replicate_succ, Array.replicate_zero, List.push_toArray, List.append_toArray, List.nil_append, List.cons_append]
  gi_wp2_with fail
  gi_loopw [22] (fun i wr => ∃ k : Nat, k ≤ n ∧ i = .int .i64 k ∧ Boxed wr w.heap.size 3 (.int .i64 x) ∧ wr.ownsMap Try.prog 3 (plainElem (H := Unit) Try.prog 4) (w.heap.size + 1) k (Maps.setOf (.lit (.bool true)) (keyL l k)) ∧ Below w.heap.size w wr) (fun i _ => n - (intOf i).toNat)
  case atStart =>
    have hm0 := World.ownsMap_made (w.alloc (.cells #[.int .i64 x] 3)) Try.prog 3 (plainElem (H := Unit) Try.prog 4)
    rw [World.size_alloc] at hm0
    exact ⟨0, Nat.zero_le _, rfl, (Boxed.new w _ _).alloc _, hm0, ((Below.refl _ w).alloc (Nat.le_refl _) _).alloc (by simp) _⟩
  case round =>
    obtain ⟨k, hk, rfl, hbx, hown, hb⟩ := hrel
    by_cases hlt : k < n
    · obtain ⟨b, o, rfl, hbb, hcx, hcy⟩ := pts_at (hr.below hb) hlt
      have hk1 : (0 : Int) ≤ (k : Int) := by omega
      have hk2 : (k : Int) < (n : Int) := by omega
      have hwf := md_wf (Fm.pX l k)
      have hkm : k < maxLen := by unfold maxLen; omega
      gi_wp2_with (first | (refine ⟨trivial, ?_⟩; gi_at_call 12; refine (callsIn_wide.2 (mod_any _ _)).mono ?_; rintro e w' ⟨rfl, rfl⟩) | (gi_at_mapUpdate; go_loud (refine wpListIn_mapUpdate_own _ rfl _ _ _ 43 rfl 3 4 (Maps.int_keyed Try.underlying3) Try.underlying43 _ (w.heap.size + 1) k _ rfl (hown.alloc _) hkm _ _ _ rfl rfl (Maps.keyOf_int_mk Try.underlying3 hwf) _ [] (plainElem_bool Try.underlying4 true) ?_); intro w1 hown1 hgrow1))
      go_roundw
      case rel =>
        exact ⟨k + 1, by omega, by go_num, (hbx.alloc _).kept hgrow1 (by simp), by rw [keyL_succ, Maps.setOf_snoc]; exact hown1,
          (hb.alloc hb.size _).grown hgrow1 (by have := hb.size; simp; omega) (fun k e => by cases e; omega)⟩
      case measure => simp [intOf]; omega
    · obtain rfl : k = n := by omega
      have hsz : Maps.size (Maps.setOf (H := Unit) (.lit (.bool true)) (keyL l k)) = seenN l k := size_seen l k
      have hsn : seenN l k < k := by
        have h1 := (seenN_spec l k).1
        have h2 : seenN l k ≠ k := fun h => HD.out (upTo_end HL.out ((seenN_spec l k).2.1 h))
        omega
      gi_wp2_with (refine wpListIn_len_own rfl (.tmp 31) 43 rfl 3 4 Try.underlying43 _ (w.heap.size + 1) k _ rfl hown ?_)
      refine leaves_marks (B := w.heap.size) (C := 0) [] _ (Marks.nil _ _ _) fun w' hb' => ?_
      exact ⟨_, results_tmp2 rfl _ _ _, rfl, hb.trans hb'⟩
theorem at_lim (A : Option Addr) (n cap : Nat) (x : Int) (w : World) (hn : 64 < n) (hn2 : n ≤ 100000) :
    Calls Try.prog 19 #[.slice A n cap, .int .i64 x] w fun e w' => e = .returned (.tuple #[.int .i64 0, .int .i64 2]) ∧ Below w.heap.size w w' := by
  refine (callsIn_wide (n := 3)).1 ?_
  refine callsIn_of_wp_marks Try.func19 rfl trivial ?_ rfl
  simp only [Try.ntmps19, List.size_toArray, List.length_cons, List.length_nil, Nat.reduceAdd, Nat.reduceSub, Array.replicate_succ, Array.replicate_zero, List.push_toArray, List.append_toArray, List.nil_append, List.cons_append]
  gi_wp2
  refine leaves_marks (B := w.heap.size) (C := 0) [] _ (Marks.nil _ _ _) fun w' hb' => ?_
  exact ⟨_, results_tmp2 rfl _ _ _, rfl, ((Below.refl _ w).alloc (Nat.le_refl _) _).trans hb'⟩
end Go.Proofs.Ytdajanoikcemoaa
