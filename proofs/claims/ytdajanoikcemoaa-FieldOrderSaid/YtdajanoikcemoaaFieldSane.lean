/- The walk of the sanity examples: they come out true. -/
import Derived.Test.YtdajanoikcemoaaFieldAt2
import Derived.Test.YtdajanoikcemoaaFieldWalks4
import Derived.Test.YtdajanoikcemoaaFieldFacts
namespace Go.Proofs.Ytdajanoikcemoaa
open Go.RowKit

theorem rd_new (W : World) (t : TypeId) (cs : List Value) (n size : Nat) (h : cs.length = n * size) : Rd (W.alloc (.cells cs.toArray t)) (W.alloc (.cells cs.toArray t)).heap.size size (some ⟨W.heap.size, 0, none⟩) n cs := by
  refine ⟨h, fun _ => ⟨_, _, rfl, by simp, fun j u hu => ?_⟩⟩
  have h := cell_of_row (W.alloc (.cells cs.toArray t)) W.heap.size j _ _ _ (World.alloc_heap_new W _)
  rw [Nat.zero_add, h]
  simpa using hu
theorem make65 : ∃ o : Obj, ∀ w : World, (Instr.makeSlice 30 (.int .i64 65) (.int .i64 65)).run Try.prog w = .ok (.slice (some ⟨w.heap.size, 0, none⟩) 65 65) (w.alloc o) :=
  ⟨.cells (Array.replicate 130 (.int .i64 0)) 38, fun _ => by kernel_rfl⟩
set_option maxHeartbeats 2000000 in
theorem sane_any (w : World) : Calls Try.prog 9 #[] w fun e w' => e = .returned (.bool true) ∧ Below w.heap.size w w' := by
  have i0 : Fm.inv 0 = 0 := Fm.inv_zero rfl
  have i1 : Fm.invE 0 = 90 := Fm.invE_zero rfl
  have i2 : Fm.inv 1073741789 = 0 := Fm.inv_zero rfl
  have i3 : Fm.invE 1073741789 = 90 := Fm.invE_zero rfl
  have i4 := Fm.inv_2
  have i5 : Fm.invE 2 = 0 := Fm.invE_ne (by decide)
  go_enter Try.func9, Try.ntmps9
  go_wp2_with (go_at_call 10; refine (inv_any _ _).mono ?_; rintro e w' ⟨rfl, rfl⟩)
  obtain ⟨o65, hmk⟩ := make65
  have l1 := Fm.lag_12
  have m1 : Fm.md (-1) = 1073741788 := rfl
  have m2 : Fm.ml (-1) (-1) = 1 := rfl
  have m3 : Fm.ad 1073741788 3 = 2 := rfl
  have m4 := Fm.val_123
  have m5 := Fm.val_nil 7
  have l2 := Fm.lag_nil 7
  refine (at_any _ 2 2 [(1, 3), (2, 5)] 0 _ (rd_new w _ [.int .i64 1, .int .i64 3, .int .i64 2, .int .i64 5] 2 2 rfl) (by omega) Fm.dif_12).mono ?_
  rintro e w1 ⟨rfl, hb1⟩
  have H1 := ((Below.refl w.heap.size w).alloc (Nat.le_refl _) (.cells #[.int .i64 1, .int .i64 3, .int .i64 2, .int .i64 5] 38)).trans (hb1.mono (by simp))
  clear hb1
  go_wp2_with fail
  refine (at_any none 0 0 [] 7 _ Rd.nil_ (by omega) trivial).mono ?_
  rintro e w2 ⟨rfl, hb2⟩
  have H2 := H1.trans (hb2.mono H1.size)
  clear hb2 H1
  go_wp2_with fail
  refine (at_dif _ 2 2 [(1, 5), (-1073741788, 5)] 0 _ (rd_new w2 _ [.int .i64 1, .int .i64 5, .int .i64 (-1073741788), .int .i64 5] 2 2 rfl) (by omega) Fm.dif_1q).mono ?_
  rintro e w3 ⟨rfl, hb3⟩
  have H3 := (H2.alloc H2.size (.cells #[.int .i64 1, .int .i64 5, .int .i64 (-1073741788), .int .i64 5] 38)).trans (hb3.mono (by have := H2.size; simp; omega))
  clear hb3 H2
  go_wp2_with fail
  refine (at_lim _ 65 65 0 _ (by omega) (by omega)).mono ?_
  rintro e w4 ⟨rfl, hb4⟩
  have H4 := (H3.alloc H3.size o65).trans (hb4.mono (by have := H3.size; simp; omega))
  clear hb4 H3 hmk
  go_wp2_with fail
  (with_reducible refine (mod_any _ _).mono ?_)
  rintro e w5 ⟨rfl, rfl⟩
  go_wp2_with fail
  (with_reducible refine (mul_any _ _ _).mono ?_)
  rintro e w5 ⟨rfl, rfl⟩
  go_wp2_with fail
  (with_reducible refine (add_any _ _ _).mono ?_)
  rintro e w5 ⟨rfl, rfl⟩
  have H5 := H4.alloc H4.size (.cells #[.int .i64 1073741788, .int .i64 3] 3)
  clear H4
  go_wp2_with fail
  have R3 := rd_new (w4.alloc (.cells #[.int .i64 1073741788, .int .i64 3] 3)) 3 [.int .i64 1, .int .i64 2, .int .i64 3] 3 1 rfl
  rw [World.size_alloc w4] at R3
  have R4 : Rd _ _ 1 _ 3 (([1, 2, 3] : List Int).map (Value.int .i64)) := R3
  (with_reducible refine (value_any _ 3 3 [1, 2, 3] 10 _ R4 (by omega)).mono ?_)
  rintro e w6 ⟨rfl, hb6⟩
  clear R3 R4
  have H6 := (H5.alloc H5.size (.cells #[.int .i64 1, .int .i64 2, .int .i64 3] 3)).trans (hb6.mono (by have := H5.size; simp at this; simp; omega))
  clear hb6 H5
  go_wp2_with fail
  (with_reducible refine (value_any none 0 0 [] 7 _ Rd.nil_ (by omega)).mono ?_)
  rintro e w7 ⟨rfl, hb7⟩
  have H7 := H6.trans (hb7.mono H6.size)
  clear hb7 H6
  go_wp2_with fail
  go_ret
  exact ⟨rfl, H7⟩
end Go.Proofs.Ytdajanoikcemoaa
