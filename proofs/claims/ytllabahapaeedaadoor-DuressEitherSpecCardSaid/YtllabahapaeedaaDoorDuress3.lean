/- Package duress: what reads and makes the tags of an occasion. -/
import Derived.Test.YtllabahapaeedaaDoorDuress2
namespace Go.Proofs.YtllabahapaeedaaDoor
open Go.RowKit
set_option linter.unusedVariables false
theorem numL_bytes : ∀ (u : Nat), ∀ x ∈ Cd.numL u, Sh.Byt x := by
  intro u
  induction u using Nat.strongRecOn with
  | ind u ih =>
    intro x hx
    by_cases h : u < 128
    · rw [Cd.numL_small h] at hx
      obtain rfl : x = u := by simpa using hx
      exact ⟨by omega, by omega⟩
    · rw [Cd.numL_big h] at hx
      rcases List.mem_cons.1 hx with rfl | hx
      · exact Sh.wrap8 _
      · exact ih (u / 128) (by omega) x hx
theorem enc2_bytes (d n : Nat) : ∀ x ∈ enc2 d n, 0 ≤ x ∧ x < 256 := by
  intro x hx
  unfold enc2 at hx
  simp only [List.cons_append, List.nil_append, List.mem_cons, List.mem_append] at hx
  rcases hx with rfl | rfl | rfl | hx | rfl | hx
  · decide
  · decide
  · decide
  · exact numL_bytes _ x hx
  · decide
  · exact numL_bytes _ x hx
theorem enc2_length (d n : Nat) (hd : d < 4611686018427387904) (hn : n < 4611686018427387904) : (enc2 d n).length ≤ 100 := by
  have h1 := Cd.numL_ten (u := 2 * d) (by omega)
  have h2 := Cd.numL_ten (u := 2 * n) (by omega)
  unfold enc2
  simp only [List.length_append, List.length_cons, List.length_nil]
  omega
def tagS : ByteArray := ⟨#[116, 97, 103]⟩
/-- the hash of an occasion -/
def Du.ho (K : Sh.Cst) (d n : Nat) : Int := Sh.hash K (strInts tagS) (enc2 d n)
theorem rd_two (W : World) (d n : Int) (t : TypeId) : Rd (W.alloc (.cells #[.int .i64 1, .int .i64 d, .string ⟨#[]⟩, .slice none 0 0, .int .i64 1, .int .i64 n, .string ⟨#[]⟩, .slice none 0 0] t)) (W.heap.size + 1) 4 (some ⟨W.heap.size, 0, none⟩) 2 (intCells [d, n]) := by
  refine ⟨rfl, fun _ => ⟨W.heap.size, 0, rfl, by omega, fun j u hu => ?_⟩⟩
  rw [cell_of_row _ W.heap.size (0 + j) _ _ _ (heap_alloc_new W _), Nat.zero_add]
  simpa [intCells] using hu
theorem Laid.drew {w : World} (h : Laid w) : Laid w.drew := ⟨h.start, h.nums, h.size⟩
set_option maxRecDepth 100000 in
set_option maxHeartbeats 1000000 in
theorem on_yes (K : Sh.Cst) (a b c : Int) (d n : Nat) (w : World) (hr : Du.right a b c = true) (hp : Du.poss d n = true) (hL : Laid w) :
    Calls Tryd.prog 22 #[silV a b c, .int .i64 d, .int .i64 n] w fun e w' => e = .returned (.tuple #[.iface 62 (occV a b c (Du.ho K d n)), .int .i64 0]) ∧ Below w.heap.size w w' := by
  have hp' := Du.poss_iff.1 hp
  have HR := Lib.hid hr
  have HP := Lib.hid hp
  have hra := right_any a b c
  clear hr hp
  obtain ⟨_, hd, _, hn⟩ := hp'
  unfold silV at hra ⊢
  go_enter Tryd.func22, Tryd.ntmps22
  go_wp2_with fail
  refine (hra _).mono ?_
  rintro e w1 ⟨he, hb1⟩
  rw [HR.out] at he
  subst he
  have hB1 := ((Below.refl w.heap.size w).alloc (Nat.le_refl _) _).trans (hb1.mono (by simp))
  have k0 : ∀ i, i < 3 → w1.cell? ⟨w.heap.size, i, none⟩ = some (.int .i64 ([a, b, c].getD i 0)) := fun i hi => by
    rw [hb1.cell (p := ⟨w.heap.size, i, none⟩) (by simp), cell_of_row _ w.heap.size i _ _ _ (heap_alloc_new w _)]
    match i, hi with
    | 0, _ => rfl
    | 1, _ => rfl
    | 2, _ => rfl
  have hs1 : w.heap.size < w1.heap.size := by have := hb1.size; simp at this; omega
  have K0 := Lib.hid k0
  clear k0 hb1 hra
  go_wp2_with fail
  refine (possible_any _ _ _).mono ?_
  rintro e w' ⟨he, rfl⟩
  rw [HP.out] at he
  subst he
  have henc := fun g c w h1 h2 => encode_two g c d n w (by omega) (by omega) h1 h2
  unfold listV at henc
  go_wp2_with fail
  refine (henc _ _ _ (by rw [World.size_alloc]; exact rd_two w1 d n _) (by simp)).mono ?_
  clear henc
  rintro e w2 ⟨A2, c2, rfl, hR2, hl2, hc2, hb2⟩
  have hB2 := (hB1.alloc hB1.size _).trans (hb2.mono (by have := hB1.size; simp; omega))
  have p0 : w2.cell? ⟨w.heap.size, 0, none⟩ = some (.int .i64 a) := (hb2.cell (p := ⟨w.heap.size, 0, none⟩) (by simp; omega)).trans ((World.cell?_alloc_lt _ _ _ hs1).trans (K0.out 0 (by omega)))
  have p1 : w2.cell? ⟨w.heap.size, 1, none⟩ = some (.int .i64 b) := (hb2.cell (p := ⟨w.heap.size, 1, none⟩) (by simp; omega)).trans ((World.cell?_alloc_lt _ _ _ hs1).trans (K0.out 1 (by omega)))
  have p2 : w2.cell? ⟨w.heap.size, 2, none⟩ = some (.int .i64 c) := (hb2.cell (p := ⟨w.heap.size, 2, none⟩) (by simp; omega)).trans ((World.cell?_alloc_lt _ _ _ hs1).trans (K0.out 2 (by omega)))
  have hs2 : w.heap.size < w2.heap.size := by have := hb2.size; simp at this; omega
  clear hb2
  have hel := enc2_length d n (by omega) (by omega)
  have HEL := Lib.hid hel
  have HR2 := Lib.hid hR2
  clear hel hR2
  have hLw := Lib.hid (hL.below hB2 hL.size)
  obtain ⟨ln, hln⟩ : ∃ ln, (enc2 d n).length = ln := ⟨_, rfl⟩
  rw [hln] at hl2 ⊢
  have HLN := Lib.hid hln
  clear hln
  go_wp2
  go_region_held3 (fun w' => w'.cell? ⟨w.heap.size, 0, none⟩ = some (.int .i64 a) ∧ w'.cell? ⟨w.heap.size, 1, none⟩ = some (.int .i64 b) ∧ w'.cell? ⟨w.heap.size, 2, none⟩ = some (.int .i64 c))
    (first
      | (go_keep; done)
      | exact ⟨(hk3 ⟨w.heap.size, 0, none⟩ hs2).trans p0, (hk3 ⟨w.heap.size, 1, none⟩ hs2).trans p1, (hk3 ⟨w.heap.size, 2, none⟩ hs2).trans p2⟩)
    ((go_at_call 30; (refine (ghash_any K tagS A2 ln c2 (enc2 d n) _ (by decide) (by have h := HLN.out; subst h; exact HR2.out.drew) (enc2_bytes d n) (by have h1 := HLN.out; have h2 := HEL.out; omega) hl2 hc2 hLw.out.drew).mono ?_); rintro e w3 ⟨rfl, hb3⟩; have hk3 := bel_keep hb3))
  have hB3 := hB2.trans (Below.mono ⟨hb3.os, hb3.tape, hb3.output, hb3.size, hb3.block⟩ hB2.size)
  go_wp2
  go_ret2
  exact ⟨rfl, hB3⟩
theorem on_silent (a b c d n : Int) (w : World) (hr : Du.right a b c = false) :
    Calls Tryd.prog 22 #[silV a b c, .int .i64 d, .int .i64 n] w fun e w' => e = .returned (.tuple #[.nilIface, .int .i64 470]) ∧ Below w.heap.size w w' := by
  have HR := Lib.hid hr
  have hra := right_any a b c
  clear hr
  unfold silV at hra ⊢
  go_enter Tryd.func22, Tryd.ntmps22
  go_wp2_with fail
  refine (hra _).mono ?_
  rintro e w1 ⟨he, hb1⟩
  rw [HR.out] at he
  subst he
  have hB1 := ((Below.refl w.heap.size w).alloc (Nat.le_refl _) _).trans (hb1.mono (by simp))
  clear hb1 hra
  go_wp2
  go_ret2
  exact ⟨rfl, hB1⟩
theorem on_arg (a b c d n : Int) (w : World) (hr : Du.right a b c = true) (hp : Du.poss d n = false) :
    Calls Tryd.prog 22 #[silV a b c, .int .i64 d, .int .i64 n] w fun e w' => e = .returned (.tuple #[.nilIface, .int .i64 1]) ∧ Below w.heap.size w w' := by
  have HR := Lib.hid hr
  have HP := Lib.hid hp
  have hra := right_any a b c
  clear hr hp
  unfold silV at hra ⊢
  go_enter Tryd.func22, Tryd.ntmps22
  go_wp2_with fail
  refine (hra _).mono ?_
  rintro e w1 ⟨he, hb1⟩
  rw [HR.out] at he
  subst he
  have hB1 := ((Below.refl w.heap.size w).alloc (Nat.le_refl _) _).trans (hb1.mono (by simp))
  clear hb1 hra
  go_wp2_with fail
  refine (possible_any _ _ _).mono ?_
  rintro e w' ⟨he, rfl⟩
  rw [HP.out] at he
  subst he
  go_wp2
  go_ret2
  exact ⟨rfl, hB1⟩
end Go.Proofs.YtllabahapaeedaaDoor
