/- The reference's codec: numerals. -/
import Derived.Test.YtllabahapaeedaaDoorRefCodec
import Derived.Deep.AppendLies
namespace Go.Proofs.YtllabahapaeedaaDoor
open Go.RowKit
set_option linter.unusedVariables false
/-- a byte of a numeral that goes on -/
theorem or128 (u : Nat) : bits .or .u8 (IntKind.u8.wrap (u : Int)) 128 = ((u % 128 + 128 : Nat) : Int) := by
  have h : ∀ x : Fin 256, bits .or .u8 ((x.val : Nat) : Int) 128 = ((x.val % 128 + 128 : Nat) : Int) := by decide +kernel
  have e : IntKind.u8.wrap (u : Int) = ((u % 256 : Nat) : Int) := by
    rw [show IntKind.u8.wrap (u : Int) = (u : Int) % 256 by simp [IntKind.wrap, IntKind.bits, IntKind.signed]]; omega
  rw [e, h ⟨u % 256, Nat.mod_lt _ (by decide)⟩]
  show (((u % 256) % 128 + 128 : Nat) : Int) = _
  omega
/-- a row of bytes of one's own comes back -/
def OwnPost (bs : List Int) (w : World) (e : Ending) (w' : World) : Prop :=
  ∃ g cap, e = .returned (.slice (some ⟨g, 0, none⟩) bs.length cap) ∧ w'.ownsRow w.heap.size 5 1 (.slice (some ⟨g, 0, none⟩) bs.length cap) bs.length (bs.map (Value.int .u8)) ∧ Below w.heap.size w w'
theorem ret_own1 {x y : Int} (w : World) (h : x = y) : OwnPost [y] w (.returned (.slice (some ⟨w.heap.size, 0, none⟩) 1 1)) (w.alloc (.cells #[.int .u8 x] 5)) :=
  ⟨w.heap.size, 1, rfl, h ▸ World.ownsRow_lit w #[.int .u8 x] 1 (Nat.le_refl _) (by decide) rfl, (Below.refl _ _).alloc (Nat.le_refl _) _⟩
theorem numL_pos (u : Nat) : 0 < (Cd.numL u).length := by
  by_cases h : u < 128
  · rw [Cd.numL_small h]; simp
  · rw [Cd.numL_big h]; simp
set_option maxRecDepth 100000 in
set_option maxHeartbeats 1000000 in
theorem rnum_small (u : Nat) (h : u < 128) (w : World) : Calls Tryd.prog 55 #[.int .u64 u] w (OwnPost (Cd.numL u) w) := by
  rw [Cd.numL_small h]
  have h1 : (u : Int) < 128 := by omega
  go_enter Tryd.func55, Tryd.ntmps55
  go_wp2
  go_ret
  exact ret_own1 w (by first | rfl | omega)
set_option maxRecDepth 100000 in
set_option maxHeartbeats 1000000 in
theorem rnum_big (u q r x : Int) (h1 : 128 ≤ u) (h2 : u < 18446744073709551616) (hq : u / 128 = q) (hr : u % 128 = r) (r0 : 0 ≤ r) (r1 : r < 128) (hx : r + 128 = x) (L : List Int) (hLp : 0 < L.length) (hLl : L.length ≤ 10) (ih : ∀ w, Calls Tryd.prog 55 #[.int .u64 q] w (OwnPost L w)) (w : World) :
    Calls Tryd.prog 55 #[.int .u64 u] w (OwnPost (x :: L) w) := by
  obtain ⟨i0, hi, hz0, hz1, hz2⟩ := info_parts infoU8c
  have hown := World.ownsRow_lit (e := 5) (size := 1) (base := w.heap.size) w #[.int .u8 x] 1 (Nat.le_refl _) (by decide) rfl
  have hB := (Below.refl w.heap.size w).alloc (Nat.le_refl _) (.cells #[.int .u8 x] 5)
  have HO := Lib.hid (And.intro hown hB)
  obtain ⟨P, hP⟩ : ∃ P, OwnPost (x :: L) w = P := ⟨_, rfl⟩
  rw [hP]
  have HP := Lib.hid hP
  clear hown hB hP
  go_enter Tryd.func55, Tryd.ntmps55
  go_wp2_with fail
  refine (ih _).mono ?_
  rintro e w2 ⟨g, cap, rfl, ho, hb⟩
  obtain ⟨hown, hB⟩ := HO.out
  have hown2 := own_below hown hb
  have hB2 := hB.trans (hb.mono (by simp))
  have hsz : w.heap.size ≤ w2.heap.size := hB2.size
  have hc : ∀ j u, (L.map (Value.int .u8))[j]? = some u → w2.cell? ((⟨g, 0, none⟩ : Addr).add j) = some u := fun j u hj => by
    have hlt : j < L.length := by have := (List.getElem?_eq_some_iff.1 hj).1; simpa using this
    rw [show (⟨g, 0, none⟩ : Addr).add j = ⟨g, j, none⟩ by (simp [Addr.add]; exact fun h => h.symm), ho.cellAt j (by omega), hj]
  obtain ⟨m, hm⟩ : ∃ m, L.length = m := ⟨_, rfl⟩
  have hNL : (L.map (Value.int .u8)).length = m := by rw [List.length_map, hm]
  rw [hm] at hLp hLl ⊢
  have HM := Lib.hid hm
  clear hb ho hown hm
  go_wp2_with (at_builtin; refine wpList_append_lies _ rfl (.tmp 12) (.tmp 15) 53 rfl w.heap.size 5 i0 (.int .u8 0) 1 1 Tryd.underlying53 hi hz0 hz1 hz2 rfl (by decide) _ 1 _ (by rfl) hown2 ⟨g, 0, none⟩ m cap (L.map (Value.int .u8)) (by rfl) (by omega) hc (fun u hu => by obtain ⟨y, _, rfl⟩ := List.mem_map.1 hu; rfl) hLp (by unfold maxLen; omega) (by omega) hsz _ rfl ?_; intro g3 cap3 w3 ho3 hg3 hl3 hlt3)
  have hB3 := hB2.grown hg3 hB2.size (fun k e => by have e' : some w.heap.size = some k := e; injection e' with e'; omega)
  go_wp2
  have h9 := HP.out
  have h8 := HM.out
  subst h9
  subst h8
  refine ⟨g3, cap3, by rw [List.length_cons, Nat.add_comm L.length 1]; rfl, ?_, hB3⟩
  rw [List.length_cons, Nat.add_comm L.length 1]
  exact ho3
/-- the reference's numeral -/
theorem rnumeral_any : ∀ (k u : Nat), k ≤ 9 → u < 128 ^ (k + 1) → u < 18446744073709551616 → ∀ w, Calls Tryd.prog 55 #[.int .u64 u] w (OwnPost (Cd.numL u) w)
  | 0, u, _, h, _, w => rnum_small u (by simpa using h) w
  | k + 1, u, hk, h, h2, w => by
    by_cases h0 : u < 128
    · exact rnum_small u h0 w
    · have hd : u / 128 < 128 ^ (k + 1) := by
        rw [Nat.div_lt_iff_lt_mul (by decide), ← Nat.pow_succ]; exact h
      have ih := rnumeral_any k (u / 128) (by omega) hd (by omega)
      rw [Cd.numL_big h0, or128 u]
      exact rnum_big u ((u / 128 : Nat) : Int) ((u % 128 : Nat) : Int) ((u % 128 + 128 : Nat) : Int) (by omega) (by omega) (by omega) (by omega) (by omega) (by omega) (by omega) (Cd.numL (u / 128)) (numL_pos _)
        (by have := Cd.numL_len k (u / 128) hd; omega) ih w
end Go.Proofs.YtllabahapaeedaaDoor
