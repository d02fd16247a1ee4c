/- Package codec: Encode, at lists of numbers and texts. -/
import Derived.Test.YtpjggokaolnbcaaDoorLCodec3
namespace Go.Proofs.YtpjggokaolnbcaaDoor
open Go.RowKit
set_option linter.unusedVariables false
def EncPost (bs : List Int) (w : World) (e : Ending) (w' : World) : Prop :=
  ∃ (A : Option Addr) (c : Nat), e = .returned (.tuple #[.slice A bs.length c, .int .i64 0]) ∧ Rd w' w'.heap.size 1 A bs.length (bs.map (Value.int .u8)) ∧ bs.length ≤ c ∧ c ≤ maxLen ∧ Below w.heap.size w w'
theorem own_slice2 {w : World} {base : Nat} {e : TypeId} {v : Value} {size n : Nat} {xs : List Value} (h : w.ownsRow base e size v n xs) : ∃ A c, v = .slice A n c ∧ Rd w w.heap.size size A n xs ∧ n ≤ c ∧ c ≤ maxLen := by
  have h0 := h
  rcases h.2 with ⟨rfl, rfl⟩ | ⟨g, cap, cur, rfl, _, _, h1, h2, _⟩
  · exact ⟨_, _, rfl, ⟨h0.1, fun h => absurd h (by omega)⟩, Nat.le_refl _, Nat.zero_le _⟩
  · exact ⟨_, _, rfl, Rd.of_own h0, h1, h2⟩
theorem w3_encEls (base g c gw n : Nat) (l : List El) (w : World) (hl : l.length = n) (hp : 0 < n) (hn : n ≤ 20) (hok : ∀ x ∈ l, x.ok) (hbase : base ≤ w.heap.size) (hgw : gw + 1 < base)
    (hr : Rd w base 4 (some ⟨g, 0, none⟩) n (elsCells l)) (hnc : n ≤ c) (hW : Wr w gw) :
    Calls Tryd.prog 50 #[.slice none 0 0, listV (some ⟨g, 0, none⟩) n c, .pointer (some ⟨gw + 1, 0, none⟩)] w (NumPost base w (.slice none 0 0) 0 [] (encEls l)) := by
  have h := w3_list base g c gw n l w hl hp hn hok hbase hgw hr hnc hW
  unfold nilV at h
  unfold encEls
  rw [hl]
  exact h
set_option maxRecDepth 100000 in
set_option maxHeartbeats 2000000 in
theorem encode_list (g c n : Nat) (l : List El) (w : World) (hl : l.length = n) (hp : 0 < n) (hn : n ≤ 20) (hok : ∀ x ∈ l, x.ok)
    (hr : Rd w w.heap.size 4 (some ⟨g, 0, none⟩) n (elsCells l)) (hnc : n ≤ c) :
    Calls Tryd.prog 26 #[listV (some ⟨g, 0, none⟩) n c] w (EncPost (encEls l) w) := by
  have HR := Lib.hid hr
  have hR := Lib.hid ((hr.alloc (Nat.le_refl _) (.cells #[.int .i64 3, .int .i64 0, .string ⟨#[]⟩, .slice (some ⟨g, 0, none⟩) n c] 52)).more (B' := w.heap.size + 1) (by omega))
  clear hr
  have hc3 := check_list g c n l
  have hg := rd_lt HR.out hp
  have HL := Lib.hid hl
  have HK := Lib.hid hok
  clear hl hok
  have hw3 := fun base g c gw w h1 h2 h3 h4 h5 => w3_encEls base g c gw n l w HL.out hp hn HK.out h1 h2 h3 h4 h5
  obtain ⟨E, hE⟩ : ∃ E, encEls l = E := ⟨_, rfl⟩
  rw [hE] at hw3 ⊢
  have HE := Lib.hid hE
  have HC3 := Lib.hid hw3
  clear hE hw3
  unfold listV at hc3 ⊢
  go_enter Tryd.func26, Tryd.ntmps26
  go_wp2_with fail
  refine (hc3 _ HL.out hp (by omega) (by rw [World.size_alloc]; exact hR.out) hnc).mono ?_
  rintro e w1 ⟨rfl, hb1⟩
  have hB1 := ((Below.refl w.heap.size w).alloc (Nat.le_refl _) _).trans (hb1.mono (by simp))
  have b0 : w1.cell? ⟨w.heap.size, 0, none⟩ = some (.int .i64 3) := (hb1.cell (p := ⟨w.heap.size, 0, none⟩) (by simp)).trans (alloc_cell0 w _ _ _)
  have b1 : w1.cell? ⟨w.heap.size, 1, none⟩ = some (.int .i64 0) := (hb1.cell (p := ⟨w.heap.size, 1, none⟩) (by simp)).trans (alloc_cell1 w _ _ _ _)
  have b2 : w1.cell? ⟨w.heap.size, 2, none⟩ = some (.string ⟨#[]⟩) := (hb1.cell (p := ⟨w.heap.size, 2, none⟩) (by simp)).trans (by rw [cell_of_row _ w.heap.size 2 _ _ _ (heap_alloc_new w _)]; rfl)
  have b3 : w1.cell? ⟨w.heap.size, 3, none⟩ = some (.slice (some ⟨g, 0, none⟩) n c) := (hb1.cell (p := ⟨w.heap.size, 3, none⟩) (by simp)).trans (by rw [cell_of_row _ w.heap.size 3 _ _ _ (heap_alloc_new w _)]; rfl)
  have hs1 : w.heap.size < w1.heap.size := by have := hb1.size; simp at this; omega
  clear hb1 hc3
  go_wp2
  go_region_with ((first | (go_at_call 36; (refine (writer_any _).mono ?_); rintro e w2 ⟨rfl, hW, hb2, hsz2⟩; have c3 : w2.cell? ⟨w1.heap.size, 3, none⟩ = some (.func (.func 50) #[] #[.pointer (some ⟨w1.heap.size + 1, 0, none⟩)]) := hW.c3; have d0 := (hb2.cell (p := ⟨w.heap.size, 0, none⟩) hs1).trans b0; have d1 := (hb2.cell (p := ⟨w.heap.size, 1, none⟩) hs1).trans b1; have d2 := (hb2.cell (p := ⟨w.heap.size, 2, none⟩) hs1).trans b2; have d3 := (hb2.cell (p := ⟨w.heap.size, 3, none⟩) hs1).trans b3; have hs2 : w.heap.size < w2.heap.size := (by have := hb2.size; simp at this; omega)) | (go_at_call 50; (refine (HC3.out w2.heap.size g c w1.heap.size w2 (Nat.le_refl _) (by simp at hsz2; omega) (((HR.out.below hB1).below (w' := w2) ⟨hb2.os, hb2.tape, hb2.output, hb2.size, fun k hk => hb2.block k (Nat.lt_of_lt_of_le hk hB1.size)⟩).more (by omega)) hnc hW).mono ?_); rintro e w3 ⟨v3, rfl, hG⟩)))
  all_goals
    obtain ⟨A, cc, rfl, hRr, hl, hm⟩ := own_slice2 hG.own
    have hbw : Below w.heap.size w1 w2 := ⟨hb2.os, hb2.tape, hb2.output, hb2.size, fun k hk => hb2.block k (Nat.lt_of_lt_of_le hk hB1.size)⟩
    have hfin := (hB1.trans hbw).grown hG.grow (by omega) (fun k h => by cases h)
    rw [Nat.zero_add, List.nil_append] at hRr
    rw [Nat.zero_add] at hl
    go_wp2
    go_ret2
    exact ⟨A, cc, (show _ = Ending.returned (.tuple #[.slice A (0 + E.length) cc, .int .i64 0]) from rfl).trans (by rw [Nat.zero_add]), hRr, hl, hm, hfin⟩
end Go.Proofs.YtpjggokaolnbcaaDoor
