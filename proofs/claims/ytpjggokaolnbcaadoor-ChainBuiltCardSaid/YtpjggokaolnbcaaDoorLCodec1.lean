/- Package codec, lists of integers and texts: checks. -/
import Derived.Test.YtpjggokaolnbcaaDoorLUns
namespace Go.Proofs.YtpjggokaolnbcaaDoor
open Go.RowKit
set_option linter.unusedVariables false
/-- an element: a number, or a text -/
inductive El where
  | int (z : Int)
  | txt (s : ByteArray)
def txtV (s : ByteArray) : Value := .agg #[.int .i64 2, .int .i64 0, .string s, .slice none 0 0]
set_option maxRecDepth 100000 in
set_option maxHeartbeats 1000000 in
theorem formed_txt (s : ByteArray) (w : World) : Calls Tryd.prog 45 #[txtV s] w fun e w' => e = .returned (.tuple #[.int .i64 0, .bool true]) ∧ Below w.heap.size w w' := by
  unfold txtV
  go_enter Tryd.func45, Tryd.ntmps45
  go_wp2
  all_goals
    go_ret2
    exact ⟨rfl, ((Below.refl _ _).alloc (Nat.le_refl _) _).alloc (by simp) _⟩
namespace El
def cells : El → List Value
  | int z => [.int .i64 1, .int .i64 z, .string ⟨#[]⟩, .slice none 0 0]
  | txt s => [.int .i64 2, .int .i64 0, .string s, .slice none 0 0]
/-- what a list's encoding holds of it -/
def ok : El → Prop
  | int z => -9223372036854775808 ≤ z ∧ z < 9223372036854775808
  | txt s => s.size ≤ 2000
end El
def elsCells (l : List El) : List Value := l.flatMap El.cells
theorem flat_at {α : Type} (f : α → List Value) (s : Nat) (hs : ∀ x, (f x).length = s) : ∀ (l : List α) (k i : Nat) (x : α), l[k]? = some x → i < s → (l.flatMap f)[k * s + i]? = (f x)[i]?
  | [], k, i, x, h, _ => by simp at h
  | a :: l, 0, i, x, h, hi => by
    simp at h
    subst h
    rw [List.flatMap_cons, List.getElem?_append_left (by rw [hs]; omega), Nat.zero_mul, Nat.zero_add]
  | a :: l, k + 1, i, x, h, hi => by
    simp at h
    rw [List.flatMap_cons, List.getElem?_append_right (by rw [hs, Nat.succ_mul]; omega), hs, show (k + 1) * s + i - s = k * s + i by rw [Nat.succ_mul]; omega]
    exact flat_at f s hs l k i x h hi
theorem El.cells_length (x : El) : x.cells.length = 4 := by cases x <;> rfl
/-- the cells of element k -/
theorem el_at {w : World} {B g n : Nat} {l : List El} (hr : Rd w B 4 (some ⟨g, 0, none⟩) n (elsCells l)) {k : Nat} {x : El} (hx : l[k]? = some x) {i : Nat} {v : Value} (hv : x.cells[i]? = some v) : w.cell? ⟨g, k * 4 + i, none⟩ = some v := by
  have hi : i < 4 := by have := (List.getElem?_eq_some_iff.1 hv).1; rwa [El.cells_length] at this
  have hn : 0 < n := by
    rcases Nat.eq_zero_or_pos n with h0 | h0
    · have h1 := hr.1
      rw [h0, Nat.zero_mul] at h1
      have h2 := flat_at El.cells 4 El.cells_length l k i x hx hi
      rw [show l.flatMap El.cells = [] from List.eq_nil_of_length_eq_zero h1, hv] at h2
      simp at h2
    · exact h0
  obtain ⟨b, o, e, _, hc⟩ := hr.2 hn
  injection e with e
  injection e with e1 e2
  subst e1; subst e2
  have := hc (k * 4 + i) v (by rw [elsCells, flat_at El.cells 4 El.cells_length l k i x hx hi, hv])
  rwa [Nat.zero_add] at this
theorem rd_lt {w : World} {B s g o n : Nat} {xs : List Value} (hr : Rd w B s (some ⟨g, o, none⟩) n xs) (hn : 0 < n) : g < B := by
  obtain ⟨b, o, e, hb, _⟩ := hr.2 hn
  injection e with e
  injection e with e1 e2
  subst e1; exact hb
set_option maxRecDepth 100000 in
set_option maxHeartbeats 2000000 in
theorem formed_list (g c n : Nat) (l : List El) (w : World) (hl : l.length = n) (hp : 0 < n) (hn : n ≤ 1000) (hr : Rd w w.heap.size 4 (some ⟨g, 0, none⟩) n (elsCells l)) (hnc : n ≤ c) :
    Calls Tryd.prog 45 #[listV (some ⟨g, 0, none⟩) n c] w fun e w' => e = .returned (.tuple #[.int .i64 1, .bool true]) ∧ Below w.heap.size w w' := by
  have hz : (((n : Int) == 0) : Bool) = false := by simp; omega
  have hB := ((Below.refl w.heap.size w).alloc (Nat.le_refl _) (.cells #[.int .i64 3, .int .i64 0, .string ⟨#[]⟩, .slice (some ⟨g, 0, none⟩) n c] 52)).alloc (by simp) (.cells #[.bool false, .bool false, .bool false, .bool true] 91)
  have hg := rd_lt hr hp
  have HL := Lib.hid hl
  have HR := Lib.hid hr
  clear hl hr
  unfold listV
  have hfi := formed_int
  have hft := formed_txt
  unfold intV at hfi
  unfold txtV at hft
  go_enter Tryd.func45, Tryd.ntmps45
  go_wp2
  go_loopw [2, 57] (fun d i wr => ∃ k : Nat, k ≤ n ∧ i = .int .i64 k ∧ d = .int .i64 0 ∧ Below w.heap.size w wr) (fun _ i _ => n - (intOf i).toNat)
  case atStart => exact ⟨0, by omega, rfl, rfl, hB⟩
  case round =>
    clear hB
    obtain ⟨k, hk, rfl, rfl, hB⟩ := hrel
    by_cases hlt : k < n
    · have k1 : (k : Int) < n := by omega
      have hRr := HR.out.below hB
      obtain ⟨x, hx⟩ : ∃ x, l[k]? = some x := ⟨_, List.getElem?_eq_getElem (by rw [HL.out]; exact hlt)⟩
      cases x with
      | int z =>
        have p0 : wr.cell? ⟨g, k * 4, none⟩ = some (.int .i64 1) := el_at hRr hx (i := 0) rfl
        have p1 : wr.cell? ⟨g, k * 4 + 1, none⟩ = some (.int .i64 z) := el_at hRr hx (i := 1) rfl
        have p2 : wr.cell? ⟨g, k * 4 + 2, none⟩ = some (.string ⟨#[]⟩) := el_at hRr hx (i := 2) rfl
        have p3 : wr.cell? ⟨g, k * 4 + 3, none⟩ = some (.slice none 0 0) := el_at hRr hx (i := 3) rfl
        clear hRr hx
        go_wp2_with (go_at_call 45; (with_reducible refine (hfi _ _).mono ?_); rintro e w2 ⟨rfl, hb2⟩)
        go_roundw
        case rel => exact ⟨k + 1, by omega, by go_num, rfl, (hB.alloc hB.size _).trans (hb2.mono (by have := hB.size; simp; omega))⟩
        case measure => simp [intOf]; omega
      | txt s =>
        have p0 : wr.cell? ⟨g, k * 4, none⟩ = some (.int .i64 2) := el_at hRr hx (i := 0) rfl
        have p1 : wr.cell? ⟨g, k * 4 + 1, none⟩ = some (.int .i64 0) := el_at hRr hx (i := 1) rfl
        have p2 : wr.cell? ⟨g, k * 4 + 2, none⟩ = some (.string s) := el_at hRr hx (i := 2) rfl
        have p3 : wr.cell? ⟨g, k * 4 + 3, none⟩ = some (.slice none 0 0) := el_at hRr hx (i := 3) rfl
        clear hRr hx
        go_wp2_with (go_at_call 45; (with_reducible refine (hft _ _).mono ?_); rintro e w2 ⟨rfl, hb2⟩)
        go_roundw
        case rel => exact ⟨k + 1, by omega, by go_num, rfl, (hB.alloc hB.size _).trans (hb2.mono (by have := hB.size; simp; omega))⟩
        case measure => simp [intOf]; omega
    · have k9 : (n : Int) ≤ k := by omega
      go_wp2
      go_ret2
      exact ⟨rfl, hB⟩
theorem check_list (g c n : Nat) (l : List El) (w : World) (hl : l.length = n) (hp : 0 < n) (hn : n ≤ 1000) (hr : Rd w w.heap.size 4 (some ⟨g, 0, none⟩) n (elsCells l)) (hnc : n ≤ c) :
    Calls Tryd.prog 35 #[listV (some ⟨g, 0, none⟩) n c] w fun e w' => e = .returned (.int .i64 0) ∧ Below w.heap.size w w' := by
  have hR := Lib.hid ((hr.alloc (Nat.le_refl _) (.cells #[.int .i64 3, .int .i64 0, .string ⟨#[]⟩, .slice (some ⟨g, 0, none⟩) n c] 52)).more (B' := w.heap.size + 1) (by omega))
  have hf := formed_list g c n l
  have HL := Lib.hid hl
  clear hr hl
  unfold listV at hf ⊢
  go_enter Tryd.func35, Tryd.ntmps35
  go_wp2_with fail
  refine (hf _ HL.out hp hn (by rw [World.size_alloc]; exact hR.out) hnc).mono ?_
  rintro e w1 ⟨rfl, hb1⟩
  have hB1 := ((Below.refl w.heap.size w).alloc (Nat.le_refl _) _).trans (hb1.mono (by simp))
  clear hb1 hf
  go_wp2
  go_ret
  exact ⟨rfl, hB1⟩
end Go.Proofs.YtpjggokaolnbcaaDoor
