/- Links in memory; the values that a link's text is made of. -/
import Derived.Test.YtpjggokaolnbcaaDoorLCodec4
import Derived.Laws.BytesString
namespace Go.Proofs.YtpjggokaolnbcaaDoor
open Go.RowKit
set_option linter.unusedVariables false
/-- bytes as a string -/
def toBA (l : List Int) : ByteArray := l.foldl (fun r n => r.push (UInt8.ofNat n.toNat)) ByteArray.empty
theorem push_list : ∀ (l : List Int) (s : ByteArray), (l.foldl (fun r n => r.push (UInt8.ofNat n.toNat)) s).data.toList = s.data.toList ++ l.map fun n => UInt8.ofNat n.toNat
  | [], s => by simp
  | a :: l, s => by
    rw [List.foldl_cons, push_list l]
    simp [ByteArray.push]
theorem strInts_toBA {l : List Int} (h : ∀ x ∈ l, 0 ≤ x ∧ x < 256) : strInts (toBA l) = l := by
  unfold strInts toBA
  rw [push_list]
  simp only [ByteArray.empty, ByteArray.emptyWithCapacity, List.map_append, List.map_map]
  show ([] : List Int) ++ _ = l
  rw [List.nil_append]
  conv => rhs; rw [← List.map_id l]
  apply List.map_congr_left
  intro x hx
  obtain ⟨h1, h2⟩ := h x hx
  simp [Function.comp]
  omega
theorem toBA_size (l : List Int) : (toBA l).size = l.length := by
  show (toBA l).data.size = _
  rw [← Array.length_toList, toBA, push_list]
  simp [ByteArray.empty, ByteArray.emptyWithCapacity]
  rfl
theorem conv_text {P : Program} (w : World) (src dst e : TypeId) (hs : P.underlying src = some (.slice e)) (he : P.underlying e = some (.int .u8)) (hd : P.underlying dst = some .string)
    {B n c : Nat} {A : Option Addr} {l : List Int} (hr : Rd w B 1 A n (l.map (Value.int .u8))) : (convert src dst (.slice A n c)).run P w = .ok (.string (toBA l)) w := by
  rw [run_convert_bytes_string w src dst e A n c hs he hd]
  have hl : l.length = n := by simpa using hr.1
  rcases A with _ | a
  · have h0 : n = 0 := by
      rcases Nat.eq_zero_or_pos n with h0 | h0
      · exact h0
      · obtain ⟨b, o, h, _⟩ := hr.2 h0
        cases h
    have : l = [] := List.eq_nil_of_length_eq_zero (by omega)
    subst this
    rfl
  · have hc : ∀ j u, (l.map (Value.int .u8))[j]? = some u → w.cell? (a.add j) = some u := by
      intro j u hu
      have hj : j < n := by have := (List.getElem?_eq_some_iff.1 hu).1; simpa [hl] using this
      obtain ⟨b, o, h, _, hcc⟩ := hr.2 (by omega)
      injection h with h
      subst h
      rw [Addr.add_flat]
      exact hcc j u hu
    have h := run_loadCells_list (P := P) w a (l.map (Value.int .u8)) hc
    rw [List.length_map, hl] at h
    exact run_bytesToString w a n c l h
set_option maxRecDepth 100000 in
set_option maxHeartbeats 1000000 in
theorem number_any (n : Int) (w : World) : Calls Tryd.prog 28 #[.int .i64 n] w fun e w' => e = .returned (intV n) ∧ Below w.heap.size w w' := by
  unfold intV
  go_enter Tryd.func28, Tryd.ntmps28
  go_wp2
  refine bodyPost_ret (results_cell_row (p := 2) rfl _ _ w.heap.size 52 _ (0, 0) _ (by rfl) (heap_alloc_new w _) Tryd.underlying52 (by rfl) (by kernel_rfl)) rfl ?_
  exact ⟨rfl, (Below.refl _ _).alloc (Nat.le_refl _) _⟩
set_option maxRecDepth 100000 in
set_option maxHeartbeats 1000000 in
theorem clist_any (A : Option Addr) (n c : Nat) (w : World) : Calls Tryd.prog 27 #[.slice A n c] w fun e w' => e = .returned (listV A n c) ∧ Below w.heap.size w w' := by
  unfold listV
  go_enter Tryd.func27, Tryd.ntmps27
  go_wp2
  refine bodyPost_ret (results_cell_row (p := 2) rfl _ _ w.heap.size 52 _ (0, 0) _ (by rfl) (heap_alloc_new w _) Tryd.underlying52 (by rfl) (by kernel_rfl)) rfl ?_
  exact ⟨rfl, (Below.refl _ _).alloc (Nat.le_refl _) _⟩
set_option maxRecDepth 100000 in
set_option maxHeartbeats 1000000 in
theorem text_any (A : Option Addr) (n c : Nat) (l : List Int) (w : World) (hr : Rd w w.heap.size 1 A n (l.map (Value.int .u8))) :
    Calls Tryd.prog 29 #[.slice A n c] w fun e w' => e = .returned (txtV (toBA l)) ∧ Below w.heap.size w w' := by
  have hcv := conv_text (P := Tryd.prog) (c := c) (w.alloc (.cells #[.int .i64 0, .int .i64 0, .string ⟨#[]⟩, .slice none 0 0] 52)) 23 9 5 Tryd.underlying23 Tryd.underlying5 Tryd.underlying9 (hr.alloc (Nat.le_refl _) _)
  obtain ⟨S, hS⟩ : ∃ S, toBA l = S := ⟨_, rfl⟩
  rw [hS] at hcv ⊢
  clear hS hr
  unfold txtV
  go_enter Tryd.func29, Tryd.ntmps29
  go_wp2
  refine bodyPost_ret (results_cell_row (p := 2) rfl _ _ w.heap.size 52 _ (0, 0) _ (by rfl) (heap_alloc_new w _) Tryd.underlying52 (by rfl) (by kernel_rfl)) rfl ?_
  exact ⟨rfl, (Below.refl _ _).alloc (Nat.le_refl _) _⟩
/-- a link, and where its data lie -/
structure LkV where
  node : Int
  no : Int
  prev : List Int
  data : List Int
  A : Option Addr
  c : Nat
namespace LkV
def cells (x : LkV) : List Value := [.int .i64 x.node, .int .i64 x.no] ++ x.prev.map (Value.int .u8) ++ [.slice x.A x.data.length x.c]
structure ok (w : World) (B : Nat) (x : LkV) : Prop where
  plen : x.prev.length = 32
  pbyt : ∀ b ∈ x.prev, 0 ≤ b ∧ b < 256
  dbyt : ∀ b ∈ x.data, 0 ≤ b ∧ b < 256
  rd : Rd w B 1 x.A x.data.length (x.data.map (Value.int .u8))
  cap : x.data.length ≤ x.c
  room : x.c ≤ maxLen
theorem ok.below {w w' : World} {B : Nat} {x : LkV} (h : x.ok w B) (hb : Below B w w') : x.ok w' B := ⟨h.plen, h.pbyt, h.dbyt, h.rd.below hb, h.cap, h.room⟩
theorem ok.more {w : World} {B B' : Nat} {x : LkV} (h : x.ok w B) (hB : B ≤ B') : x.ok w B' := ⟨h.plen, h.pbyt, h.dbyt, h.rd.more hB, h.cap, h.room⟩
theorem cells_length {w : World} {B : Nat} {x : LkV} (h : x.ok w B) : x.cells.length = 35 := by simp [cells, h.plen]
end LkV
end Go.Proofs.YtpjggokaolnbcaaDoor
