/- Plain facts for sane. -/
import Derived.Test.YtpjggokaolnbcaaDoorLAddLaw
import Derived.Test.YtpjggokaolnbcaaDoorLAdd
import Derived.Test.YtpjggokaolnbcaaDoorLAddNo
import Derived.Lib.SlBytesConst
namespace Go.Proofs.YtpjggokaolnbcaaDoor
open Go.RowKit
set_option linter.unusedVariables false
namespace Ch
structure l0 (K : Sh.Cst) (x : LkV) : Prop where
  nd : x.node = 3
  no : x.no = 0
  pv : x.prev = head K []
  dt : x.data = [120]
structure l1 (K : Sh.Cst) (x0 : LkV) (b : Int) (x : LkV) : Prop where
  nd : x.node = 3
  no : x.no = 1
  pv : x.prev = head K [x0]
  dt : x.data = [b]
theorem l0.fit {K : Sh.Cst} {x : LkV} (h : l0 K x) : fit x := ⟨by rw [h.nd]; omega, by rw [h.no]; omega, by rw [h.dt]; simp⟩
theorem l1.fit {K : Sh.Cst} {x0 x : LkV} {b : Int} (h : l1 K x0 b x) : Ch.fit x := ⟨by rw [h.nd]; omega, by rw [h.no]; omega, by rw [h.dt]; simp⟩
theorem l0.all {K : Sh.Cst} {x : LkV} (h : l0 K x) : allB K [x] = true :=
  allB_snoc (L := []) (allB_nil K) (fun h => absurd h (by simp)) (by rw [h.nd]; omega) (by rw [h.no]; rfl) (by rw [h.dt]; simp) h.pv
theorem l1.all {K : Sh.Cst} {x0 x : LkV} {b : Int} (h0 : l0 K x0) (h : l1 K x0 b x) : allB K [x0, x] = true :=
  allB_snoc (L := [x0]) h0.all (fun _ => by rw [h.nd]; exact h0.nd) (by rw [h.nd]; omega) (by rw [h.no]; rfl) (by rw [h.dt]; simp) h.pv
theorem part_two {K : Sh.Cst} {x0 x1 x2 : LkV} (h0 : l0 K x0) (h1 : l1 K x0 121 x1) (h2 : l1 K x0 122 x2) : part K [x0, x1] [x0, x2] = (1, true, 0) := by
  have e : differ [x0, x1] [x0, x2] = some 1 := by
    have s0 : sameV x0 x0 = true := by unfold sameV; simp
    have s1 : sameV x1 x2 = false := by unfold sameV; rw [h1.dt, h2.dt]; simp
    unfold differ firstTo
    show List.find? _ (List.range 2) = _
    rw [show List.range 2 = [0, 1] from rfl]
    show List.find? _ [0, 1] = _
    rw [List.find?_cons, List.find?_cons]
    show (match !sameV x0 x0 with | true => _ | false => match !sameV x1 x2 with | true => _ | false => _) = _
    rw [s0, s1]; rfl
  unfold part
  rw [if_pos ⟨h1.all h0, h2.all h0, by unfold apart; simp [gk]⟩, e]; rfl
theorem part_one {K : Sh.Cst} {x0 x1 : LkV} (h0 : l0 K x0) (h1 : l1 K x0 121 x1) : part K [x0] [x0, x1] = (0, false, 0) := by
  have e : differ [x0] [x0, x1] = none := by
    have s0 : sameV x0 x0 = true := by unfold sameV; simp
    unfold differ firstTo
    show List.find? _ (List.range 1) = _
    rw [show List.range 1 = [0] from rfl]
    rw [List.find?_cons]
    show (match !sameV x0 x0 with | true => _ | false => _) = _
    rw [s0]; rfl
  unfold part
  rw [if_pos ⟨h0.all, h1.all h0, by unfold apart; simp [gk]⟩, e]; rfl
theorem part_nil {K : Sh.Cst} {x0 : LkV} (h0 : l0 K x0) : part K [] [x0] = (0, false, 0) := by
  have e : differ [] [x0] = none := rfl
  unfold part
  rw [if_pos ⟨allB_nil K, h0.all, by unfold apart; simp⟩, e]; rfl
end Ch
theorem lks_nil (w : World) (B : Nat) (A : Option Addr) : Lks w B A 0 [] := ⟨rfl, (fun x hx => by cases hx), ⟨(Nat.zero_mul _).symm, fun h => absurd h (by omega)⟩⟩
theorem rd_nil (w : World) (B s : Nat) (A : Option Addr) : Rd w B s A 0 [] := ⟨(Nat.zero_mul s).symm, fun h => absurd h (by omega)⟩
/-- one byte that was just made -/
theorem rd_byte (w : World) (t : TypeId) (fr : Nat × Nat) (b : Int) : Rd (w.alloc (.cells #[.int .u8 b] t fr)) (w.alloc (.cells #[.int .u8 b] t fr)).heap.size 1 (some ⟨w.heap.size, 0, none⟩) 1 (([b] : List Int).map (Value.int .u8)) := by
  refine ⟨rfl, fun _ => ⟨w.heap.size, 0, rfl, by simp, fun j v hv => ?_⟩⟩
  rw [cell_of_row _ w.heap.size (0 + j) _ _ _ (heap_alloc_new w _), Nat.zero_add]
  simpa using hv
/-- Add with one new byte, behind what was made so far -/
theorem add_byte (K : Sh.Cst) (A : Option Addr) (n c : Nat) (L : List LkV) (b : Int) (t : TypeId) (fr : Nat × Nat) (W : World) (hL : Lks W W.heap.size A n L) (hn : n ≤ 1000) (hnc : n ≤ c) (hf : ∀ x ∈ L, Ch.fit x) (hLd : Laid W)
    (h1 : Ch.allB K L = true) (hnode : 0 < n → (Ch.gk L 0).node = 3) (hb : 0 ≤ b ∧ b < 256) :
    Calls Tryd.prog 10 #[.slice A n c, .int .i64 3, .slice (some ⟨W.heap.size, 0, none⟩) 1 1] (W.alloc (.cells #[.int .u8 b] t fr)) fun e w' => ∃ G C A' c', e = .returned (.tuple #[.slice G (n + 1) C, .int .i64 0]) ∧ n + 1 ≤ C ∧ C ≤ maxLen ∧ Lks w' w'.heap.size G (n + 1) (L ++ [⟨3, n, Ch.head K L, [b], A', c'⟩]) ∧ Below W.heap.size W w' := by
  have hB : Below W.heap.size W (W.alloc (.cells #[.int .u8 b] t fr)) := (Below.refl _ W).alloc (Nat.le_refl _) _
  refine (add_ok K A n c L 3 (some ⟨W.heap.size, 0, none⟩) 1 1 [b] _ ((hL.below hB).more hB.size) hn hnc hf (hLd.below hB hLd.size) h1 (by omega) (by omega) hnode (rd_byte W t fr b) (by intro x hx; simp at hx; subst hx; exact hb) (by omega)).mono ?_
  rintro e w' ⟨G, C, A', c', he, h1, h2, h3, h4⟩
  exact ⟨G, C, A', c', he, h1, h2, h3, hB.trans (h4.mono hB.size)⟩
theorem lks_rest {w : World} {B n : Nat} {b o : Nat} {x : LkV} {L : List LkV} (h : Lks w B (some ⟨b, o, none⟩) (n + 1) (x :: L)) : Lks w B (some ⟨b, o + 35, none⟩) n L := by
  refine ⟨by have := h.len; simpa using this, fun y hy => h.all y (by simp [hy]), ?_, fun hn => ?_⟩
  · have := h.rd.1
    rw [List.flatMap_cons, List.length_append, LkV.cells_length (h.all x (by simp))] at this
    omega
  · obtain ⟨b1, o1, e, hb, hc⟩ := h.rd.2 (by omega)
    injection e with e
    injection e with e1 e2
    subst e1 e2
    refine ⟨b, o + 35, rfl, hb, fun j v hv => ?_⟩
    have hl := LkV.cells_length (h.all x (by simp))
    have := hc (35 + j) v (by rw [List.flatMap_cons, List.getElem?_append_right (by omega), hl, Nat.add_sub_cancel_left]; exact hv)
    rwa [← Nat.add_assoc] at this
theorem wpList_want {P : Program} {ops : Array Oper} {rest : List Oper} {o : Oper} {a : Act} {w : World} {Q : Exit → Act → World → Prop} (hw : Region.wanted o (yielded ops a.tmps) = true)
    (h : ∀ K : Act → World → Prop, (∀ a w, wpList P ops Q rest a w → K a w) → o.wp P a w K Q) : wpList P ops Q (o :: rest) a w :=
  wpList_step fun K hK => by rw [if_pos hw]; exact h K hK
theorem wp_build_as {P : Program} {o : Oper} {a : Act} {w : World} {K : Act → World → Prop} {Q : Exit → Act → World → Prop} (t : TypeId) (parts : Array (Nat × Operand)) (ho : o.op = .build t parts) (l : List (Nat × Value))
    (hl : (parts.toList.map fun (x : Nat × Operand) => (x.1, a.eval x.2)) = l) (cells : Array Value) (hb : P.built t l = some cells) (h : K (a.put o.dst (.agg cells)) w) : o.wp P a w K Q := by
  have hl' : (parts.map fun (i, x) => (i, a.eval x)).toList = l := by rw [Array.toList_map]; exact hl
  refine wp_build t parts ho (by rw [hl', hb]; rfl) ?_
  rw [hl', hb]
  exact h
/-- a link of which only the number is said -/
def zeroL : LkV := ⟨0, 1, List.replicate 32 0, [], none, 0⟩
theorem zero_built : Tryd.prog.built 37 [(1, .int .i64 1)] = some zeroL.cells.toArray := by kernel_rfl
theorem zero_ok (w : World) (B : Nat) : zeroL.ok w B := by
  have h : ∀ b ∈ List.replicate 32 (0 : Int), 0 ≤ b ∧ b < 256 := by intro b hb; rw [List.eq_of_mem_replicate hb]; omega
  exact ⟨rfl, h, (fun b hb => by cases hb), rd_nil w B 1 none, Nat.le_refl _, Nat.zero_le _⟩
theorem lks_box (w : World) (x : LkV) (hx : ∀ W B, x.ok W B) (t : TypeId) : Lks (w.alloc (.cells x.cells.toArray t)) (w.alloc (.cells x.cells.toArray t)).heap.size (some ⟨w.heap.size, 0, none⟩) 1 [x] := by
  have hl := LkV.cells_length (hx w 0)
  refine ⟨rfl, fun y hy => ?_, ?_, fun _ => ⟨w.heap.size, 0, rfl, by simp, fun j v hv => ?_⟩⟩
  · rw [List.mem_singleton] at hy; subst hy; exact hx _ _
  · simpa using hl
  · rw [cell_of_row _ w.heap.size (0 + j) _ _ _ (heap_alloc_new w _), Nat.zero_add]
    simpa using hv
theorem rd32 {w : World} {g : Nat} {t : TypeId} {l : List Int} (h : Ints w g t .u8 l) (hl : l.length = 32) : Rd w w.heap.size 1 (some ⟨g, 0, none⟩) 32 (l.map (Value.int .u8)) := by
  have := h.rd 0 32 (by omega)
  rwa [List.drop_zero, List.take_of_length_le (by omega)] at this
theorem lks_cell {w : World} {B n b o k : Nat} {L : List LkV} {x : LkV} (h : Lks w B (some ⟨b, o, none⟩) n L) (hx : L[k]? = some x) : ∀ i v, x.cells[i]? = some v → w.cell? ⟨b, o + k * 35 + i, none⟩ = some v := by
  obtain ⟨b1, o1, e, _, hc⟩ := h.at hx
  injection e with e
  injection e with e1 e2
  subst e1 e2
  exact hc
theorem lks_prev {w : World} {B n b o k : Nat} {L : List LkV} {x : LkV} (h : Lks w B (some ⟨b, o, none⟩) n L) (hx : L[k]? = some x) :
    ∀ (j : Nat) (v : Value), (x.prev.map (Value.int .u8))[j]? = some v → w.cell? ((⟨b, o + k * 35 + 2, none⟩ : Addr).add j) = some v := by
  have hp := (h.all x (List.mem_of_getElem? hx)).plen
  refine ints_cells (fun i hi => ?_)
  rw [hp] at hi
  have := lks_cell h hx (2 + i) _ (x.cell_p hp i hi)
  rwa [← Nat.add_assoc] at this
end Go.Proofs.YtpjggokaolnbcaaDoor
