/- Plain laws of Part. -/
import Derived.Test.YtpjggokaolnbcaaDoorLPart2
import Derived.Test.YtpjggokaolnbcaaDoorLAdd
import Derived.Lib.SlBytesConst
namespace Go.Proofs.YtpjggokaolnbcaaDoor
open Go.RowKit
set_option linter.unusedVariables false
namespace Ch
theorem sameV_symm (x y : LkV) : sameV x y = sameV y x := by
  unfold sameV
  rw [decide_eq_decide]
  exact ⟨fun h => ⟨h.1.symm, h.2.1.symm, h.2.2.1.symm, h.2.2.2.symm⟩, fun h => ⟨h.1.symm, h.2.1.symm, h.2.2.1.symm, h.2.2.2.symm⟩⟩
theorem firstTo_symm (L M : List LkV) (m : Nat) : firstTo L M m = firstTo M L m := by
  unfold firstTo
  congr 1
  funext k
  rw [sameV_symm]
theorem differ_symm (L M : List LkV) : differ L M = differ M L := by
  unfold differ
  rw [firstTo_symm, Nat.min_comm]
theorem apart_symm (L M : List LkV) : apart L M = apart M L := by
  unfold apart
  rw [decide_eq_decide]
  exact ⟨fun h => ⟨h.2.1, h.1, h.2.2.symm⟩, fun h => ⟨h.2.1, h.1, h.2.2.symm⟩⟩
theorem part_symm (K : Sh.Cst) (L M : List LkV) : part K L M = part K M L := by
  unfold part
  rw [differ_symm L M, apart_symm L M]
  by_cases h : allB K L = true ∧ allB K M = true ∧ apart M L = false
  · rw [if_pos h, if_pos ⟨h.2.1, h.1, h.2.2⟩]
  · rw [if_neg h, if_neg fun g => h ⟨g.2.1, g.1, g.2.2⟩]
theorem firstTo_spec {L M : List LkV} {m k : Nat} (h : firstTo L M m = some k) : k < m ∧ sameTo L M k ∧ sameV (gk L k) (gk M k) = false := by
  by_cases hs : sameTo L M m
  · rw [firstTo_none hs] at h; cases h
  · have hm := List.find?_some h
    have hk := List.mem_of_find?_eq_some h
    rw [List.mem_range] at hk
    simp only [Bool.not_eq_true'] at hm
    refine ⟨hk, fun j hj => ?_, hm⟩
    have h2 := (List.find?_range_eq_some.1 h).2.2 j hj
    simpa using h2
theorem firstTo_no {L M : List LkV} {m : Nat} (h : firstTo L M m = none) : sameTo L M m := by
  intro j hj
  unfold firstTo at h
  rw [List.find?_eq_none] at h
  have := h j (List.mem_range.2 hj)
  simpa using this
theorem part_ok {K : Sh.Cst} {L M : List LkV} (h : (part K L M).2.2 = 0) : part K L M = ((differ L M).getD 0, (differ L M).isSome, 0) := by
  unfold part at h ⊢
  split
  · rfl
  · rename_i hn
    rw [if_neg hn] at h
    cases h
theorem part_bad {K : Sh.Cst} {L M : List LkV} (h : (part K L M).2.2 ≠ 0) : part K L M = (0, false, 80) := by
  unfold part at h ⊢
  split
  · rename_i hn
    rw [if_pos hn] at h
    exact absurd rfl h
  · rfl
end Ch
end Go.Proofs.YtpjggokaolnbcaaDoor
/- Plain laws of what is added to a chain. -/
namespace Go.Proofs.YtpjggokaolnbcaaDoor
open Go.RowKit
set_option linter.unusedVariables false
namespace Ch
theorem gk_app_lt {L M : List LkV} {k : Nat} (hk : k < L.length) : gk (L ++ M) k = gk L k := by
  unfold gk
  rw [List.getD_eq_getElem?_getD, List.getD_eq_getElem?_getD, List.getElem?_append_left hk]
theorem gk_app_new {L : List LkV} {x : LkV} : gk (L ++ [x]) L.length = x := by
  unfold gk
  rw [List.getD_eq_getElem?_getD]
  simp
theorem gk_take {L : List LkV} {k j : Nat} (hk : j < k) : gk (L.take k) j = gk L j := by
  unfold gk
  rw [List.getD_eq_getElem?_getD, List.getD_eq_getElem?_getD, List.getElem?_take, if_pos hk]
theorem allB_iff {K : Sh.Cst} {L : List LkV} : allB K L = true ↔ ∀ k, k < L.length → passB K L k k = true := by
  unfold allB
  rw [List.all_eq_true]
  exact ⟨fun h k hk => h k (List.mem_range.2 hk), fun h k hk => h k (List.mem_range.1 hk)⟩
theorem allB_nil (K : Sh.Cst) : allB K [] = true := allB_iff.2 (fun k hk => absurd hk (Nat.not_lt_zero k))
theorem allB_take {K : Sh.Cst} {L : List LkV} (h : allB K L = true) (k : Nat) : allB K (L.take k) = true := by
  rw [allB_iff] at *
  intro j hj
  have hj' : j < k ∧ j < L.length := by rw [List.length_take] at hj; omega
  have := h j hj'.2
  unfold passB at *
  rw [gk_take hj'.1, gk_take (by omega : 0 < k), List.take_take, Nat.min_eq_left (by omega)]
  exact this
theorem allB_snoc {K : Sh.Cst} {L : List LkV} {x : LkV} (h : allB K L = true) (h0 : 0 < L.length → (gk L 0).node = x.node) (hn : 0 ≤ x.node ∧ x.node < 24) (ho : x.no = L.length) (hd : x.data.length ≤ 65536) (hp : x.prev = head K L) : allB K (L ++ [x]) = true := by
  rw [allB_iff] at *
  intro j hj
  rw [List.length_append, List.length_singleton] at hj
  by_cases hjl : j < L.length
  · have := h j hjl
    unfold passB at *
    rw [gk_app_lt hjl, gk_app_lt (by omega : 0 < L.length), List.take_append_of_le_length (by omega)]
    exact this
  · obtain rfl : j = L.length := by omega
    have e0 : (gk (L ++ [x]) 0).node = x.node := by
      rcases Nat.eq_zero_or_pos L.length with h1 | h1
      · obtain rfl : L = [] := List.eq_nil_of_length_eq_zero h1
        rfl
      · rw [gk_app_lt h1]; exact h0 h1
    unfold passB
    rw [gk_app_new, e0, List.take_left]
    exact decide_eq_true ⟨rfl, hn.1, hn.2, ho, hd, hp⟩
theorem chk_of {K : Sh.Cst} {L : List LkV} (h : allB K L = true) : chk K L = 0 := by unfold chk; rw [if_pos h]
/-- a first link whose number is not 0 is no chain -/
theorem chk_no {K : Sh.Cst} {x : LkV} {L : List LkV} (h : x.no ≠ 0) : chk K (x :: L) = 80 := by
  unfold chk
  rw [if_neg]
  intro ha
  have := allB_iff.1 ha 0 (by simp)
  unfold passB at this
  have := of_decide_eq_true this
  exact h this.2.2.2.1
theorem text_first (x : LkV) (h1 : x.node = 3) (h2 : x.no = 0) (h3 : x.data = [120]) (hl : x.prev.length = 32) (hb : ∀ b ∈ x.prev, 0 ≤ b ∧ b < 256) : text x = [3, 4, 1, 6, 1, 0, 2, 32] ++ x.prev ++ [2, 1, 120] := by
  have e4 : Cd.numL 4 = [4] := Cd.numL_small (by omega)
  have e32 : Cd.numL 32 = [32] := Cd.numL_small (by omega)
  have e1 : Cd.numL 1 = [1] := Cd.numL_small (by omega)
  have e6 : Cd.numL 6 = [6] := Cd.numL_small (by omega)
  have e0 : Cd.numL 0 = [0] := Cd.numL_small (by omega)
  have u3 : El.enc (.int 3) = [1, 6] := by show _ :: Cd.numL 6 = _; rw [e6]
  have u0 : El.enc (.int 0) = [1, 0] := by show _ :: Cd.numL 0 = _; rw [e0]
  unfold text encEls parts
  rw [h1, h2, h3]
  simp only [List.length_cons, List.length_nil, List.flatMap_cons, List.flatMap_nil, List.append_nil, u3, u0]
  simp only [El.enc, toBA_size, hl, strInts_toBA hb, strInts_toBA (l := [120]) (by intro b hb; simp at hb; omega)]
  simp [e4, e32, e1]
end Ch
end Go.Proofs.YtpjggokaolnbcaaDoor
/- chain.Add, where it refuses. -/
namespace Go.Proofs.YtpjggokaolnbcaaDoor
open Go.RowKit
attribute [local go_sem] Oper.semAt_some
set_option linter.unusedVariables false
set_option maxRecDepth 100000 in
set_option maxHeartbeats 2000000 in
theorem add_wide (K : Sh.Cst) (A : Option Addr) (n c : Nat) (L : List LkV) (node : Int) (B : Option Addr) (m cd : Nat) (w : World) (hL : Lks w w.heap.size A n L) (hn : n ≤ 1000) (hnc : n ≤ c) (hf : ∀ x ∈ L, Ch.fit x) (hLd : Laid w)
    (h1 : Ch.allB K L = true) (hn1 : 24 ≤ node) :
    Calls Tryd.prog 10 #[.slice A n c, .int .i64 node, .slice B m cd] w fun e w' => e = .returned (.tuple #[.slice none 0 0, .int .i64 1]) ∧ Below w.heap.size w w' := by
  have e1 : Ch.chk K L = 0 := by unfold Ch.chk; rw [if_pos h1]
  have HC := Lib.hid (check_any K A n c L w hL hn hnc hf hLd)
  rw [e1] at HC
  have g1 : ¬ node < 0 := by omega
  clear hf hLd hL
  go_enter Tryd.func10, Tryd.ntmps10
  go_wp2_with fail
  refine HC.out.mono ?_
  rintro e w1 ⟨rfl, hb1⟩
  go_wp2
  go_ret2
  exact ⟨rfl, hb1⟩
set_option maxRecDepth 100000 in
set_option maxHeartbeats 2000000 in
theorem add_other (K : Sh.Cst) (A : Option Addr) (n c : Nat) (L : List LkV) (node : Int) (B : Option Addr) (m cd : Nat) (w : World) (hL : Lks w w.heap.size A n L) (hn : n ≤ 1000) (hnc : n ≤ c) (hf : ∀ x ∈ L, Ch.fit x) (hLd : Laid w)
    (h1 : Ch.allB K L = true) (hn0 : 0 ≤ node) (hn1 : node < 24) (h0 : 0 < n) (hne : node ≠ (Ch.gk L 0).node) :
    Calls Tryd.prog 10 #[.slice A n c, .int .i64 node, .slice B m cd] w fun e w' => e = .returned (.tuple #[.slice none 0 0, .int .i64 1]) ∧ Below w.heap.size w w' := by
  have e1 : Ch.chk K L = 0 := by unfold Ch.chk; rw [if_pos h1]
  have HC := Lib.hid (check_any K A n c L w hL hn hnc hf hLd)
  rw [e1] at HC
  obtain ⟨b, o, rfl, hb, hc⟩ := hL.at (Ch.gk_mem (L := L) (k := 0) (by rw [hL.len]; omega)).2
  have p0 := hc 0 _ (LkV.cell_n _)
  simp only [Nat.zero_mul, Nat.add_zero] at p0
  clear hc
  generalize (Ch.gk L 0).node = d at p0 hne
  have g1 : ¬ node < 0 := by omega
  have g2 : ¬ (24 : Int) ≤ node := by omega
  have g3 : (0 : Int) < (n : Int) := by omega
  have g4 : ((node == d : Bool)) = false := beq_eq_false_iff_ne.2 hne
  have g5 : ((node != d : Bool)) = true := by rw [bne, g4]; rfl
  clear hf hLd hL
  go_enter Tryd.func10, Tryd.ntmps10
  go_wp2_with fail
  refine HC.out.mono ?_
  rintro e w1 ⟨rfl, hb1⟩
  have q0 := (hb1.cell (p := ⟨b, o, none⟩) hb).trans p0
  go_wp2
  go_ret2
  exact ⟨rfl, hb1⟩
end Go.Proofs.YtpjggokaolnbcaaDoor
/- Plain facts for sane. -/
namespace Go.Proofs.YtpjggokaolnbcaaDoor
open Go.RowKit
set_option linter.unusedVariables false
namespace Ch
structure l0 (K : Sh.Cst) (x : LkV) : Prop where
  nd : x.node = 3
  no : x.no = 0
  pv : x.prev = head K []
  dt : x.data = [120]
structure l1 (K : Sh.Cst) (x0 : LkV) (b : Int) (x : LkV) : Prop where
  nd : x.node = 3
  no : x.no = 1
  pv : x.prev = head K [x0]
  dt : x.data = [b]
theorem l0.fit {K : Sh.Cst} {x : LkV} (h : l0 K x) : fit x := ⟨by rw [h.nd]; omega, by rw [h.no]; omega, by rw [h.dt]; simp⟩
theorem l1.fit {K : Sh.Cst} {x0 x : LkV} {b : Int} (h : l1 K x0 b x) : Ch.fit x := ⟨by rw [h.nd]; omega, by rw [h.no]; omega, by rw [h.dt]; simp⟩
theorem l0.all {K : Sh.Cst} {x : LkV} (h : l0 K x) : allB K [x] = true :=
  allB_snoc (L := []) (allB_nil K) (fun h => absurd h (by simp)) (by rw [h.nd]; omega) (by rw [h.no]; rfl) (by rw [h.dt]; simp) h.pv
theorem l1.all {K : Sh.Cst} {x0 x : LkV} {b : Int} (h0 : l0 K x0) (h : l1 K x0 b x) : allB K [x0, x] = true :=
  allB_snoc (L := [x0]) h0.all (fun _ => by rw [h.nd]; exact h0.nd) (by rw [h.nd]; omega) (by rw [h.no]; rfl) (by rw [h.dt]; simp) h.pv
theorem part_two {K : Sh.Cst} {x0 x1 x2 : LkV} (h0 : l0 K x0) (h1 : l1 K x0 121 x1) (h2 : l1 K x0 122 x2) : part K [x0, x1] [x0, x2] = (1, true, 0) := by
  have e : differ [x0, x1] [x0, x2] = some 1 := by
    have s0 : sameV x0 x0 = true := by unfold sameV; simp
    have s1 : sameV x1 x2 = false := by unfold sameV; rw [h1.dt, h2.dt]; simp
    unfold differ firstTo
    show List.find? _ (List.range 2) = _
    rw [show List.range 2 = [0, 1] from rfl]
    show List.find? _ [0, 1] = _
    rw [List.find?_cons, List.find?_cons]
    show (match !sameV x0 x0 with | true => _ | false => match !sameV x1 x2 with | true => _ | false => _) = _
    rw [s0, s1]; rfl
  unfold part
  rw [if_pos ⟨h1.all h0, h2.all h0, by unfold apart; simp [gk]⟩, e]; rfl
theorem part_one {K : Sh.Cst} {x0 x1 : LkV} (h0 : l0 K x0) (h1 : l1 K x0 121 x1) : part K [x0] [x0, x1] = (0, false, 0) := by
  have e : differ [x0] [x0, x1] = none := by
    have s0 : sameV x0 x0 = true := by unfold sameV; simp
    unfold differ firstTo
    show List.find? _ (List.range 1) = _
    rw [show List.range 1 = [0] from rfl]
    rw [List.find?_cons]
    show (match !sameV x0 x0 with | true => _ | false => _) = _
    rw [s0]; rfl
  unfold part
  rw [if_pos ⟨h0.all, h1.all h0, by unfold apart; simp [gk]⟩, e]; rfl
theorem part_nil {K : Sh.Cst} {x0 : LkV} (h0 : l0 K x0) : part K [] [x0] = (0, false, 0) := by
  have e : differ [] [x0] = none := rfl
  unfold part
  rw [if_pos ⟨allB_nil K, h0.all, by unfold apart; simp⟩, e]; rfl
end Ch
theorem lks_nil (w : World) (B : Nat) (A : Option Addr) : Lks w B A 0 [] := ⟨rfl, (fun x hx => by cases hx), ⟨(Nat.zero_mul _).symm, fun h => absurd h (by omega)⟩⟩
theorem rd_nil (w : World) (B s : Nat) (A : Option Addr) : Rd w B s A 0 [] := ⟨(Nat.zero_mul s).symm, fun h => absurd h (by omega)⟩
/-- one byte that was just made -/
theorem rd_byte (w : World) (t : TypeId) (fr : Nat × Nat) (b : Int) : Rd (w.alloc (.cells #[.int .u8 b] t fr)) (w.alloc (.cells #[.int .u8 b] t fr)).heap.size 1 (some ⟨w.heap.size, 0, none⟩) 1 (([b] : List Int).map (Value.int .u8)) := by
  refine ⟨rfl, fun _ => ⟨w.heap.size, 0, rfl, by simp, fun j v hv => ?_⟩⟩
  rw [cell_of_row _ w.heap.size (0 + j) _ _ _ (heap_alloc_new w _), Nat.zero_add]
  simpa using hv
/-- Add with one new byte, behind what was made so far -/
theorem add_byte (K : Sh.Cst) (A : Option Addr) (n c : Nat) (L : List LkV) (b : Int) (t : TypeId) (fr : Nat × Nat) (W : World) (hL : Lks W W.heap.size A n L) (hn : n ≤ 1000) (hnc : n ≤ c) (hf : ∀ x ∈ L, Ch.fit x) (hLd : Laid W)
    (h1 : Ch.allB K L = true) (hnode : 0 < n → (Ch.gk L 0).node = 3) (hb : 0 ≤ b ∧ b < 256) :
    Calls Tryd.prog 10 #[.slice A n c, .int .i64 3, .slice (some ⟨W.heap.size, 0, none⟩) 1 1] (W.alloc (.cells #[.int .u8 b] t fr)) fun e w' => ∃ G C A' c', e = .returned (.tuple #[.slice G (n + 1) C, .int .i64 0]) ∧ n + 1 ≤ C ∧ C ≤ maxLen ∧ Lks w' w'.heap.size G (n + 1) (L ++ [⟨3, n, Ch.head K L, [b], A', c'⟩]) ∧ Below W.heap.size W w' := by
  have hB : Below W.heap.size W (W.alloc (.cells #[.int .u8 b] t fr)) := (Below.refl _ W).alloc (Nat.le_refl _) _
  refine (add_ok K A n c L 3 (some ⟨W.heap.size, 0, none⟩) 1 1 [b] _ ((hL.below hB).more hB.size) hn hnc hf (hLd.below hB hLd.size) h1 (by omega) (by omega) hnode (rd_byte W t fr b) (by intro x hx; simp at hx; subst hx; exact hb) (by omega)).mono ?_
  rintro e w' ⟨G, C, A', c', he, h1, h2, h3, h4⟩
  exact ⟨G, C, A', c', he, h1, h2, h3, hB.trans (h4.mono hB.size)⟩
theorem lks_rest {w : World} {B n : Nat} {b o : Nat} {x : LkV} {L : List LkV} (h : Lks w B (some ⟨b, o, none⟩) (n + 1) (x :: L)) : Lks w B (some ⟨b, o + 35, none⟩) n L := by
  refine ⟨by have := h.len; simpa using this, fun y hy => h.all y (by simp [hy]), ?_, fun hn => ?_⟩
  · have := h.rd.1
    rw [List.flatMap_cons, List.length_append, LkV.cells_length (h.all x (by simp))] at this
    omega
  · obtain ⟨b1, o1, e, hb, hc⟩ := h.rd.2 (by omega)
    injection e with e
    injection e with e1 e2
    subst e1 e2
    refine ⟨b, o + 35, rfl, hb, fun j v hv => ?_⟩
    have hl := LkV.cells_length (h.all x (by simp))
    have := hc (35 + j) v (by rw [List.flatMap_cons, List.getElem?_append_right (by omega), hl, Nat.add_sub_cancel_left]; exact hv)
    rwa [← Nat.add_assoc] at this
theorem wpList_want {P : Program} {ops : Array Oper} {rest : List Oper} {o : Oper} {a : Act} {w : World} {Q : Exit → Act → World → Prop} (hw : Region.wanted o (yielded ops a.tmps) = true)
    (h : ∀ K : Act → World → Prop, (∀ a w, wpList P ops Q rest a w → K a w) → o.wp P a w K Q) : wpList P ops Q (o :: rest) a w :=
  wpList_step fun K hK => by rw [if_pos hw]; exact h K hK
theorem wp_build_as {P : Program} {o : Oper} {a : Act} {w : World} {K : Act → World → Prop} {Q : Exit → Act → World → Prop} (t : TypeId) (parts : Array (Nat × Operand)) (ho : o.op = .build t parts) (l : List (Nat × Value))
    (hl : (parts.toList.map fun (x : Nat × Operand) => (x.1, a.eval x.2)) = l) (cells : Array Value) (hb : P.built t l = some cells) (h : K (a.put o.dst (.agg cells)) w) : o.wp P a w K Q := by
  have hl' : (parts.map fun (i, x) => (i, a.eval x)).toList = l := by rw [Array.toList_map]; exact hl
  refine wp_build t parts ho (by rw [hl', hb]; rfl) ?_
  rw [hl', hb]
  exact h
/-- a link of which only the number is said -/
def zeroL : LkV := ⟨0, 1, List.replicate 32 0, [], none, 0⟩
theorem zero_built : Tryd.prog.built 37 [(1, .int .i64 1)] = some zeroL.cells.toArray := by kernel_rfl
theorem zero_ok (w : World) (B : Nat) : zeroL.ok w B := by
  have h : ∀ b ∈ List.replicate 32 (0 : Int), 0 ≤ b ∧ b < 256 := by intro b hb; rw [List.eq_of_mem_replicate hb]; omega
  exact ⟨rfl, h, (fun b hb => by cases hb), rd_nil w B 1 none, Nat.le_refl _, Nat.zero_le _⟩
theorem lks_box (w : World) (x : LkV) (hx : ∀ W B, x.ok W B) (t : TypeId) : Lks (w.alloc (.cells x.cells.toArray t)) (w.alloc (.cells x.cells.toArray t)).heap.size (some ⟨w.heap.size, 0, none⟩) 1 [x] := by
  have hl := LkV.cells_length (hx w 0)
  refine ⟨rfl, fun y hy => ?_, ?_, fun _ => ⟨w.heap.size, 0, rfl, by simp, fun j v hv => ?_⟩⟩
  · rw [List.mem_singleton] at hy; subst hy; exact hx _ _
  · simpa using hl
  · rw [cell_of_row _ w.heap.size (0 + j) _ _ _ (heap_alloc_new w _), Nat.zero_add]
    simpa using hv
theorem rd32 {w : World} {g : Nat} {t : TypeId} {l : List Int} (h : Ints w g t .u8 l) (hl : l.length = 32) : Rd w w.heap.size 1 (some ⟨g, 0, none⟩) 32 (l.map (Value.int .u8)) := by
  have := h.rd 0 32 (by omega)
  rwa [List.drop_zero, List.take_of_length_le (by omega)] at this
theorem lks_cell {w : World} {B n b o k : Nat} {L : List LkV} {x : LkV} (h : Lks w B (some ⟨b, o, none⟩) n L) (hx : L[k]? = some x) : ∀ i v, x.cells[i]? = some v → w.cell? ⟨b, o + k * 35 + i, none⟩ = some v := by
  obtain ⟨b1, o1, e, _, hc⟩ := h.at hx
  injection e with e
  injection e with e1 e2
  subst e1 e2
  exact hc
theorem lks_prev {w : World} {B n b o k : Nat} {L : List LkV} {x : LkV} (h : Lks w B (some ⟨b, o, none⟩) n L) (hx : L[k]? = some x) :
    ∀ (j : Nat) (v : Value), (x.prev.map (Value.int .u8))[j]? = some v → w.cell? ((⟨b, o + k * 35 + 2, none⟩ : Addr).add j) = some v := by
  have hp := (h.all x (List.mem_of_getElem? hx)).plen
  refine ints_cells (fun i hi => ?_)
  rw [hp] at hi
  have := lks_cell h hx (2 + i) _ (x.cell_p hp i hi)
  rwa [← Nat.add_assoc] at this
end Go.Proofs.YtpjggokaolnbcaaDoor
