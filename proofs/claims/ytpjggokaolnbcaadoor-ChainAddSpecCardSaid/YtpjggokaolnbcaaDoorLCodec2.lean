/- Package codec: the unsigned form of any integer. -/
import Derived.Test.YtpjggokaolnbcaaDoorCodec3
import Derived.Test.YtpjggokaolnbcaaDoorDigTag
import Derived.Lib.AppendStr
namespace Go.Proofs.YtpjggokaolnbcaaDoor
open Go.RowKit
set_option linter.unusedVariables false
def uns (z : Int) : Nat := if 0 ≤ z then (2 * z).toNat else (-2 * z - 1).toNat
theorem u64_mod (n : Int) : IntKind.u64.wrap n = n % 18446744073709551616 := by simp [IntKind.wrap, IntKind.bits, IntKind.signed]
theorem uns_lt {z : Int} (h : -9223372036854775808 ≤ z ∧ z < 9223372036854775808) : uns z < 18446744073709551616 := by
  unfold uns; split <;> omega
theorem xor_any (x : Int) : bits .xor .u64 x 0 = x % 18446744073709551616 := by
  have e : bits .xor .u64 x 0 = IntKind.u64.wrap (((BitVec.ofInt 64 x ^^^ 0#64).toNat : Nat) : Int) := rfl
  rw [e, BitVec.xor_zero, BitVec.toNat_ofInt, u64_mod]
  omega
theorem xor_ones (x : Int) : bits .xor .u64 x 18446744073709551615 = 18446744073709551615 - x % 18446744073709551616 := by
  have e : bits .xor .u64 x 18446744073709551615 = IntKind.u64.wrap (((BitVec.ofInt 64 x ^^^ BitVec.allOnes 64).toNat : Nat) : Int) := rfl
  rw [e, BitVec.xor_allOnes, BitVec.toNat_not, BitVec.toNat_ofInt, u64_mod]
  omega
theorem unsigned_I (z : Int) (h : -9223372036854775808 ≤ z ∧ z < 9223372036854775808) (w : World) : Calls Tryd.prog 48 #[.int .i64 z] w fun e w' => e = .returned (.int .u64 (uns z : Int)) ∧ w = w' := by
  obtain ⟨h1, h2⟩ := h
  have ha := xor_any
  have ho := xor_ones
  have HA := Lib.hid ha
  have HO := Lib.hid ho
  clear ha ho
  by_cases h0 : 0 ≤ z
  · have e0 : z / 9223372036854775808 = 0 := by omega
    have hu : (uns z : Int) = 2 * z := by unfold uns; rw [if_pos h0]; omega
    have HU := Lib.hid hu
    clear hu
    go_enter Tryd.func48, Tryd.ntmps48
    go_wp2
    go_ret
    exact ⟨retI (by rw [HU.out, HA.out]; omega), rfl⟩
  · have e0 : z / 9223372036854775808 = -1 := by omega
    have hu : (uns z : Int) = -2 * z - 1 := by unfold uns; rw [if_neg h0]; omega
    have HU := Lib.hid hu
    clear hu
    go_enter Tryd.func48, Tryd.ntmps48
    go_wp2
    go_ret
    exact ⟨retI (by rw [HU.out, show IntKind.u64.wrap (-1) = 18446744073709551615 from rfl, HO.out, u64_mod, u64_mod]; omega), rfl⟩
set_option maxRecDepth 100000 in
set_option maxHeartbeats 1000000 in
theorem w1I_any (base : Nat) (v : Value) (n : Nat) (xs : List Int) (z : Int) (w : World) (hown : w.ownsRow base 5 1 v n (xs.map (Value.int .u8))) (hz : -9223372036854775808 ≤ z ∧ z < 9223372036854775808) (hn : n ≤ 900000) (hbase : base ≤ w.heap.size) :
    Calls Tryd.prog 46 #[v, intV z] w (NumPost base w v n xs (1 :: Cd.numL (uns z))) := by
  obtain ⟨i0, hi, hz0, hz1, hz2⟩ := info_parts infoU8c
  have hne := own_far hown
  have hbox : (w.alloc (.cells #[.int .i64 1, .int .i64 z, .string ⟨#[]⟩, .slice none 0 0] 52)).cell? ⟨w.heap.size, 1, none⟩ = some (.int .i64 z) := alloc_cell1 w _ _ _ _
  have hun := unsigned_I z hz
  have hul := uns_lt hz
  generalize uns z = u at *
  unfold intV
  go_enter Tryd.func46, Tryd.ntmps46
  go_wp2
  go_region_held3 (fun w' => w'.cell? ⟨w.heap.size, 1, none⟩ = some (.int .i64 z))
    (first
      | (go_keep; done)
      | exact hq1
      | exact (hG.grow.cell_far ⟨w.heap.size, 1, none⟩ hlt1 hne1).trans hq1)
    ((first | (go_at_call 48; (with_reducible refine (hun _).mono ?_); rintro e w' ⟨rfl, rfl⟩) | (go_at_call 47; (refine (numeral_any base v1 (n + 1) (xs ++ [1]) u w1 (by simpa using hown1) (by omega) (by omega) (by omega)).mono ?_); rintro e w3 ⟨v3, rfl, hG⟩) | (refine wp_atc (by rfl) (wp_append_rd _ (.tmp 5) (.tmp 6) 23 (by rfl) base 5 i0 _ 1 1 Tryd.underlying23 hi hz0 hz1 hz2 rfl (by omega) v n _ (by rfl) ((hown.alloc _).alloc _).drew _ _ 1 _ [.int .u8 1] (by rfl) (rd_one _ _ _ _ (by simp)).drew (fun u hu => by simp at hu; subst hu; rfl) (by unfold maxLen; omega) (by omega) (by simp; omega) ?_); intro v1 w1 hown1 hg1 hb1; have hq1 := (hg1.cell_far ⟨w.heap.size, 1, none⟩ (by simp; omega) hne).trans (cell_box2 w _ _ hbox); have hlt1 : w.heap.size < w1.heap.size := (by have := hg1.size; simp at this; omega); have hne1 := own_ne hne hb1 (by simp; omega)) | fail))
  have hG0 : Grew base w v n xs w1 v1 [1] := Grew.mk1 (grown_drew (grown_alloc (World.grownBy_alloc w _ _) _)) hown1 hg1 hb1
  have hG2 := hG0.then hG
  clear hG0 hG hown1 hg1 hb1 hq1 hne1
  go_wp2
  go_ret
  exact ⟨v3, rfl, hG2⟩
end Go.Proofs.YtpjggokaolnbcaaDoor
/- Package codec, lists of integers and texts: checks. -/
namespace Go.Proofs.YtpjggokaolnbcaaDoor
open Go.RowKit
set_option linter.unusedVariables false
/-- an element: a number, or a text -/
inductive El where
  | int (z : Int)
  | txt (s : ByteArray)
def txtV (s : ByteArray) : Value := .agg #[.int .i64 2, .int .i64 0, .string s, .slice none 0 0]
set_option maxRecDepth 100000 in
set_option maxHeartbeats 1000000 in
theorem formed_txt (s : ByteArray) (w : World) : Calls Tryd.prog 45 #[txtV s] w fun e w' => e = .returned (.tuple #[.int .i64 0, .bool true]) ∧ Below w.heap.size w w' := by
  unfold txtV
  go_enter Tryd.func45, Tryd.ntmps45
  go_wp2
  all_goals
    go_ret2
    exact ⟨rfl, ((Below.refl _ _).alloc (Nat.le_refl _) _).alloc (by simp) _⟩
namespace El
def cells : El → List Value
  | int z => [.int .i64 1, .int .i64 z, .string ⟨#[]⟩, .slice none 0 0]
  | txt s => [.int .i64 2, .int .i64 0, .string s, .slice none 0 0]
/-- what a list's encoding holds of it -/
def ok : El → Prop
  | int z => -9223372036854775808 ≤ z ∧ z < 9223372036854775808
  | txt s => s.size ≤ 2000
end El
def elsCells (l : List El) : List Value := l.flatMap El.cells
theorem flat_at {α : Type} (f : α → List Value) (s : Nat) (hs : ∀ x, (f x).length = s) : ∀ (l : List α) (k i : Nat) (x : α), l[k]? = some x → i < s → (l.flatMap f)[k * s + i]? = (f x)[i]?
  | [], k, i, x, h, _ => by simp at h
  | a :: l, 0, i, x, h, hi => by
    simp at h
    subst h
    rw [List.flatMap_cons, List.getElem?_append_left (by rw [hs]; omega), Nat.zero_mul, Nat.zero_add]
  | a :: l, k + 1, i, x, h, hi => by
    simp at h
    rw [List.flatMap_cons, List.getElem?_append_right (by rw [hs, Nat.succ_mul]; omega), hs, show (k + 1) * s + i - s = k * s + i by rw [Nat.succ_mul]; omega]
    exact flat_at f s hs l k i x h hi
theorem El.cells_length (x : El) : x.cells.length = 4 := by cases x <;> rfl
/-- the cells of element k -/
theorem el_at {w : World} {B g n : Nat} {l : List El} (hr : Rd w B 4 (some ⟨g, 0, none⟩) n (elsCells l)) {k : Nat} {x : El} (hx : l[k]? = some x) {i : Nat} {v : Value} (hv : x.cells[i]? = some v) : w.cell? ⟨g, k * 4 + i, none⟩ = some v := by
  have hi : i < 4 := by have := (List.getElem?_eq_some_iff.1 hv).1; rwa [El.cells_length] at this
  have hn : 0 < n := by
    rcases Nat.eq_zero_or_pos n with h0 | h0
    · have h1 := hr.1
      rw [h0, Nat.zero_mul] at h1
      have h2 := flat_at El.cells 4 El.cells_length l k i x hx hi
      rw [show l.flatMap El.cells = [] from List.eq_nil_of_length_eq_zero h1, hv] at h2
      simp at h2
    · exact h0
  obtain ⟨b, o, e, _, hc⟩ := hr.2 hn
  injection e with e
  injection e with e1 e2
  subst e1; subst e2
  have := hc (k * 4 + i) v (by rw [elsCells, flat_at El.cells 4 El.cells_length l k i x hx hi, hv])
  rwa [Nat.zero_add] at this
theorem rd_lt {w : World} {B s g o n : Nat} {xs : List Value} (hr : Rd w B s (some ⟨g, o, none⟩) n xs) (hn : 0 < n) : g < B := by
  obtain ⟨b, o, e, hb, _⟩ := hr.2 hn
  injection e with e
  injection e with e1 e2
  subst e1; exact hb
set_option maxRecDepth 100000 in
set_option maxHeartbeats 2000000 in
theorem formed_list (g c n : Nat) (l : List El) (w : World) (hl : l.length = n) (hp : 0 < n) (hn : n ≤ 1000) (hr : Rd w w.heap.size 4 (some ⟨g, 0, none⟩) n (elsCells l)) (hnc : n ≤ c) :
    Calls Tryd.prog 45 #[listV (some ⟨g, 0, none⟩) n c] w fun e w' => e = .returned (.tuple #[.int .i64 1, .bool true]) ∧ Below w.heap.size w w' := by
  have hz : (((n : Int) == 0) : Bool) = false := by simp; omega
  have hB := ((Below.refl w.heap.size w).alloc (Nat.le_refl _) (.cells #[.int .i64 3, .int .i64 0, .string ⟨#[]⟩, .slice (some ⟨g, 0, none⟩) n c] 52)).alloc (by simp) (.cells #[.bool false, .bool false, .bool false, .bool true] 91)
  have hg := rd_lt hr hp
  have HL := Lib.hid hl
  have HR := Lib.hid hr
  clear hl hr
  unfold listV
  have hfi := formed_int
  have hft := formed_txt
  unfold intV at hfi
  unfold txtV at hft
  go_enter Tryd.func45, Tryd.ntmps45
  go_wp2
  go_loopw [2, 57] (fun d i wr => ∃ k : Nat, k ≤ n ∧ i = .int .i64 k ∧ d = .int .i64 0 ∧ Below w.heap.size w wr) (fun _ i _ => n - (intOf i).toNat)
  case atStart => exact ⟨0, by omega, rfl, rfl, hB⟩
  case round =>
    clear hB
    obtain ⟨k, hk, rfl, rfl, hB⟩ := hrel
    by_cases hlt : k < n
    · have k1 : (k : Int) < n := by omega
      have hRr := HR.out.below hB
      obtain ⟨x, hx⟩ : ∃ x, l[k]? = some x := ⟨_, List.getElem?_eq_getElem (by rw [HL.out]; exact hlt)⟩
      cases x with
      | int z =>
        have p0 : wr.cell? ⟨g, k * 4, none⟩ = some (.int .i64 1) := el_at hRr hx (i := 0) rfl
        have p1 : wr.cell? ⟨g, k * 4 + 1, none⟩ = some (.int .i64 z) := el_at hRr hx (i := 1) rfl
        have p2 : wr.cell? ⟨g, k * 4 + 2, none⟩ = some (.string ⟨#[]⟩) := el_at hRr hx (i := 2) rfl
        have p3 : wr.cell? ⟨g, k * 4 + 3, none⟩ = some (.slice none 0 0) := el_at hRr hx (i := 3) rfl
        clear hRr hx
        go_wp2_with (go_at_call 45; (with_reducible refine (hfi _ _).mono ?_); rintro e w2 ⟨rfl, hb2⟩)
        go_roundw
        case rel => exact ⟨k + 1, by omega, by go_num, rfl, (hB.alloc hB.size _).trans (hb2.mono (by have := hB.size; simp; omega))⟩
        case measure => simp [intOf]; omega
      | txt s =>
        have p0 : wr.cell? ⟨g, k * 4, none⟩ = some (.int .i64 2) := el_at hRr hx (i := 0) rfl
        have p1 : wr.cell? ⟨g, k * 4 + 1, none⟩ = some (.int .i64 0) := el_at hRr hx (i := 1) rfl
        have p2 : wr.cell? ⟨g, k * 4 + 2, none⟩ = some (.string s) := el_at hRr hx (i := 2) rfl
        have p3 : wr.cell? ⟨g, k * 4 + 3, none⟩ = some (.slice none 0 0) := el_at hRr hx (i := 3) rfl
        clear hRr hx
        go_wp2_with (go_at_call 45; (with_reducible refine (hft _ _).mono ?_); rintro e w2 ⟨rfl, hb2⟩)
        go_roundw
        case rel => exact ⟨k + 1, by omega, by go_num, rfl, (hB.alloc hB.size _).trans (hb2.mono (by have := hB.size; simp; omega))⟩
        case measure => simp [intOf]; omega
    · have k9 : (n : Int) ≤ k := by omega
      go_wp2
      go_ret2
      exact ⟨rfl, hB⟩
theorem check_list (g c n : Nat) (l : List El) (w : World) (hl : l.length = n) (hp : 0 < n) (hn : n ≤ 1000) (hr : Rd w w.heap.size 4 (some ⟨g, 0, none⟩) n (elsCells l)) (hnc : n ≤ c) :
    Calls Tryd.prog 35 #[listV (some ⟨g, 0, none⟩) n c] w fun e w' => e = .returned (.int .i64 0) ∧ Below w.heap.size w w' := by
  have hR := Lib.hid ((hr.alloc (Nat.le_refl _) (.cells #[.int .i64 3, .int .i64 0, .string ⟨#[]⟩, .slice (some ⟨g, 0, none⟩) n c] 52)).more (B' := w.heap.size + 1) (by omega))
  have hf := formed_list g c n l
  have HL := Lib.hid hl
  clear hr hl
  unfold listV at hf ⊢
  go_enter Tryd.func35, Tryd.ntmps35
  go_wp2_with fail
  refine (hf _ HL.out hp hn (by rw [World.size_alloc]; exact hR.out) hnc).mono ?_
  rintro e w1 ⟨rfl, hb1⟩
  have hB1 := ((Below.refl w.heap.size w).alloc (Nat.le_refl _) _).trans (hb1.mono (by simp))
  clear hb1 hf
  go_wp2
  go_ret
  exact ⟨rfl, hB1⟩
end Go.Proofs.YtpjggokaolnbcaaDoor
/- Package codec: the writer of texts. -/
namespace Go.Proofs.YtpjggokaolnbcaaDoor
open Go.RowKit
set_option linter.unusedVariables false
theorem strCells_ints (s : ByteArray) : Lib.strCells s = (strInts s).map (Value.int .u8) := by
  simp [Lib.strCells, strInts]
/-- a string's bytes, laid onto a row of one's own that is not nil: and where the row lies then -/
theorem wp_append_str {P : Program} {o : Oper} {a : Act} {w : World} {K : Act → World → Prop} {Q : Exit → Act → World → Prop} (sl x : Operand) (t u : TypeId)
    (ho : o.op = .call { callee := .builtin .append, args := #[sl, x], argTypes := #[t, u] })
    (base : Nat) (e : TypeId) (i : TypeInfo) (ht : P.underlying t = some (.slice e)) (hu : P.underlying u = some .string) (hi : P.info? e = some i) (hz : i.zero = some (.int .u8 0))
    (hsize : i.size = 1) (hby : i.bytes = 1)
    (v : Value) (n : Nat) (xs : List Value) (hs : a.eval sl = v) (hown : w.ownsRow base e 1 v n xs) (hn : 0 < n) (s : ByteArray) (hx : a.eval x = .string s)
    (h63 : n + s.size ≤ 1000000) (hbase : base ≤ w.heap.size)
    (h : ∀ v' w', w'.ownsRow base e 1 v' (n + s.size) (xs ++ Lib.strCells s) → w.grownBy w' v.ownBlock → (v'.ownBlock = v.ownBlock ∨ v'.ownBlock = some w.heap.size) → K (a.put o.dst v') w') : o.wp P a w K Q := by
  obtain ⟨v', w', hr, h2, h3, _⟩ := Lib.run_append_own_string (P := P) w base t u o.type e i ht hu hi hz hsize hby v n xs hown s (by unfold maxLen; omega) (by omega) hbase
  have hb : v'.ownBlock = v.ownBlock ∨ v'.ownBlock = some w.heap.size := by
    have hxl : xs.length = n := by simpa using hown.1
    rcases hown.2 with ⟨_, h0⟩ | ⟨g, cap, cur, rfl, _, hg, hnc, hcm, hcs, _⟩
    · omega
    · have hcs' : cur.size = cap := by simpa using hcs
      unfold maxLen at hcm
      by_cases hroom : n + s.size ≤ cap
      · have h1 := Lib.run_append_room_string (P := P) w t u o.type e i ht hu hi hsize g n cap cur hg s hroom (by omega)
        have e1 := hr.symm.trans h1
        injection e1 with e1 e2
        exact .inl (by rw [e1]; rfl)
      · have h1 := Lib.run_append_grow_string (P := P) w t u o.type e i (.int .u8 0) ht hu hi hz ⟨g, 0, none⟩ n cap xs (by rw [hsize]; simpa using hxl) (hown.cells (g := g) rfl) s (by omega) (by omega) (by rw [hby]; exact growslice_fits (by omega) (by omega))
        have e1 := hr.symm.trans h1
        injection e1 with e1 e2
        exact .inr (by rw [e1]; rfl)
  unfold Oper.wp execOp
  simp only [ho, resolve, invoke, builtin, Sem.run_bind, Sem.run_pure, Result.andThen_ok, List.map_toArray, List.map_cons, List.map_nil, hs, hx, hr]
  exact h v' w' h2 h3 hb
theorem txt_box (w : World) (s : ByteArray) (t : TypeId) : (w.alloc (.cells #[.int .i64 2, .int .i64 0, .string s, .slice none 0 0] t)).cell? ⟨w.heap.size, 2, none⟩ = some (.string s) := by
  rw [cell_of_row _ w.heap.size 2 _ _ _ (heap_alloc_new w _)]; rfl
theorem grew_cellL {base : Nat} {w w' : World} {v v' : Value} {n : Nat} {xs ys : List Int} (h : Grew base w v n xs w' v' ys) (hv : ∀ j, v.ownBlock = some j → base ≤ j) {p : Addr} (hp : p.block < base) (hs : base ≤ w.heap.size) : w'.cell? p = w.cell? p :=
  World.cell?_of_block (h.grow.block p.block (by omega) (fun e => by have := hv _ e.symm; omega))
/-- growth that began behind some blocks more -/
theorem Grew.preL {base : Nat} {w w1 w' : World} {v v' : Value} {n : Nat} {xs ys : List Int} (h : Grew base w1 v n xs w' v' ys) (hp : w.grownBy w1 v.ownBlock) : Grew base w v n xs w' v' ys :=
  ⟨h.own, grown_then hp h.grow (fun j hj => .inr hj), fun j hj => by
    rcases h.blk j hj with h1 | h1
    · exact .inl (Nat.le_trans hp.size h1)
    · exact .inr h1⟩
theorem grew_ne {base H : Nat} {w w' : World} {v v' : Value} {n : Nat} {xs ys : List Int} (h : Grew base w v n xs w' v' ys) (hne : some H ≠ v.ownBlock) (hlt : H < w.heap.size) : some H ≠ v'.ownBlock := fun e => by
  rcases h.blk _ e.symm with h1 | h1
  · omega
  · exact hne h1.symm
set_option maxRecDepth 100000 in
set_option maxHeartbeats 2000000 in
theorem w2_any (base : Nat) (v : Value) (n : Nat) (xs : List Int) (s : ByteArray) (w : World) (hown : w.ownsRow base 5 1 v n (xs.map (Value.int .u8))) (hs : s.size ≤ 100000) (hn : n ≤ 800000) (hbase : base ≤ w.heap.size) :
    Calls Tryd.prog 49 #[v, txtV s] w (NumPost base w v n xs ([2] ++ Cd.numL s.size ++ strInts s)) := by
  obtain ⟨i0, hi, hz0, hz1, hz2⟩ := info_parts infoU8c
  have hne := own_far hown
  have hbox := txt_box w s 52
  have hten := Cd.numL_ten (u := s.size) (by omega)
  have HT := Lib.hid hten
  have hs9 : (s.size : Int) ≤ 100000 := by omega
  have hu64 : IntKind.u64.wrap (s.size : Int) = (s.size : Int) := by
    rw [show IntKind.u64.wrap (s.size : Int) = (s.size : Int) % 18446744073709551616 by simp [IntKind.wrap, IntKind.bits, IntKind.signed]]; omega
  clear hten
  unfold txtV
  go_enter Tryd.func49, Tryd.ntmps49
  go_wp2
  go_region_held3 (fun w' => w'.cell? ⟨w.heap.size, 2, none⟩ = some (.string s))
    (first
      | (go_keep; done)
      | exact hq1
      | exact hq3
      | exact (hg4.cell_far ⟨w.heap.size, 2, none⟩ hlt3 hne3).trans hq3)
    ((first
      | (go_at_call 47; (refine (numeral_any base v1 (n + 1) (xs ++ [2]) s.size w1 (by simpa using hown1) (by omega) (by omega) (by omega)).mono ?_); rintro e w3 ⟨v3, rfl, hG⟩; have hq3 := (hG.grow.cell_far ⟨w.heap.size, 2, none⟩ hlt1 hne1).trans hq1; have hlt3 : w.heap.size < w3.heap.size := Nat.lt_of_lt_of_le hlt1 hG.grow.size; have hne3 := grew_ne hG hne1 hlt1)
      | (refine wp_atc (by rfl) (wp_append_str (.tmp 12) (.tmp 14) 23 9 (by rfl) base 5 i0 Tryd.underlying23 Tryd.underlying9 hi hz0 hz1 hz2 v3 _ _ (by rfl) hG.own (by omega) s (by rfl) (by have := HT.out; omega) (by have := hG.grow.size; omega) ?_); intro v4 w4 hown4 hg4 hb4)
      | (refine wp_atc (by rfl) (wp_append_rd _ (.tmp 5) (.tmp 6) 23 (by rfl) base 5 i0 _ 1 1 Tryd.underlying23 hi hz0 hz1 hz2 rfl (by omega) v n _ (by rfl) ((hown.alloc _).alloc _).drew _ _ 1 _ [.int .u8 2] (by rfl) (rd_one _ _ _ _ (by simp)).drew (fun u hu => by simp at hu; subst hu; rfl) (by unfold maxLen; omega) (by omega) (by simp; omega) ?_); intro v1 w1 hown1 hg1 hb1; have hq1 := (hg1.cell_far ⟨w.heap.size, 2, none⟩ (by simp; omega) hne).trans (cell_box2 w _ _ hbox); have hlt1 : w.heap.size < w1.heap.size := (by have := hg1.size; simp at this; omega); have hne1 := own_ne hne hb1 (by simp; omega))
      | fail))
  have hG0 : Grew base w v n xs w1 v1 [2] := Grew.mk1 (grown_drew (grown_alloc (World.grownBy_alloc w _ _) _)) hown1 hg1 hb1
  have hG4 : Grew base w3 v3 (n + 1 + (Cd.numL s.size).length) (xs ++ [2] ++ Cd.numL s.size) w4 v4 (strInts s) := by
    refine Grew.mk1 (World.grownBy.refl _ _) ?_ hg4 hb4
    have h := hown4
    rw [strCells_ints] at h
    rw [strInts_length]
    exact h
  have hG2 : Grew base w v n xs w4 v4 ([2] ++ Cd.numL s.size ++ strInts s) := by
    have h := (hG0.then hG).then (zs := strInts s) (c := w4) (v2 := v4) (by
      have h4 := hG4
      rw [List.append_assoc] at h4
      rw [List.length_append, ← Nat.add_assoc]
      exact h4)
    exact h
  clear hG0 hG4 hG hown1 hg1 hb1 hq1 hne1 hq3 hne3 hlt3 hown4 hg4 hb4
  go_wp2
  go_ret
  exact ⟨v4, rfl, hG2⟩
end Go.Proofs.YtpjggokaolnbcaaDoor
