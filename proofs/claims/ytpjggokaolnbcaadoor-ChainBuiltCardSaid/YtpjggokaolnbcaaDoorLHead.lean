/- The head of a chain. -/
import Derived.Test.YtpjggokaolnbcaaDoorLLink1
namespace Go.Proofs.YtpjggokaolnbcaaDoor
open Go.RowKit
set_option linter.unusedVariables false
/-- block g is just these cells, none frozen -/
def Row (w : World) (g : Nat) (t : TypeId) (cs : List Value) : Prop := w.heap[g]? = some (.cells cs.toArray t (0, 0))
section
variable {w w' : World} {g : Nat} {t : TypeId} {cs : List Value}
theorem Row.lt (h : Row w g t cs) : g < w.heap.size := heap_lt h
theorem Row.cell (h : Row w g t cs) {i : Nat} {v : Value} (hv : cs[i]? = some v) : w.cell? ⟨g, i, none⟩ = some v := by
  rw [cell_of_row w g i _ t (0, 0) h]; simpa using hv
theorem Row.below {B : Nat} (h : Row w g t cs) (hb : Below B w w') (hg : g < B) : Row w' g t cs := (hb.block g hg).trans h
theorem Row.alloc (h : Row w g t cs) (o : Obj) : Row (w.alloc o) g t cs := (Below.heap_alloc w o g h.lt).trans h
theorem Row.grown {row : Option Nat} (h : Row w g t cs) (hb : w.grownBy w' row) (hg : some g ≠ row) : Row w' g t cs := (hb.block g h.lt hg).trans h
end
theorem wpList_store_cells {P : Program} {ops : Array Oper} {rest : List Oper} {o : Oper} {a : Act} {w : World} {Q : Exit → Act → World → Prop} (hgd : o.guard = none) (ty : TypeId) (x y : Operand) (ho : o.op = .store ty x y)
    (g : Nat) (cs : List Value) (hx : a.eval x = .pointer (some ⟨g, 0, none⟩)) (hy : a.eval y = .agg cs.toArray)
    (t : TypeId) (old : Array Value) (hg : w.heap[g]? = some (.cells old t (0, 0))) (hl : old.size = cs.length) (hi : (P.info? ty).map (·.size) = some cs.length) (h1 : ∀ u ∈ cs, u.oneCell' = true)
    (h : ∀ w', Row w' g t cs → w.grownBy w' (some g) → wpList P ops Q rest (a.put o.dst undef) w') : wpList P ops Q (o :: rest) a w :=
  wpList_store_row hgd ty x y ho g _ hx hy t old hg (by simpa using hi) (by simpa using hl) (by rw [Array.all_eq_true_iff_forall_mem]; intro v hv; exact h1 v (by simpa using hv)) (h _ (setRow_heap w g _ _ t _ hg) (grown_row _))
theorem LkV.one (x : LkV) : ∀ u ∈ x.cells, u.oneCell' = true := by
  intro u hu
  unfold LkV.cells at hu
  rcases List.mem_append.1 hu with h | h
  · rcases List.mem_append.1 h with h | h
    · simp only [List.mem_cons, List.not_mem_nil, or_false] at h
      rcases h with rfl | rfl <;> rfl
    · exact u8_one _ u h
  · rw [List.mem_singleton] at h
    subst h; rfl
/-- a slice of links -/
structure Lks (w : World) (B : Nat) (A : Option Addr) (n : Nat) (xs : List LkV) : Prop where
  len : xs.length = n
  all : ∀ x ∈ xs, x.ok w B
  rd : Rd w B 35 A n (xs.flatMap LkV.cells)
theorem Lks.below {w w' : World} {B n : Nat} {A : Option Addr} {xs : List LkV} (h : Lks w B A n xs) (hb : Below B w w') : Lks w' B A n xs :=
  ⟨h.len, fun x hx => (h.all x hx).below hb, h.rd.below hb⟩
theorem Lks.more {w : World} {B B' n : Nat} {A : Option Addr} {xs : List LkV} (h : Lks w B A n xs) (hB : B ≤ B') : Lks w B' A n xs :=
  ⟨h.len, fun x hx => (h.all x hx).more hB, h.rd.more hB⟩
theorem flat_at2 {α : Type} (f : α → List Value) (s : Nat) : ∀ (l : List α) (hs : ∀ x ∈ l, (f x).length = s) (k i : Nat) (x : α), l[k]? = some x → i < s → (l.flatMap f)[k * s + i]? = (f x)[i]?
  | [], _, k, i, x, h, _ => by simp at h
  | a :: l, hs, 0, i, x, h, hi => by
    simp at h
    subst h
    rw [List.flatMap_cons, List.getElem?_append_left (by rw [hs a (by simp)]; omega), Nat.zero_mul, Nat.zero_add]
  | a :: l, hs, k + 1, i, x, h, hi => by
    simp at h
    have ha := hs a (by simp)
    rw [List.flatMap_cons, List.getElem?_append_right (by rw [ha, Nat.succ_mul]; omega), ha, show (k + 1) * s + i - s = k * s + i by rw [Nat.succ_mul]; omega]
    exact flat_at2 f s l (fun y hy => hs y (by simp [hy])) k i x h hi
/-- where link k lies -/
theorem Lks.at {w : World} {B n : Nat} {A : Option Addr} {xs : List LkV} (h : Lks w B A n xs) {k : Nat} {x : LkV} (hx : xs[k]? = some x) :
    ∃ b o, A = some ⟨b, o, none⟩ ∧ b < B ∧ ∀ i v, x.cells[i]? = some v → w.cell? ⟨b, o + k * 35 + i, none⟩ = some v := by
  have hk : k < n := by have := (List.getElem?_eq_some_iff.1 hx).1; rw [h.len] at this; exact this
  obtain ⟨b, o, e, hb, hc⟩ := h.rd.2 (by omega)
  refine ⟨b, o, e, hb, fun i v hv => ?_⟩
  have hxm : x ∈ xs := List.mem_of_getElem? hx
  have hi : i < 35 := by have := (List.getElem?_eq_some_iff.1 hv).1; rwa [LkV.cells_length (h.all x hxm)] at this
  have := hc (k * 35 + i) v (by rw [flat_at2 LkV.cells 35 xs (fun y hy => LkV.cells_length (h.all y hy)) k i x hx hi, hv])
  rwa [← Nat.add_assoc] at this
theorem LkV.cell_n (x : LkV) : x.cells[0]? = some (.int .i64 x.node) := rfl
theorem LkV.cell_o (x : LkV) : x.cells[1]? = some (.int .i64 x.no) := rfl
theorem LkV.cell_p (x : LkV) (h : x.prev.length = 32) (i : Nat) (hi : i < 32) : x.cells[2 + i]? = some (.int .u8 (x.prev.getD i 0)) := by
  unfold LkV.cells
  rw [List.append_assoc, List.getElem?_append_right (by simp), List.getElem?_append_left (by simp; omega)]
  have hi' : i < x.prev.length := by omega
  simp [List.getD_eq_getElem?_getD, List.getElem?_eq_getElem hi']
theorem LkV.cell_d (x : LkV) (h : x.prev.length = 32) : x.cells[34]? = some (.slice x.A x.data.length x.c) := by
  unfold LkV.cells
  rw [List.getElem?_append_right (by simp [h])]
  simp [h]
namespace Ch
def noneS : ByteArray := ⟨#[110, 111, 110, 101]⟩
def linkS : ByteArray := ⟨#[108, 105, 110, 107]⟩
/-- the parts of a link's text -/
def parts (x : LkV) : List El := [.int x.node, .int x.no, .txt (toBA x.prev), .txt (toBA x.data)]
def text (x : LkV) : List Int := encEls (parts x)
/-- the head of a list of links -/
def head (K : Sh.Cst) (xs : List LkV) : List Int :=
  match xs.getLast? with
  | none => Sh.tagged K (strInts noneS) []
  | some x => Sh.tagged K (strInts linkS) (text x)
/-- what a link must be, for its head to be taken here -/
structure fit (x : LkV) : Prop where
  nr : -9223372036854775808 ≤ x.node ∧ x.node < 9223372036854775808
  or : -9223372036854775808 ≤ x.no ∧ x.no < 9223372036854775808
  dl : x.data.length ≤ 2000
theorem parts_ok {x : LkV} (h : fit x) (hp : x.prev.length = 32) : ∀ y ∈ parts x, y.ok := by
  intro y hy
  simp only [parts, List.mem_cons, List.not_mem_nil, or_false] at hy
  rcases hy with rfl | rfl | rfl | rfl
  · exact h.nr
  · exact h.or
  · show (toBA x.prev).size ≤ _; rw [toBA_size]; omega
  · show (toBA x.data).size ≤ _; rw [toBA_size]; exact h.dl
theorem numL_byt : ∀ (u : Nat), ∀ x ∈ Cd.numL u, 0 ≤ x ∧ x < 256 := by
  intro u
  induction u using Nat.strongRecOn with
  | ind u ih =>
    intro x hx
    by_cases h : u < 128
    · rw [Cd.numL_small h] at hx
      obtain rfl : x = u := by simpa using hx
      omega
    · rw [Cd.numL_big h] at hx
      rcases List.mem_cons.1 hx with rfl | hx
      · have e : ∀ n : Int, 0 ≤ IntKind.u8.wrap n ∧ IntKind.u8.wrap n < 256 := fun n => by
          rw [show IntKind.u8.wrap n = n % 256 by simp [IntKind.wrap, IntKind.bits, IntKind.signed]]
          omega
        exact e _
      · exact ih (u / 128) (by omega) x hx
theorem el_enc_bytes (y : El) : ∀ b ∈ y.enc, 0 ≤ b ∧ b < 256 := by
  intro b hb
  cases y with
  | int z =>
    simp only [El.enc, List.mem_cons] at hb
    rcases hb with rfl | hb
    · decide
    · exact numL_byt _ b hb
  | txt s =>
    simp only [El.enc, List.mem_append, List.mem_singleton] at hb
    rcases hb with (rfl | hb) | hb
    · decide
    · exact numL_byt _ b hb
    · exact strInts_byt s b hb
theorem text_bytes (x : LkV) : ∀ b ∈ text x, 0 ≤ b ∧ b < 256 := by
  intro b hb
  simp only [text, encEls, List.mem_append, List.mem_singleton, List.mem_flatMap] at hb
  rcases hb with (rfl | hb) | ⟨y, _, hb⟩
  · decide
  · exact numL_byt _ b hb
  · exact el_enc_bytes y b hb
theorem text_length {x : LkV} (h : fit x) (hp : x.prev.length = 32) : (text x).length ≤ 10000 := by
  have := flat_len (l := parts x) (parts_ok h hp)
  have h2 := Cd.numL_ten (u := 4) (by omega)
  have h3 : (parts x).length = 4 := rfl
  unfold text encEls
  rw [h3] at this ⊢
  simp only [List.length_append, List.length_cons, List.length_nil]
  omega
end Ch
theorem rd_four (W : World) (a b : Int) (s u : ByteArray) (t : TypeId) : Rd (W.alloc (.cells #[.int .i64 1, .int .i64 a, .string ⟨#[]⟩, .slice none 0 0, .int .i64 1, .int .i64 b, .string ⟨#[]⟩, .slice none 0 0, .int .i64 2, .int .i64 0, .string s, .slice none 0 0, .int .i64 2, .int .i64 0, .string u, .slice none 0 0] t)) (W.heap.size + 1) 4 (some ⟨W.heap.size, 0, none⟩) 4 (elsCells [.int a, .int b, .txt s, .txt u]) := by
  refine ⟨rfl, fun _ => ⟨W.heap.size, 0, rfl, by omega, fun j v hv => ?_⟩⟩
  rw [cell_of_row _ W.heap.size (0 + j) _ _ _ (heap_alloc_new W _), Nat.zero_add]
  simpa [elsCells, El.cells] using hv
set_option maxRecDepth 100000 in
set_option maxHeartbeats 1000000 in
theorem head_none (K : Sh.Cst) (A : Option Addr) (c : Nat) (w : World) (hL : Laid w) :
    Calls Tryd.prog 15 #[.slice A 0 c] w fun e w' => e = .returned (.agg ((Sh.tagged K (strInts Ch.noneS) []).map (Value.int .u8)).toArray) ∧ Below w.heap.size w w' := by
  have ht := fun w hL => tagged_any K Ch.noneS none 0 0 [] w (by decide) ⟨rfl, fun h => absurd h (by omega)⟩ (by intro x hx; cases hx) (by omega) (by omega) (Nat.zero_le _) hL
  have hl := Sh.tagged_length K (strInts Ch.noneS) []
  obtain ⟨U, hU⟩ : ∃ U, Sh.tagged K (strInts Ch.noneS) [] = U := ⟨_, rfl⟩
  rw [hU] at ht hl ⊢
  have HUl := Lib.hid hl
  have HT := Lib.hid ht
  have hi73 : (Tryd.prog.info? 35).map (·.size) = some U.length := by rw [hl]; kernel_rfl
  have HI := Lib.hid hi73
  have hD := Ints.new w 35 .u8 (List.replicate 32 0)
  have hB := (Below.refl w.heap.size w).alloc (Nat.le_refl _) (.cells ((List.replicate 32 (0 : Int)).map (Value.int .u8)).toArray 35)
  have HF := Lib.hid (And.intro hD hB)
  clear ht hl hU hi73 hD hB
  go_enter Tryd.func15, Tryd.ntmps15
  go_wp2_with fail
  obtain ⟨hD, hB⟩ := HF.out
  refine (HT.out _ (hL.below hB hL.size)).mono ?_
  rintro e w1 ⟨rfl, hb1⟩
  have hD1 := hD.below hb1 hD.lt
  have hB1 := hB.trans (hb1.mono hB.size)
  clear HF hD hB hb1
  go_wp2_with (refine wpList_store_ints rfl 35 (.tmp 2) (.tmp 9) rfl w.heap.size .u8 U (by rfl) (by rfl) 35 _ hD1 (by rw [HUl.out]; rfl) HI.out ?_; intro w6 hD6 hg6)
  refine bodyPost_ret (results_cell_row rfl _ _ w.heap.size 35 _ (0, 0) _ (by rfl) hD6 Tryd.underlying35 (by rfl) (by simpa using HI.out)) rfl ?_
  exact ⟨rfl, hB1.grown hg6 hB1.size (fun g e => by injection e with e; omega)⟩
end Go.Proofs.YtpjggokaolnbcaaDoor
