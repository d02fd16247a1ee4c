/- The head of a chain. -/
import Derived.Test.YtpjggokaolnbcaaDoorLCodec4
namespace Go.Proofs.YtpjggokaolnbcaaDoor
open Go.RowKit
set_option linter.unusedVariables false
/-- block g is just these cells, none frozen -/
def Row (w : World) (g : Nat) (t : TypeId) (cs : List Value) : Prop := w.heap[g]? = some (.cells cs.toArray t (0, 0))
section
variable {w w' : World} {g : Nat} {t : TypeId} {cs : List Value}
theorem Row.lt (h : Row w g t cs) : g < w.heap.size := heap_lt h
theorem Row.cell (h : Row w g t cs) {i : Nat} {v : Value} (hv : cs[i]? = some v) : w.cell? ⟨g, i, none⟩ = some v := by
  rw [cell_of_row w g i _ t (0, 0) h]; simpa using hv
theorem Row.below {B : Nat} (h : Row w g t cs) (hb : Below B w w') (hg : g < B) : Row w' g t cs := (hb.block g hg).trans h
theorem Row.alloc (h : Row w g t cs) (o : Obj) : Row (w.alloc o) g t cs := (Below.heap_alloc w o g h.lt).trans h
theorem Row.grown {row : Option Nat} (h : Row w g t cs) (hb : w.grownBy w' row) (hg : some g ≠ row) : Row w' g t cs := (hb.block g h.lt hg).trans h
end
theorem wpList_store_cells {P : Program} {ops : Array Oper} {rest : List Oper} {o : Oper} {a : Act} {w : World} {Q : Exit → Act → World → Prop} (hgd : o.guard = none) (ty : TypeId) (x y : Operand) (ho : o.op = .store ty x y)
    (g : Nat) (cs : List Value) (hx : a.eval x = .pointer (some ⟨g, 0, none⟩)) (hy : a.eval y = .agg cs.toArray)
    (t : TypeId) (old : Array Value) (hg : w.heap[g]? = some (.cells old t (0, 0))) (hl : old.size = cs.length) (hi : (P.info? ty).map (·.size) = some cs.length) (h1 : ∀ u ∈ cs, u.oneCell' = true)
    (h : ∀ w', Row w' g t cs → w.grownBy w' (some g) → wpList P ops Q rest (a.put o.dst undef) w') : wpList P ops Q (o :: rest) a w :=
  wpList_store_row hgd ty x y ho g _ hx hy t old hg (by simpa using hi) (by simpa using hl) (by rw [Array.all_eq_true_iff_forall_mem]; intro v hv; exact h1 v (by simpa using hv)) (h _ (setRow_heap w g _ _ t _ hg) (grown_row _))
theorem LkV.one (x : LkV) : ∀ u ∈ x.cells, u.oneCell' = true := by
  intro u hu
  unfold LkV.cells at hu
  rcases List.mem_append.1 hu with h | h
  · rcases List.mem_append.1 h with h | h
    · simp only [List.mem_cons, List.not_mem_nil, or_false] at h
      rcases h with rfl | rfl <;> rfl
    · exact u8_one _ u h
  · rw [List.mem_singleton] at h
    subst h; rfl
/-- a slice of links -/
structure Lks (w : World) (B : Nat) (A : Option Addr) (n : Nat) (xs : List LkV) : Prop where
  len : xs.length = n
  all : ∀ x ∈ xs, x.ok w B
  rd : Rd w B 35 A n (xs.flatMap LkV.cells)
theorem Lks.below {w w' : World} {B n : Nat} {A : Option Addr} {xs : List LkV} (h : Lks w B A n xs) (hb : Below B w w') : Lks w' B A n xs :=
  ⟨h.len, fun x hx => (h.all x hx).below hb, h.rd.below hb⟩
theorem Lks.more {w : World} {B B' n : Nat} {A : Option Addr} {xs : List LkV} (h : Lks w B A n xs) (hB : B ≤ B') : Lks w B' A n xs :=
  ⟨h.len, fun x hx => (h.all x hx).more hB, h.rd.more hB⟩
theorem flat_at2 {α : Type} (f : α → List Value) (s : Nat) : ∀ (l : List α) (hs : ∀ x ∈ l, (f x).length = s) (k i : Nat) (x : α), l[k]? = some x → i < s → (l.flatMap f)[k * s + i]? = (f x)[i]?
  | [], _, k, i, x, h, _ => by simp at h
  | a :: l, hs, 0, i, x, h, hi => by
    simp at h
    subst h
    rw [List.flatMap_cons, List.getElem?_append_left (by rw [hs a (by simp)]; omega), Nat.zero_mul, Nat.zero_add]
  | a :: l, hs, k + 1, i, x, h, hi => by
    simp at h
    have ha := hs a (by simp)
    rw [List.flatMap_cons, List.getElem?_append_right (by rw [ha, Nat.succ_mul]; omega), ha, show (k + 1) * s + i - s = k * s + i by rw [Nat.succ_mul]; omega]
    exact flat_at2 f s l (fun y hy => hs y (by simp [hy])) k i x h hi
/-- where link k lies -/
theorem Lks.at {w : World} {B n : Nat} {A : Option Addr} {xs : List LkV} (h : Lks w B A n xs) {k : Nat} {x : LkV} (hx : xs[k]? = some x) :
    ∃ b o, A = some ⟨b, o, none⟩ ∧ b < B ∧ ∀ i v, x.cells[i]? = some v → w.cell? ⟨b, o + k * 35 + i, none⟩ = some v := by
  have hk : k < n := by have := (List.getElem?_eq_some_iff.1 hx).1; rw [h.len] at this; exact this
  obtain ⟨b, o, e, hb, hc⟩ := h.rd.2 (by omega)
  refine ⟨b, o, e, hb, fun i v hv => ?_⟩
  have hxm : x ∈ xs := List.mem_of_getElem? hx
  have hi : i < 35 := by have := (List.getElem?_eq_some_iff.1 hv).1; rwa [LkV.cells_length (h.all x hxm)] at this
  have := hc (k * 35 + i) v (by rw [flat_at2 LkV.cells 35 xs (fun y hy => LkV.cells_length (h.all y hy)) k i x hx hi, hv])
  rwa [← Nat.add_assoc] at this
theorem LkV.cell_n (x : LkV) : x.cells[0]? = some (.int .i64 x.node) := rfl
theorem LkV.cell_o (x : LkV) : x.cells[1]? = some (.int .i64 x.no) := rfl
theorem LkV.cell_p (x : LkV) (h : x.prev.length = 32) (i : Nat) (hi : i < 32) : x.cells[2 + i]? = some (.int .u8 (x.prev.getD i 0)) := by
  unfold LkV.cells
  rw [List.append_assoc, List.getElem?_append_right (by simp), List.getElem?_append_left (by simp; omega)]
  have hi' : i < x.prev.length := by omega
  simp [List.getD_eq_getElem?_getD, List.getElem?_eq_getElem hi']
theorem LkV.cell_d (x : LkV) (h : x.prev.length = 32) : x.cells[34]? = some (.slice x.A x.data.length x.c) := by
  unfold LkV.cells
  rw [List.getElem?_append_right (by simp [h])]
  simp [h]
namespace Ch
def noneS : ByteArray := ⟨#[110, 111, 110, 101]⟩
def linkS : ByteArray := ⟨#[108, 105, 110, 107]⟩
/-- the parts of a link's text -/
def parts (x : LkV) : List El := [.int x.node, .int x.no, .txt (toBA x.prev), .txt (toBA x.data)]
def text (x : LkV) : List Int := encEls (parts x)
/-- the head of a list of links -/
def head (K : Sh.Cst) (xs : List LkV) : List Int :=
  match xs.getLast? with
  | none => Sh.tagged K (strInts noneS) []
  | some x => Sh.tagged K (strInts linkS) (text x)
/-- what a link must be, for its head to be taken here -/
structure fit (x : LkV) : Prop where
  nr : -9223372036854775808 ≤ x.node ∧ x.node < 9223372036854775808
  or : -9223372036854775808 ≤ x.no ∧ x.no < 9223372036854775808
  dl : x.data.length ≤ 2000
theorem parts_ok {x : LkV} (h : fit x) (hp : x.prev.length = 32) : ∀ y ∈ parts x, y.ok := by
  intro y hy
  simp only [parts, List.mem_cons, List.not_mem_nil, or_false] at hy
  rcases hy with rfl | rfl | rfl | rfl
  · exact h.nr
  · exact h.or
  · show (toBA x.prev).size ≤ _; rw [toBA_size]; omega
  · show (toBA x.data).size ≤ _; rw [toBA_size]; exact h.dl
theorem numL_byt : ∀ (u : Nat), ∀ x ∈ Cd.numL u, 0 ≤ x ∧ x < 256 := by
  intro u
  induction u using Nat.strongRecOn with
  | ind u ih =>
    intro x hx
    by_cases h : u < 128
    · rw [Cd.numL_small h] at hx
      obtain rfl : x = u := by simpa using hx
      omega
    · rw [Cd.numL_big h] at hx
      rcases List.mem_cons.1 hx with rfl | hx
      · have e : ∀ n : Int, 0 ≤ IntKind.u8.wrap n ∧ IntKind.u8.wrap n < 256 := fun n => by
          rw [show IntKind.u8.wrap n = n % 256 by simp [IntKind.wrap, IntKind.bits, IntKind.signed]]
          omega
        exact e _
      · exact ih (u / 128) (by omega) x hx
theorem el_enc_bytes (y : El) : ∀ b ∈ y.enc, 0 ≤ b ∧ b < 256 := by
  intro b hb
  cases y with
  | int z =>
    simp only [El.enc, List.mem_cons] at hb
    rcases hb with rfl | hb
    · decide
    · exact numL_byt _ b hb
  | txt s =>
    simp only [El.enc, List.mem_append, List.mem_singleton] at hb
    rcases hb with (rfl | hb) | hb
    · decide
    · exact numL_byt _ b hb
    · exact strInts_byt s b hb
theorem text_bytes (x : LkV) : ∀ b ∈ text x, 0 ≤ b ∧ b < 256 := by
  intro b hb
  simp only [text, encEls, List.mem_append, List.mem_singleton, List.mem_flatMap] at hb
  rcases hb with (rfl | hb) | ⟨y, _, hb⟩
  · decide
  · exact numL_byt _ b hb
  · exact el_enc_bytes y b hb
theorem text_length {x : LkV} (h : fit x) (hp : x.prev.length = 32) : (text x).length ≤ 10000 := by
  have := flat_len (l := parts x) (parts_ok h hp)
  have h2 := Cd.numL_ten (u := 4) (by omega)
  have h3 : (parts x).length = 4 := rfl
  unfold text encEls
  rw [h3] at this ⊢
  simp only [List.length_append, List.length_cons, List.length_nil]
  omega
end Ch
theorem rd_four (W : World) (a b : Int) (s u : ByteArray) (t : TypeId) : Rd (W.alloc (.cells #[.int .i64 1, .int .i64 a, .string ⟨#[]⟩, .slice none 0 0, .int .i64 1, .int .i64 b, .string ⟨#[]⟩, .slice none 0 0, .int .i64 2, .int .i64 0, .string s, .slice none 0 0, .int .i64 2, .int .i64 0, .string u, .slice none 0 0] t)) (W.heap.size + 1) 4 (some ⟨W.heap.size, 0, none⟩) 4 (elsCells [.int a, .int b, .txt s, .txt u]) := by
  refine ⟨rfl, fun _ => ⟨W.heap.size, 0, rfl, by omega, fun j v hv => ?_⟩⟩
  rw [cell_of_row _ W.heap.size (0 + j) _ _ _ (heap_alloc_new W _), Nat.zero_add]
  simpa [elsCells, El.cells] using hv
set_option maxRecDepth 100000 in
set_option maxHeartbeats 1000000 in
theorem head_none (K : Sh.Cst) (A : Option Addr) (c : Nat) (w : World) (hL : Laid w) :
    Calls Tryd.prog 15 #[.slice A 0 c] w fun e w' => e = .returned (.agg ((Sh.tagged K (strInts Ch.noneS) []).map (Value.int .u8)).toArray) ∧ Below w.heap.size w w' := by
  have ht := fun w hL => tagged_any K Ch.noneS none 0 0 [] w (by decide) ⟨rfl, fun h => absurd h (by omega)⟩ (by intro x hx; cases hx) (by omega) (by omega) (Nat.zero_le _) hL
  have hl := Sh.tagged_length K (strInts Ch.noneS) []
  obtain ⟨U, hU⟩ : ∃ U, Sh.tagged K (strInts Ch.noneS) [] = U := ⟨_, rfl⟩
  rw [hU] at ht hl ⊢
  have HUl := Lib.hid hl
  have HT := Lib.hid ht
  have hi73 : (Tryd.prog.info? 35).map (·.size) = some U.length := by rw [hl]; kernel_rfl
  have HI := Lib.hid hi73
  have hD := Ints.new w 35 .u8 (List.replicate 32 0)
  have hB := (Below.refl w.heap.size w).alloc (Nat.le_refl _) (.cells ((List.replicate 32 (0 : Int)).map (Value.int .u8)).toArray 35)
  have HF := Lib.hid (And.intro hD hB)
  clear ht hl hU hi73 hD hB
  go_enter Tryd.func15, Tryd.ntmps15
  go_wp2_with fail
  obtain ⟨hD, hB⟩ := HF.out
  refine (HT.out _ (hL.below hB hL.size)).mono ?_
  rintro e w1 ⟨rfl, hb1⟩
  have hD1 := hD.below hb1 hD.lt
  have hB1 := hB.trans (hb1.mono hB.size)
  clear HF hD hB hb1
  go_wp2_with (refine wpList_store_ints rfl 35 (.tmp 2) (.tmp 9) rfl w.heap.size .u8 U (by rfl) (by rfl) 35 _ hD1 (by rw [HUl.out]; rfl) HI.out ?_; intro w6 hD6 hg6)
  refine bodyPost_ret (results_cell_row rfl _ _ w.heap.size 35 _ (0, 0) _ (by rfl) hD6 Tryd.underlying35 (by rfl) (by simpa using HI.out)) rfl ?_
  exact ⟨rfl, hB1.grown hg6 hB1.size (fun g e => by injection e with e; omega)⟩
end Go.Proofs.YtpjggokaolnbcaaDoor
/- The head of a chain that has links. -/
namespace Go.Proofs.YtpjggokaolnbcaaDoor
open Go.RowKit
set_option linter.unusedVariables false
theorem info_link : (Tryd.prog.info? 37).map (·.size) = some 35 := by kernel_rfl
set_option maxRecDepth 100000 in
set_option maxHeartbeats 2000000 in
theorem head_link (K : Sh.Cst) (x : LkV) (b o n k c : Nat) (w : World) (hk : n = k + 1) (hn : n ≤ 1000000) (hc : ∀ i v, x.cells[i]? = some v → w.cell? ⟨b, o + k * 35 + i, none⟩ = some v) (hok : x.ok w w.heap.size) (hf : Ch.fit x) (hL : Laid w) :
    Calls Tryd.prog 15 #[.slice (some ⟨b, o, none⟩) n c] w fun e w' => e = .returned (.agg ((Sh.tagged K (strInts Ch.linkS) (Ch.text x)).map (Value.int .u8)).toArray) ∧ Below w.heap.size w w' := by
  have hnum := number_any
  have htx := text_any
  have hls := clist_any
  have hen := fun g c w h1 h2 => encode_list g c 4 (Ch.parts x) w rfl (by omega) (by omega) (Ch.parts_ok hf hok.plen) h1 h2
  have htl := Ch.text_length hf hok.plen
  have htb := Ch.text_bytes x
  unfold Ch.parts at hen
  obtain ⟨a, ha⟩ : ∃ a : Int, x.node = a := ⟨_, rfl⟩
  obtain ⟨d, hd⟩ : ∃ d : Int, x.no = d := ⟨_, rfl⟩
  obtain ⟨E, hE⟩ : ∃ E, Ch.text x = E := ⟨_, rfl⟩
  have hE2 : encEls [.int a, .int d, .txt (toBA x.prev), .txt (toBA x.data)] = E := by rw [← hE, ← ha, ← hd]; rfl
  have htt := fun A n c w h1 h2 h3 hL => tagged_any K Ch.linkS A n c E w (by decide) h1 (by rw [← hE]; exact htb) h2 h3 hL
  rw [ha, hd, hE2] at hen
  rw [hE] at htl htb ⊢
  have htp := fun A n c w h => htx A n c x.prev w h
  have htd := fun A n c w h => htx A n c x.data w h
  obtain ⟨SP, hSP⟩ : ∃ S, toBA x.prev = S := ⟨_, rfl⟩
  obtain ⟨SD, hSD⟩ : ∃ S, toBA x.data = S := ⟨_, rfl⟩
  rw [hSP, hSD] at hen
  rw [hSP] at htp
  rw [hSD] at htd
  unfold intV at hnum
  unfold txtV at htp htd
  unfold listV at hls hen
  have hUl := Sh.tagged_length K (strInts Ch.linkS) E
  obtain ⟨U, hU⟩ : ∃ U, Sh.tagged K (strInts Ch.linkS) E = U := ⟨_, rfl⟩
  rw [hU] at htt hUl ⊢
  have HTT := Lib.hid htt
  have HEN := Lib.hid hen
  have HTP := Lib.hid htp
  have HTD := Lib.hid htd
  have HNUM := Lib.hid hnum
  have HLS := Lib.hid hls
  have HTL := Lib.hid htl
  have HUl := Lib.hid hUl
  have HAD := Lib.hid (And.intro ha hd)
  clear htt hen htp htd hnum hls htl htb hUl hU hE hE2 hSP hSD htx ha hd
  have hz : (((n : Int) == 0) : Bool) = false := by simp; omega
  have e1 : (n : Int) - 1 = (k : Int) := by omega
  have k1 : (k : Int) < n := by omega
  have hbl : b < w.heap.size := World.block_lt_of_cell? w _ (hc 0 _ x.cell_n)
  have hlen := LkV.cells_length hok
  have hone := x.one
  have hD := Ints.new w 35 .u8 (List.replicate 32 0)
  have hB := (Below.refl w.heap.size w).alloc (Nat.le_refl _) (.cells ((List.replicate 32 (0 : Int)).map (Value.int .u8)).toArray 35)
  have hcw : ∀ (j : Nat) (v : Value), x.cells[j]? = some v → (w.alloc (.cells ((List.replicate 32 (0 : Int)).map (Value.int .u8)).toArray 35)).cell? ((⟨b, o + k * 35, none⟩ : Addr).add j) = some v := fun j v hv => by
    rw [Addr.add_flat]
    exact (hB.cell (p := ⟨b, o + k * 35 + j, none⟩) hbl).trans (hc j v hv)
  have c0 := x.cell_n
  have c1 := x.cell_o
  have cd := x.cell_d hok.plen
  have cp := fun i hi => x.cell_p hok.plen i hi
  obtain ⟨CS, hCS⟩ : ∃ CS, x.cells = CS := ⟨_, rfl⟩
  rw [hCS] at hlen hone hcw c0 c1 cd cp
  have HLEN := Lib.hid hlen
  have HI : Hid ((Tryd.prog.info? 37).map (·.size) = some CS.length) := by show _ = _; rw [hlen]; exact info_link
  have HCW := Lib.hid hcw
  have HONE := Lib.hid hone
  have HCC := Lib.hid (And.intro c0 (And.intro c1 (And.intro cd cp)))
  have HDB := Lib.hid (And.intro hD hB)
  clear hCS hlen hone hcw c0 c1 cd cp hc hD hB hk
  go_enter Tryd.func15, Tryd.ntmps15
  go_wp2_with (first
    | (refine wpList_load_cells rfl 37 (.tmp 14) rfl ⟨b, o + k * 35, none⟩ (by rfl) CS _ HCW.out Tryd.underlying37 (by rfl) HI.out ?_)
    | (obtain ⟨hD, hB⟩ := HDB.out; refine wpList_store_cells rfl 37 (.tmp 3) (.tmp 15) rfl (w.heap.size + 1) CS (by rfl) (by rfl) 37 _ (by have h := heap_alloc_new (w.alloc (.cells ((List.replicate 32 (0 : Int)).map (Value.int .u8)).toArray 35)) (.cells (#[.int .i64 0, .int .i64 0] ++ ((List.replicate 32 (0 : Int)).map (Value.int .u8)).toArray ++ #[.slice none 0 0]) 37); rw [World.size_alloc] at h; exact h) (by rw [HLEN.out]; rfl) HI.out HONE.out ?_; intro w2 hR2 hg2)
    | fail)
  have hX1 := hR2.lt
  have hBw : Below w.heap.size w w2 := (hB.alloc hB.size _).grown hg2 (by simp; omega) (fun k e => by injection e with e; omega)
  have hDw : Ints w2 w.heap.size 35 .u8 (List.replicate 32 0) := (hD.alloc _).grown hg2 (by simp)
  obtain ⟨c0, c1, cd, cp⟩ := HCC.out
  have q0 := hR2.cell c0
  have q1 := hR2.cell c1
  have qd := hR2.cell cd
  rw [HAD.out.1] at q0
  rw [HAD.out.2] at q1
  have hRp : Rd w2 (w.heap.size + 1 + 1) 1 (some ⟨w.heap.size + 1, 2, none⟩) 32 (x.prev.map (Value.int .u8)) := by
    refine ⟨by simp [hok.plen], fun _ => ⟨w.heap.size + 1, 2, rfl, by omega, fun j v hv => ?_⟩⟩
    rw [List.getElem?_map, Option.map_eq_some_iff] at hv
    obtain ⟨y, hy, rfl⟩ := hv
    have hj : j < 32 := by have := (List.getElem?_eq_some_iff.1 hy).1; rwa [hok.plen] at this
    have h := hR2.cell (cp j hj)
    rw [List.getD_eq_getElem?_getD, hy] at h
    exact h
  have hRd := hok.rd.below hBw
  have hK := (Below.refl (w.heap.size + 1 + 1) w2).drew
  have HRP := Lib.hid hRp
  have HRD := Lib.hid hRd
  have HBD := Lib.hid (And.intro hBw hDw)
  clear hg2 hD hB HDB c0 c1 cd cp HCC hRp hRd hBw hDw HCW
  go_region_held3 (fun w' => w'.cell? ⟨w.heap.size + 1, 0, none⟩ = some (.int .i64 a) ∧ w'.cell? ⟨w.heap.size + 1, 1, none⟩ = some (.int .i64 d) ∧ w'.cell? ⟨w.heap.size + 1, 34, none⟩ = some (.slice x.A x.data.length x.c))
    (first
      | (go_keep; done)
      | exact ⟨(hK.cell (p := ⟨w.heap.size + 1, 0, none⟩) (Nat.lt_succ_self _)).trans q0, (hK.cell (p := ⟨w.heap.size + 1, 1, none⟩) (Nat.lt_succ_self _)).trans q1, (hK.cell (p := ⟨w.heap.size + 1, 34, none⟩) (Nat.lt_succ_self _)).trans qd⟩)
    ((first
      | (go_at_call 28; (refine (HNUM.out _ _).mono ?_); rintro e wn ⟨rfl, hb⟩; have hK := hK.trans (hb.mono (Nat.le_trans hX1 hK.size)))
      | (go_at_call 29; (with_reducible refine (HTP.out _ _ _ _ ((HRP.out.below hK).more (Nat.le_trans hX1 hK.size))).mono ?_); rintro e wn ⟨rfl, hb⟩; have hK := hK.trans (hb.mono (Nat.le_trans hX1 hK.size)))
      | (go_at_call 29; (with_reducible refine (HTD.out _ _ _ _ ((HRD.out.below (hK.mono (by omega))).more (by have := hK.size; omega))).mono ?_); rintro e wn ⟨rfl, hb⟩; have hK := hK.trans (hb.mono (Nat.le_trans hX1 hK.size)))
      | (go_at_call 27; (refine (HLS.out _ _ _ _).mono ?_); rintro e wn ⟨rfl, hb⟩; have hE := ((rd_four _ a d SP SD _).below (hb.mono (by simp))).more (by have := hb.size; simpa using this); have hK := (hK.alloc (Nat.le_trans hX1 hK.size) _).trans (hb.mono (by have := hK.size; simp; omega)))
      | (go_at_call 26; (refine (HEN.out _ _ _ hE (by omega)).mono ?_); rintro e wn ⟨A5, c5, rfl, hR5, hl5, hc5, hb⟩; have hK := hK.trans (hb.mono (Nat.le_trans hX1 hK.size)))
      | fail))
  obtain ⟨hBw, hDw⟩ := HBD.out
  have hBn := hBw.trans (hK.mono (by omega))
  have hDn := hDw.below hK (by omega)
  have hLn := hL.below hBn hL.size
  have HF := Lib.hid (And.intro hR5 (And.intro hl5 (And.intro hc5 hLn)))
  have HI73 : Hid ((Tryd.prog.info? 35).map (·.size) = some U.length) := by show _ = _; rw [HUl.out]; kernel_rfl
  clear q0 q1 qd hR5 hl5 hc5 hLn hb hBw hDw hK HBD HRP HRD
  obtain ⟨ln, hln⟩ : ∃ ln, E.length = ln := ⟨_, rfl⟩
  rw [hln] at HF HTL ⊢
  clear hln
  go_wp2_with fail
  refine (HTT.out A5 ln c5 _ HF.out.1 (by have := HTL.out; omega) HF.out.2.1 HF.out.2.2.1 HF.out.2.2.2).mono ?_
  rintro e w7 ⟨rfl, hb7⟩
  have hD7 := hDn.below hb7 hDn.lt
  have hB7 := hBn.trans (hb7.mono hBn.size)
  clear HF hb7 hDn hBn
  go_wp2_with (refine wpList_store_ints rfl 35 (.tmp 2) (.tmp 35) rfl w.heap.size .u8 U (by rfl) (by rfl) 35 _ hD7 (by rw [HUl.out]; rfl) HI73.out ?_; intro w8 hD8 hg8)
  refine bodyPost_ret (results_cell_row rfl _ _ w.heap.size 35 _ (0, 0) _ (by rfl) hD8 Tryd.underlying35 (by rfl) (by simpa using HI73.out)) rfl ?_
  exact ⟨rfl, hB7.grown hg8 hB7.size (fun g e => by injection e with e; omega)⟩
/-- the head of a list of links, where the last one is fit -/
theorem head_any (K : Sh.Cst) (A : Option Addr) (n c : Nat) (xs : List LkV) (w : World) (h : Lks w w.heap.size A n xs) (hn : n ≤ 1000000) (hf : ∀ x, xs.getLast? = some x → Ch.fit x) (hL : Laid w) :
    Calls Tryd.prog 15 #[.slice A n c] w fun e w' => e = .returned (.agg ((Ch.head K xs).map (Value.int .u8)).toArray) ∧ Below w.heap.size w w' := by
  rcases Nat.eq_zero_or_pos n with h0 | h0
  · subst h0
    obtain rfl : xs = [] := List.eq_nil_of_length_eq_zero h.len
    exact head_none K A c w hL
  · obtain ⟨k, rfl⟩ : ∃ k, n = k + 1 := ⟨n - 1, by omega⟩
    obtain ⟨x, hx⟩ : ∃ x, xs[k]? = some x := ⟨_, List.getElem?_eq_getElem (by rw [h.len]; omega)⟩
    have hlast : xs.getLast? = some x := by
      rw [List.getLast?_eq_getElem?, h.len]
      exact hx
    obtain ⟨b, o, rfl, _, hc⟩ := h.at hx
    have e : Ch.head K xs = Sh.tagged K (strInts Ch.linkS) (Ch.text x) := by unfold Ch.head; rw [hlast]
    rw [e]
    exact head_link K x b o (k + 1) k c w rfl hn hc (h.all x (List.mem_of_getElem? hx)) (hf x hlast) hL
end Go.Proofs.YtpjggokaolnbcaaDoor
