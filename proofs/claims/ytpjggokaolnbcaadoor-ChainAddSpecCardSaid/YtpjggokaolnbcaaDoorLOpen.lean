/- A slice of links that came in, opened to Lks. -/
import Derived.Test.YtpjggokaolnbcaaDoorLHead2
import Derived.OpenShut
import Derived.ChangeSlices
import Derived.Deep.SlicePairs
namespace Go.Proofs.YtpjggokaolnbcaaDoor
open Go.ChangeShapes Go.WideShapes Go.Deep Go.RowKit
set_option linter.unusedVariables false
theorem block_lt' {w : World} {a : Addr} {v : Value} (h : w.cell? a = some v) : a.block < w.heap.size := by
  rcases Nat.lt_or_ge a.block w.heap.size with h1 | h1
  · exact h1
  · have h2 : w.heap[a.block]? = none := Array.getElem?_eq_none_iff.2 h1
    simp [World.cell?, h2] at h
theorem add_none (b o k : Nat) : Addr.add ⟨b, o, none⟩ k = ⟨b, o + k, none⟩ := by
  unfold Addr.add
  split
  · rename_i h; rw [h]; rfl
  · rfl
theorem wf_u8 {t : Int} (h : (Lit.int .u8 t).wf = true) : 0 ≤ t ∧ t < 256 := by
  simp only [Lit.wf, Bool.and_eq_true, decide_eq_true_eq] at h
  have e1 : IntKind.u8.min = 0 := by decide
  have e2 : IntKind.u8.max = 255 := by decide
  omega
theorem wf_i64 {t : Int} (h : (Lit.int .i64 t).wf = true) : -9223372036854775808 ≤ t ∧ t < 9223372036854775808 := by
  simp only [Lit.wf, Bool.and_eq_true, decide_eq_true_eq] at h
  have e1 : IntKind.i64.min = -9223372036854775808 := by decide
  have e2 : IntKind.i64.max = 9223372036854775807 := by decide
  omega
section
variable {H : Type} {enc : TypeId × Value → H} {W : World} {base : Nat} {spare : Nat → Bool} {held : Bool} {fuel : Nat}
/-- bytes -/
theorem open_u8s {v : Value} {x : DataW H × List MemPlace} (hf : DataW.trod enc Tryd.prog W base spare held fuel 23 [v] = some x) :
    ∃ (A : Option Addr) (c : Nat) (z : List Int), v = .slice A z.length c ∧ Rd W W.heap.size 1 A z.length (z.map (Value.int .u8)) ∧ z.length ≤ c ∧ c ≤ maxLen ∧ ∀ b ∈ z, 0 ≤ b ∧ b < 256 := by
  rcases open_ints Tryd.underlying23 Tryd.underlying5 (by kernel_rfl) hf with ⟨hcs, _⟩ | ⟨a, l, k, zs, hcs, _, hl, hm, hz, _, hcell, hwz⟩
  · obtain rfl : v = .slice none 0 0 := by simpa using hcs
    exact ⟨none, 0, [], rfl, Rd.nil_, Nat.le_refl _, Nat.zero_le _, fun _ h => by cases h⟩
  · obtain rfl : v = .slice (some a) l k := by simpa using hcs
    have hle : l ≤ zs.length := by rw [hz]; split <;> omega
    have hlt : (zs.take l).length = l := by simp; omega
    refine ⟨some a, k, zs.take l, by rw [hlt], ⟨by simp, fun hn => ?_⟩, by omega, hm, fun b hb => wf_u8 (hwz b (List.mem_of_mem_take hb))⟩
    rw [hlt] at hn
    obtain ⟨b, o, sp⟩ := a
    have hc := hcell 0 (by omega)
    have hs : sp = none := by simpa [Addr.add] using World.cell?_spot hc
    subst hs
    refine ⟨b, o, rfl, by simpa [Addr.add] using block_lt' hc, fun j u hu => ?_⟩
    rw [List.getElem?_map, Option.map_eq_some_iff] at hu
    obtain ⟨v, hv, rfl⟩ := hu
    have hj : j < l := by have := (List.getElem?_eq_some_iff.1 hv).1; simp at this; omega
    have := hcell j (by omega)
    rw [add_none] at this
    rw [this]
    rw [List.getElem?_take, if_pos hj] at hv
    simp [List.getD, hv]
/-- a digest -/
theorem open_dig {cs : List Value} {x : DataW H × List MemPlace} (hf : DataW.trod enc Tryd.prog W base spare held fuel 35 cs = some x) :
    ∃ z : List Int, cs = z.map (Value.int .u8) ∧ z.length = 32 ∧ ∀ b ∈ z, 0 ≤ b ∧ b < 256 := by
  obtain ⟨xs, m, _, _, hl, hxl, hx⟩ := DataW.trod_array Tryd.underlying35 hf
  rw [show Tryd.prog.cellsOf 35 = 32 by kernel_rfl] at hl
  rw [show Tryd.prog.cellsOf 5 = 1 by kernel_rfl] at hx
  have each : ∀ i, i < 32 → ∃ n : Int, cs[i]? = some (.int .u8 n) ∧ 0 ≤ n ∧ n < 256 := by
    intro i hi
    have h1 := hx i hi
    obtain ⟨y, hy⟩ : ∃ y, xs[i]? = some y := ⟨_, List.getElem?_eq_getElem (by omega)⟩
    rw [hy] at h1
    obtain ⟨n, e, _, hw⟩ := DataW.trod_int Tryd.underlying5 h1
    refine ⟨n, ?_, wf_u8 hw⟩
    have h2 : ((cs.drop (i * 1)).take 1)[0]? = some (.int .u8 n) := by rw [e]; rfl
    simpa using h2
  have each' : ∀ i : Nat, ∃ n : Int, i < 32 → cs[i]? = some (.int .u8 n) ∧ 0 ≤ n ∧ n < 256 := by
    intro i
    by_cases h : i < 32
    · obtain ⟨q, hq⟩ := each i h
      exact ⟨q, fun _ => hq⟩
    · exact ⟨0, fun h' => absurd h' h⟩
  obtain ⟨f, hf'⟩ := Classical.axiomOfChoice each'
  refine ⟨(List.range 32).map f, ?_, by simp, fun b hb => ?_⟩
  · apply List.ext_getElem?
    intro i
    by_cases h : i < 32
    · rw [(hf' i h).1]; simp [h]
    · rw [List.getElem?_eq_none (by omega), List.getElem?_eq_none (by simp; omega)]
  · obtain ⟨i, hi, rfl⟩ := List.mem_map.1 hb
    exact (hf' i (List.mem_range.1 hi)).2
/-- what the numbers of a link that came in keep to -/
def LkV.wide (x : LkV) : Prop := (-9223372036854775808 ≤ x.node ∧ x.node < 9223372036854775808) ∧ (-9223372036854775808 ≤ x.no ∧ x.no < 9223372036854775808)
theorem open_link {cs : List Value} {x : DataW H × List MemPlace} (hf : DataW.trod enc Tryd.prog W base spare held fuel 37 cs = some x) :
    ∃ y : LkV, cs = y.cells ∧ y.ok W W.heap.size ∧ y.wide := by
  obtain ⟨xs, m, _, _, hl, hxl, hx⟩ := DataW.trod_struct Tryd.underlying37 hf
  rw [show Tryd.prog.cellsOf 37 = 35 by kernel_rfl] at hl
  have c1 : Tryd.prog.cellsOf 3 = 1 := by kernel_rfl
  have c2 : Tryd.prog.cellsOf 35 = 32 := by kernel_rfl
  have c3 : Tryd.prog.cellsOf 23 = 1 := by kernel_rfl
  have hxl' : xs.length = 4 := hxl
  have g0 := hx 0 _ rfl
  have g1 := hx 1 _ rfl
  have g2 := hx 2 _ rfl
  have g3 := hx 3 _ rfl
  obtain ⟨y0, e0⟩ : ∃ y, xs[0]? = some y := ⟨_, List.getElem?_eq_getElem (by omega)⟩
  obtain ⟨y1, e1⟩ : ∃ y, xs[1]? = some y := ⟨_, List.getElem?_eq_getElem (by omega)⟩
  obtain ⟨y2, e2⟩ : ∃ y, xs[2]? = some y := ⟨_, List.getElem?_eq_getElem (by omega)⟩
  obtain ⟨y3, e3⟩ : ∃ y, xs[3]? = some y := ⟨_, List.getElem?_eq_getElem (by omega)⟩
  rw [e0] at g0
  rw [e1] at g1
  rw [e2] at g2
  rw [e3] at g3
  replace g0 : DataW.trod enc Tryd.prog W base spare held m 3 ((cs.drop 0).take (Tryd.prog.cellsOf 3)) = some y0 := g0
  replace g1 : DataW.trod enc Tryd.prog W base spare held m 3 ((cs.drop 1).take (Tryd.prog.cellsOf 3)) = some y1 := g1
  replace g2 : DataW.trod enc Tryd.prog W base spare held m 35 ((cs.drop 2).take (Tryd.prog.cellsOf 35)) = some y2 := g2
  replace g3 : DataW.trod enc Tryd.prog W base spare held m 23 ((cs.drop 34).take (Tryd.prog.cellsOf 23)) = some y3 := g3
  rw [c1] at g0 g1
  rw [c2] at g2
  rw [c3] at g3
  obtain ⟨a, ea, _, wa⟩ := DataW.trod_int Tryd.underlying3 g0
  obtain ⟨b, eb, _, wb⟩ := DataW.trod_int Tryd.underlying3 g1
  obtain ⟨p, ep, hp, wp⟩ := open_dig g2
  obtain ⟨v, ev⟩ : ∃ v, (cs.drop 34).take 1 = [v] := by
    have h : ((cs.drop 34).take 1).length = 1 := by simp; omega
    exact List.length_eq_one_iff.1 h
  rw [ev] at g3
  obtain ⟨A, c, z, rfl, hr, hzc, hcm, hzb⟩ := open_u8s g3
  refine ⟨⟨a, b, p, z, A, c⟩, ?_, ⟨hp, wp, hzb, hr, hzc, hcm⟩, wf_i64 wa, wf_i64 wb⟩
  have k1 : cs.drop 34 = [.slice A z.length c] := by rw [← ev]; exact (List.take_of_length_le (by simp; omega)).symm
  have k2 : cs.drop 2 = p.map (Value.int .u8) ++ [.slice A z.length c] := by
    rw [← List.take_append_drop 32 (cs.drop 2), ep, List.drop_drop, k1]
  have k3 : cs.drop 1 = .int .i64 b :: (p.map (Value.int .u8) ++ [.slice A z.length c]) := by
    rw [← List.take_append_drop 1 (cs.drop 1), eb, List.drop_drop, k2]; rfl
  have k4 : cs.drop 0 = .int .i64 a :: .int .i64 b :: (p.map (Value.int .u8) ++ [.slice A z.length c]) := by
    rw [← List.take_append_drop 1 (cs.drop 0), ea, List.drop_drop, k3]; rfl
  rw [List.drop_zero] at k4
  rw [k4]
  rfl
theorem open_links {d : DataW H} {p : List MemPlace} {a : Option Addr} {n c : Nat}
    (h : DataW.Trod enc Tryd.prog W base spare held 22 (.slice a n c) d p) :
    ∃ L : List LkV, Lks W W.heap.size a n L ∧ n ≤ c ∧ (a = none → c = 0) ∧ ∀ x ∈ L, x.wide := by
  obtain ⟨fuel, hf⟩ := h
  rcases open_slice Tryd.underlying22 hf with ⟨hcs, _⟩ | ⟨x, l, k, m, _, D, Pl, hcs, _, hl, hm, hz, _, hi⟩
  · simp [Value.cells] at hcs
    obtain ⟨rfl, rfl, rfl⟩ := hcs
    exact ⟨[], ⟨rfl, (fun x hx => by cases hx), ⟨(Nat.zero_mul _).symm, fun h => absurd h (by omega)⟩⟩, Nat.le_refl _, fun _ => rfl, fun _ h => by cases h⟩
  · simp [Value.cells] at hcs
    obtain ⟨rfl, rfl, rfl⟩ := hcs
    have hle : n ≤ m := by rw [hz]; split <;> omega
    have ce : Tryd.prog.cellsOf 37 = 35 := by kernel_rfl
    have each : ∀ i, i < n → ∃ y : LkV, y.ok W W.heap.size ∧ y.wide ∧ ∀ j, j < 35 → W.cell? ((x.add (i * 35)).add j) = y.cells[j]? := by
      intro i hin
      obtain ⟨cs', h1, h2⟩ := hi i (by omega)
      rw [ce] at h1
      obtain ⟨_, hlen, hcell⟩ := World.cells?_some h1
      obtain ⟨y, e, ho, hw⟩ := open_link h2
      exact ⟨y, ho, hw, fun j hj => by rw [← e]; exact hcell j hj⟩
    have each' : ∀ i : Nat, ∃ y : LkV, i < n → y.ok W W.heap.size ∧ y.wide ∧ ∀ j, j < 35 → W.cell? ((x.add (i * 35)).add j) = y.cells[j]? := by
      intro i
      by_cases h : i < n
      · obtain ⟨q, hq⟩ := each i h
        exact ⟨q, fun _ => hq⟩
      · exact ⟨⟨0, 0, [], [], none, 0⟩, fun h' => absurd h' h⟩
    obtain ⟨f, hf'⟩ := Classical.axiomOfChoice each'
    have hcl : ∀ y ∈ (List.range n).map f, y.cells.length = 35 := by
      intro y hy
      obtain ⟨i, hi', rfl⟩ := List.mem_map.1 hy
      exact LkV.cells_length (hf' i (List.mem_range.1 hi')).1
    have hfl : ∀ (M : List LkV), (∀ y ∈ M, y.cells.length = 35) → (M.flatMap LkV.cells).length = M.length * 35 := by
      intro M
      induction M with
      | nil => intro _; rfl
      | cons y M ih =>
        intro hM
        rw [List.flatMap_cons, List.length_append, hM y (by simp), ih (fun z hz => hM z (by simp [hz])), List.length_cons]; omega
    refine ⟨(List.range n).map f, ⟨by simp, fun y hy => ?_, ⟨by rw [hfl _ hcl]; simp, fun hn => ?_⟩⟩, hl, (fun h => by cases h), fun y hy => ?_⟩
    · obtain ⟨i, hi', rfl⟩ := List.mem_map.1 hy
      exact (hf' i (List.mem_range.1 hi')).1
    · obtain ⟨b, o, sp⟩ := x
      have hk0 := (hf' 0 hn).2.2 0 (by omega)
      have hs : sp = none := by
        have h0 : W.cell? ((Addr.add ⟨b, o, sp⟩ (0 * 35)).add 0) = some (.int .i64 (f 0).node) := hk0.trans (f 0).cell_n
        simpa [Addr.add] using World.cell?_spot h0
      subst hs
      have h0 : W.cell? ((Addr.add ⟨b, o, none⟩ (0 * 35)).add 0) = some (.int .i64 (f 0).node) := hk0.trans (f 0).cell_n
      refine ⟨b, o, rfl, by simpa [Addr.add] using block_lt' h0, fun j u hu => ?_⟩
      have hj : j < n * 35 := by
        have := (List.getElem?_eq_some_iff.1 hu).1
        rw [hfl _ hcl] at this
        simpa using this
      have hd : j / 35 < n := by omega
      have h1 := (hf' (j / 35) hd).2.2 (j % 35) (by omega)
      rw [add_none, add_none, show o + j / 35 * 35 + j % 35 = o + j by omega] at h1
      rw [h1]
      have h2 := flat_at2 LkV.cells 35 ((List.range n).map f) hcl (j / 35) (j % 35) (f (j / 35)) (by simp [hd]) (by omega)
      rw [show j / 35 * 35 + j % 35 = j by omega] at h2
      rw [← h2]; exact hu
    · obtain ⟨i, hi', rfl⟩ := List.mem_map.1 hy
      exact (hf' i (List.mem_range.1 hi')).2.1
end
end Go.Proofs.YtpjggokaolnbcaaDoor
/- A slice of byte slices. -/
namespace Go.Proofs.YtpjggokaolnbcaaDoor
open Go.ChangeShapes Go.WideShapes Go.Deep Go.RowKit
set_option linter.unusedVariables false
/-- a byte slice, and where it lies -/
structure RwV where
  A : Option Addr
  c : Nat
  data : List Int
def RwV.cell (r : RwV) : Value := .slice r.A r.data.length r.c
structure RwV.ok (w : World) (B : Nat) (r : RwV) : Prop where
  rd : Rd w B 1 r.A r.data.length (r.data.map (Value.int .u8))
  byt : ∀ b ∈ r.data, 0 ≤ b ∧ b < 256
  cap : r.data.length ≤ r.c
  room : r.c ≤ maxLen
structure Rws (w : World) (B : Nat) (A : Option Addr) (n : Nat) (R : List RwV) : Prop where
  len : R.length = n
  all : ∀ r ∈ R, r.ok w B
  rd : Rd w B 1 A n (R.map RwV.cell)
theorem RwV.ok.below {w w' : World} {B : Nat} {r : RwV} (h : r.ok w B) (hb : Below B w w') : r.ok w' B := ⟨h.rd.below hb, h.byt, h.cap, h.room⟩
theorem RwV.ok.more {w : World} {B B' : Nat} {r : RwV} (h : r.ok w B) (hB : B ≤ B') : r.ok w B' := ⟨h.rd.more hB, h.byt, h.cap, h.room⟩
theorem Rws.below {w w' : World} {B n : Nat} {A : Option Addr} {R : List RwV} (h : Rws w B A n R) (hb : Below B w w') : Rws w' B A n R := ⟨h.len, fun r hr => (h.all r hr).below hb, h.rd.below hb⟩
theorem Rws.more {w : World} {B B' n : Nat} {A : Option Addr} {R : List RwV} (h : Rws w B A n R) (hB : B ≤ B') : Rws w B' A n R := ⟨h.len, fun r hr => (h.all r hr).more hB, h.rd.more hB⟩
theorem Rws.at {w : World} {B n : Nat} {A : Option Addr} {R : List RwV} (h : Rws w B A n R) {k : Nat} {r : RwV} (hr : R[k]? = some r) : ∃ b o, A = some ⟨b, o, none⟩ ∧ b < B ∧ w.cell? ⟨b, o + k, none⟩ = some (.slice r.A r.data.length r.c) := by
  have hk := (List.getElem?_eq_some_iff.1 hr).1
  rw [h.len] at hk
  obtain ⟨b, o, e, hb, hc⟩ := h.rd.2 (by omega)
  exact ⟨b, o, e, hb, hc k _ (by rw [List.getElem?_map, hr]; rfl)⟩
section
variable {H : Type} {enc : TypeId × Value → H} {W : World} {base : Nat} {spare : Nat → Bool} {held : Bool} {fuel : Nat}
theorem open_rows {d : DataW H} {p : List MemPlace} {a : Option Addr} {n c : Nat}
    (h : DataW.Trod enc Tryd.prog W base spare held 33 (.slice a n c) d p) :
    ∃ R : List RwV, Rws W W.heap.size a n R ∧ n ≤ c := by
  obtain ⟨fuel, hf⟩ := h
  rcases open_slice Tryd.underlying33 hf with ⟨hcs, _⟩ | ⟨x, l, k, m, _, D, Pl, hcs, _, hl, hm, hz, _, hi⟩
  · simp [Value.cells] at hcs
    obtain ⟨rfl, rfl, rfl⟩ := hcs
    exact ⟨[], ⟨rfl, (fun x hx => by cases hx), ⟨rfl, fun h => absurd h (by omega)⟩⟩, Nat.le_refl _⟩
  · simp [Value.cells] at hcs
    obtain ⟨rfl, rfl, rfl⟩ := hcs
    have hle : n ≤ m := by rw [hz]; split <;> omega
    have ce : Tryd.prog.cellsOf 23 = 1 := by kernel_rfl
    have each : ∀ i, i < n → ∃ r : RwV, r.ok W W.heap.size ∧ W.cell? (x.add i) = some r.cell := by
      intro i hin
      obtain ⟨cs', h1, h2⟩ := hi i (by omega)
      rw [ce] at h1
      obtain ⟨_, hlen, hcell⟩ := World.cells?_some h1
      obtain ⟨v, rfl⟩ := List.length_eq_one_iff.1 hlen
      obtain ⟨A, c, z, rfl, hr, hzc, hcm, hzb⟩ := open_u8s h2
      refine ⟨⟨A, c, z⟩, ⟨hr, hzb, hzc, hcm⟩, ?_⟩
      have := hcell 0 (by omega)
      show W.cell? (x.add i) = some (.slice A z.length c)
      simpa [Addr.add] using this
    have each' : ∀ i : Nat, ∃ r : RwV, i < n → r.ok W W.heap.size ∧ W.cell? (x.add i) = some r.cell := by
      intro i
      by_cases h : i < n
      · obtain ⟨q, hq⟩ := each i h
        exact ⟨q, fun _ => hq⟩
      · exact ⟨⟨none, 0, []⟩, fun h' => absurd h' h⟩
    obtain ⟨f, hf'⟩ := Classical.axiomOfChoice each'
    refine ⟨(List.range n).map f, ⟨by simp, fun r hr => ?_, ⟨by simp, fun hn => ?_⟩⟩, hl⟩
    · obtain ⟨i, hi', rfl⟩ := List.mem_map.1 hr
      exact (hf' i (List.mem_range.1 hi')).1
    · obtain ⟨b, o, sp⟩ := x
      have hk0 := (hf' 0 hn).2
      have hs : sp = none := by simpa [Addr.add] using World.cell?_spot hk0
      subst hs
      refine ⟨b, o, rfl, by simpa [Addr.add] using block_lt' hk0, fun j u hu => ?_⟩
      have hj : j < n := by have := (List.getElem?_eq_some_iff.1 hu).1; simpa using this
      have h1 := (hf' j hj).2
      rw [add_none] at h1
      rw [h1]
      simpa [hj] using hu
end
end Go.Proofs.YtpjggokaolnbcaaDoor
