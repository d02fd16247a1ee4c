/- A slice of byte slices. -/
import Derived.Test.YtpjggokaolnbcaaDoorLOpen
namespace Go.Proofs.YtpjggokaolnbcaaDoor
open Go.ChangeShapes Go.WideShapes Go.Deep Go.RowKit
set_option linter.unusedVariables false
/-- a byte slice, and where it lies -/
structure RwV where
  A : Option Addr
  c : Nat
  data : List Int
def RwV.cell (r : RwV) : Value := .slice r.A r.data.length r.c
structure RwV.ok (w : World) (B : Nat) (r : RwV) : Prop where
  rd : Rd w B 1 r.A r.data.length (r.data.map (Value.int .u8))
  byt : ∀ b ∈ r.data, 0 ≤ b ∧ b < 256
  cap : r.data.length ≤ r.c
  room : r.c ≤ maxLen
structure Rws (w : World) (B : Nat) (A : Option Addr) (n : Nat) (R : List RwV) : Prop where
  len : R.length = n
  all : ∀ r ∈ R, r.ok w B
  rd : Rd w B 1 A n (R.map RwV.cell)
theorem RwV.ok.below {w w' : World} {B : Nat} {r : RwV} (h : r.ok w B) (hb : Below B w w') : r.ok w' B := ⟨h.rd.below hb, h.byt, h.cap, h.room⟩
theorem RwV.ok.more {w : World} {B B' : Nat} {r : RwV} (h : r.ok w B) (hB : B ≤ B') : r.ok w B' := ⟨h.rd.more hB, h.byt, h.cap, h.room⟩
theorem Rws.below {w w' : World} {B n : Nat} {A : Option Addr} {R : List RwV} (h : Rws w B A n R) (hb : Below B w w') : Rws w' B A n R := ⟨h.len, fun r hr => (h.all r hr).below hb, h.rd.below hb⟩
theorem Rws.more {w : World} {B B' n : Nat} {A : Option Addr} {R : List RwV} (h : Rws w B A n R) (hB : B ≤ B') : Rws w B' A n R := ⟨h.len, fun r hr => (h.all r hr).more hB, h.rd.more hB⟩
theorem Rws.at {w : World} {B n : Nat} {A : Option Addr} {R : List RwV} (h : Rws w B A n R) {k : Nat} {r : RwV} (hr : R[k]? = some r) : ∃ b o, A = some ⟨b, o, none⟩ ∧ b < B ∧ w.cell? ⟨b, o + k, none⟩ = some (.slice r.A r.data.length r.c) := by
  have hk := (List.getElem?_eq_some_iff.1 hr).1
  rw [h.len] at hk
  obtain ⟨b, o, e, hb, hc⟩ := h.rd.2 (by omega)
  exact ⟨b, o, e, hb, hc k _ (by rw [List.getElem?_map, hr]; rfl)⟩
section
variable {H : Type} {enc : TypeId × Value → H} {W : World} {base : Nat} {spare : Nat → Bool} {held : Bool} {fuel : Nat}
theorem open_rows {d : DataW H} {p : List MemPlace} {a : Option Addr} {n c : Nat}
    (h : DataW.Trod enc Tryd.prog W base spare held 33 (.slice a n c) d p) :
    ∃ R : List RwV, Rws W W.heap.size a n R ∧ n ≤ c := by
  obtain ⟨fuel, hf⟩ := h
  rcases open_slice Tryd.underlying33 hf with ⟨hcs, _⟩ | ⟨x, l, k, m, _, D, Pl, hcs, _, hl, hm, hz, _, hi⟩
  · simp [Value.cells] at hcs
    obtain ⟨rfl, rfl, rfl⟩ := hcs
    exact ⟨[], ⟨rfl, (fun x hx => by cases hx), ⟨rfl, fun h => absurd h (by omega)⟩⟩, Nat.le_refl _⟩
  · simp [Value.cells] at hcs
    obtain ⟨rfl, rfl, rfl⟩ := hcs
    have hle : n ≤ m := by rw [hz]; split <;> omega
    have ce : Tryd.prog.cellsOf 23 = 1 := by kernel_rfl
    have each : ∀ i, i < n → ∃ r : RwV, r.ok W W.heap.size ∧ W.cell? (x.add i) = some r.cell := by
      intro i hin
      obtain ⟨cs', h1, h2⟩ := hi i (by omega)
      rw [ce] at h1
      obtain ⟨_, hlen, hcell⟩ := World.cells?_some h1
      obtain ⟨v, rfl⟩ := List.length_eq_one_iff.1 hlen
      obtain ⟨A, c, z, rfl, hr, hzc, hcm, hzb⟩ := open_u8s h2
      refine ⟨⟨A, c, z⟩, ⟨hr, hzb, hzc, hcm⟩, ?_⟩
      have := hcell 0 (by omega)
      show W.cell? (x.add i) = some (.slice A z.length c)
      simpa [Addr.add] using this
    have each' : ∀ i : Nat, ∃ r : RwV, i < n → r.ok W W.heap.size ∧ W.cell? (x.add i) = some r.cell := by
      intro i
      by_cases h : i < n
      · obtain ⟨q, hq⟩ := each i h
        exact ⟨q, fun _ => hq⟩
      · exact ⟨⟨none, 0, []⟩, fun h' => absurd h' h⟩
    obtain ⟨f, hf'⟩ := Classical.axiomOfChoice each'
    refine ⟨(List.range n).map f, ⟨by simp, fun r hr => ?_, ⟨by simp, fun hn => ?_⟩⟩, hl⟩
    · obtain ⟨i, hi', rfl⟩ := List.mem_map.1 hr
      exact (hf' i (List.mem_range.1 hi')).1
    · obtain ⟨b, o, sp⟩ := x
      have hk0 := (hf' 0 hn).2
      have hs : sp = none := by simpa [Addr.add] using World.cell?_spot hk0
      subst hs
      refine ⟨b, o, rfl, by simpa [Addr.add] using block_lt' hk0, fun j u hu => ?_⟩
      have hj : j < n := by have := (List.getElem?_eq_some_iff.1 hu).1; simpa using this
      have h1 := (hf' j hj).2
      rw [add_none] at h1
      rw [h1]
      simpa [hj] using hu
end
end Go.Proofs.YtpjggokaolnbcaaDoor
