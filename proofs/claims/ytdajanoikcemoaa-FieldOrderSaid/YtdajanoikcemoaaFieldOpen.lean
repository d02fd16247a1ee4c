/- Slices that came in, opened to Rd. -/
import Derived.Test.YtdajanoikcemoaaFieldWalks3
import Derived.OpenShut
import Derived.ChangeSlices
import Derived.Deep.SlicePairs
namespace Go.Proofs.Ytdajanoikcemoaa
open Go.ChangeShapes Go.WideShapes Go.Deep Go.RowKit
set_option linter.unusedVariables false
theorem block_lt' {w : World} {a : Addr} {v : Value} (h : w.cell? a = some v) : a.block < w.heap.size := by
  rcases Nat.lt_or_ge a.block w.heap.size with h1 | h1
  · exact h1
  · have h2 : w.heap[a.block]? = none := Array.getElem?_eq_none_iff.2 h1
    simp [World.cell?, h2] at h
theorem bdr {B : Nat} {a w : World} (h : Below B a w) (k : Nat) : Below B a (w.drewN k) := ⟨h.os, h.tape, h.output, h.size, h.block⟩
theorem add_none (b o k : Nat) : Addr.add ⟨b, o, none⟩ k = ⟨b, o + k, none⟩ := by
  unfold Addr.add
  split
  · rename_i h; rw [h]; rfl
  · rfl
theorem open_ints64 {H : Type} {enc : TypeId × Value → H} {W : World} {base : Nat} {spare : Nat → Bool} {held : Bool} {d : DataW H} {p : List MemPlace} {a : Option Addr} {n c : Nat}
    (h : DataW.Trod enc Try.prog W base spare held 29 (.slice a n c) d p) :
    ∃ z : List Int, Rd W W.heap.size 1 a n (z.map (Value.int .i64)) ∧ n ≤ c ∧ c ≤ maxLen ∧ z.length = n ∧ ∀ x ∈ z, (Lit.int .i64 x).wf = true := by
  obtain ⟨fuel, hf⟩ := h
  rcases open_ints Try.underlying29 Try.underlying3 (by kernel_rfl) hf with ⟨hcs, _⟩ | ⟨x, l, k, zs, hcs, _, hl, hm, hz, _, hcell, hwz⟩
  · simp [Value.cells] at hcs
    obtain ⟨rfl, rfl, rfl⟩ := hcs
    exact ⟨[], Rd.nil_, by omega, by decide, rfl, fun _ h => by cases h⟩
  · simp [Value.cells] at hcs
    obtain ⟨rfl, rfl, rfl⟩ := hcs
    have hle : n ≤ zs.length := by rw [hz]; split <;> omega
    refine ⟨zs.take n, ⟨by simp; omega, fun hn => ?_⟩, hl, hm, by simp; omega, fun x hx => hwz x (List.mem_of_mem_take hx)⟩
    obtain ⟨b, o, sp⟩ := x
    have hc := hcell 0 (by omega)
    have hs : sp = none := by simpa [Addr.add] using World.cell?_spot hc
    subst hs
    refine ⟨b, o, rfl, by simpa [Addr.add] using block_lt' hc, fun j u hu => ?_⟩
    rw [List.getElem?_map, Option.map_eq_some_iff] at hu
    obtain ⟨v, hv, rfl⟩ := hu
    have hj : j < n := by have := (List.getElem?_eq_some_iff.1 hv).1; simp at this; omega
    have := hcell j (by omega)
    rw [add_none] at this
    rw [this]
    rw [List.getElem?_take, if_pos hj] at hv
    simp [List.getD, hv]
theorem cellsP_of (f : Nat → Fm.Pt) (n : Nat) : ∀ (j : Nat) (u : Value), (cellsP ((List.range n).map f))[j]? = some u → j / 2 < n ∧ (j % 2 = 0 → u = .int .i64 (f (j / 2)).1) ∧ (j % 2 = 1 → u = .int .i64 (f (j / 2)).2) := by
  intro j u hu
  have hl := cellsP_length ((List.range n).map f)
  have hj : j < n * 2 := by have := (List.getElem?_eq_some_iff.1 hu).1; simp at hl; omega
  have h1 := cellsP_at ((List.range n).map f) (j / 2) (by simp; omega)
  have e1 : Fm.pX ((List.range n).map f) (j / 2) = (f (j / 2)).1 := by simp [Fm.pX, List.getD, show j / 2 < n by omega]
  have e2 : Fm.pY ((List.range n).map f) (j / 2) = (f (j / 2)).2 := by simp [Fm.pY, List.getD, show j / 2 < n by omega]
  rw [e1, e2] at h1
  refine ⟨by omega, fun h => ?_, fun h => ?_⟩
  · rw [show j = j / 2 * 2 by omega, h1.1] at hu; exact (Option.some.inj hu).symm
  · rw [show j = j / 2 * 2 + 1 by omega, h1.2] at hu; exact (Option.some.inj hu).symm
theorem open_pts {H : Type} {enc : TypeId × Value → H} {W : World} {base : Nat} {spare : Nat → Bool} {held : Bool} {d : DataW H} {p : List MemPlace} {a : Option Addr} {n c : Nat}
    (h : DataW.Trod enc Try.prog W base spare held 30 (.slice a n c) d p) :
    ∃ z : List Fm.Pt, Rd W W.heap.size 2 a n (cellsP z) ∧ n ≤ c ∧ c ≤ maxLen ∧ z.length = n ∧ ∀ x ∈ z, (Lit.int .i64 x.1).wf = true ∧ (Lit.int .i64 x.2).wf = true := by
  obtain ⟨fuel, hf⟩ := h
  rcases open_slice_pairs Try.underlying30 Try.underlying38 (by kernel_rfl) rfl rfl (by kernel_rfl) (by kernel_rfl) hf with ⟨hcs, _⟩ | ⟨x, l, k, m, _, V0, V1, D0, D1, P0, P1, hcs, _, hl, hm, hz, _, hi⟩
  · simp [Value.cells] at hcs
    obtain ⟨rfl, rfl, rfl⟩ := hcs
    exact ⟨[], Rd.nil_, by omega, by decide, rfl, fun _ h => by cases h⟩
  · simp [Value.cells] at hcs
    obtain ⟨rfl, rfl, rfl⟩ := hcs
    have hle : n ≤ m := by rw [hz]; split <;> omega
    have each : ∀ i, i < n → ∃ q : Fm.Pt, W.cell? (x.add (i * 2)) = some (.int .i64 q.1) ∧ W.cell? (x.add (i * 2 + 1)) = some (.int .i64 q.2) ∧ (Lit.int .i64 q.1).wf = true ∧ (Lit.int .i64 q.2).wf = true := by
      intro i hin
      obtain ⟨c0, c1, t0, t1⟩ := hi i (by omega)
      obtain ⟨y0, e0, _, f0⟩ := DataW.trod_int Try.underlying3 t0
      obtain ⟨y1, e1, _, f1⟩ := DataW.trod_int Try.underlying3 t1
      simp only [List.cons.injEq, and_true] at e0 e1
      exact ⟨(y0, y1), by rw [c0, e0], by rw [c1, e1], f0, f1⟩
    have each' : ∀ i : Nat, ∃ q : Fm.Pt, i < n → W.cell? (x.add (i * 2)) = some (.int .i64 q.1) ∧ W.cell? (x.add (i * 2 + 1)) = some (.int .i64 q.2) ∧ (Lit.int .i64 q.1).wf = true ∧ (Lit.int .i64 q.2).wf = true := by
      intro i
      by_cases h : i < n
      · obtain ⟨q, hq⟩ := each i h
        exact ⟨q, fun _ => hq⟩
      · exact ⟨(0, 0), fun h' => absurd h' h⟩
    obtain ⟨f, hf'⟩ := Classical.axiomOfChoice each'
    refine ⟨(List.range n).map f, ⟨by rw [cellsP_length]; simp, fun hn => ?_⟩, hl, hm, by simp, fun y hy => ?_⟩
    · obtain ⟨b, o, sp⟩ := x
      have hc := (hf' 0 hn).1
      have hs : sp = none := by simpa [Addr.add] using World.cell?_spot hc
      subst hs
      refine ⟨b, o, rfl, by simpa [Addr.add] using block_lt' hc, fun j u hu => ?_⟩
      obtain ⟨h1, h2, h3⟩ := cellsP_of f n j u hu
      have h4 := hf' (j / 2) h1
      rw [add_none, add_none] at h4
      rcases Nat.mod_two_eq_zero_or_one j with h0 | h0
      · rw [h2 h0, show o + j = o + j / 2 * 2 by omega]; exact h4.1
      · rw [h3 h0, show o + j = o + (j / 2 * 2 + 1) by omega]; exact h4.2.1
    · obtain ⟨i, hi', rfl⟩ := List.mem_map.1 hy
      exact (hf' i (List.mem_range.1 hi')).2.2
end Go.Proofs.Ytdajanoikcemoaa
