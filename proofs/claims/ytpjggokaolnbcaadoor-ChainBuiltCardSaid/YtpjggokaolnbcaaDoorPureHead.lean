/- A drawn region whose first n operations only touch slots (they yield in whatever world) and whose tail is then forced: it is walked in the order of the text. -/
import Derived.StillTail
import Derived.StillTailTactics
import Derived.Test.YtpjggokaolnbcaaDoorWords
namespace Go.Proofs.YtpjggokaolnbcaaDoor
open Go.RowKit
section
variable {P : Program} {ops : Array Oper} {md : Region.Mode}
def wpPure (P : Program) (ops : Array Oper) (L : Act → Prop) : List Oper → Act → Prop
  | [], a => L a
  | o :: rest, a => ∃ v, Yields P ops o v a ∧ wpPure P ops L rest (a.put o.dst v)
theorem wpPure_nil {L : Act → Prop} {a : Act} (h : L a) : wpPure P ops L [] a := h
theorem wpPure_step {L : Act → Prop} {a : Act} {o : Oper} {rest : List Oper} (v : Value) (hw : Region.wanted o (yielded ops a.tmps) = true) (hy : ∀ w, (execOp a.eval o).run P w = .ok (.value v) w) (h : wpPure P ops L rest (a.put o.dst v)) : wpPure P ops L (o :: rest) a :=
  ⟨v, .inl ⟨hw, hy⟩, h⟩
theorem wpPure_skip {L : Act → Prop} {a : Act} {o : Oper} {rest : List Oper} (hw : Region.wanted o (yielded ops a.tmps) = false) (h : wpPure P ops L rest (a.put o.dst undef)) : wpPure P ops L (o :: rest) a :=
  ⟨undef, .inr ⟨hw, rfl⟩, h⟩
theorem wpAny_of_pure {Q : Exit → Act → World → Prop} {w : World} {g : Nat} {L : Act → Prop} (hsel : Region.noSelect ops = true) (hQ : ∀ (x : Option Tmp) (v : Value) c a w, Q (.panic c) (a.put x v) w → Q (.panic c) a w) :
    ∀ (l : List Oper) (k : Nat) (listed : Array Bool) (a : Act), (∀ j, j < l.length → l[j]? = ops[k + j]?) → Region.lexHead md ops g l.length k listed = true →
    (∀ listed' a', Region.seqB md ops g (k + l.length) listed' = true → L a' → wpAny P md ops Q g listed' a' w) → wpPure P ops L l a → wpAny P md ops Q (l.length + g) listed a w
  | [], k, listed, a, _, hB, hL, h => by
    simp only [List.length_nil, Nat.zero_add, Nat.add_zero] at *
    exact hL _ _ (by simpa [Region.lexHead] using hB) h
  | o :: l, k, listed, a, hl, hB, hL, h => by
    have h0 : ops[k]? = some o := by simpa using (hl 0 (by simp)).symm
    simp only [List.length_cons, Region.lexHead, Bool.and_eq_true] at hB
    obtain ⟨⟨hr, hf⟩, hB'⟩ := hB
    obtain ⟨v, hy, h⟩ := h
    rw [show (o :: l).length + g = (l.length + g) + 1 by simp; omega]
    refine wpAny_take h0 hsel hf hr (fun c a w h => hQ _ _ c a w h) hy ?_
    refine wpAny_of_pure hsel hQ l (k + 1) _ _ (fun j hj => by have := hl (j + 1) (by simp; omega); simpa [Nat.add_assoc, Nat.add_comm 1 j] using this) hB' (fun listed' a' hs hl' => hL listed' a' ?_ hl') h
    rw [show k + (o :: l).length = k + 1 + l.length by simp; omega]; exact hs
theorem wp_region_pure_tail {id : Nat} {Q : Exit → Act → World → Prop} {a : Act} {w : World} {l : List Oper} (n : Nat) (hm : P.follows .mixedOrders = true) (hsel : Region.noSelect l.toArray = true) (hn : n ≤ l.length)
    (hB : Region.lexHead .any l.toArray (l.length - n) n 0 (Array.replicate l.length false) = true) (hQ : ∀ (x : Option Tmp) (v : Value) c a w, Q (.panic c) (a.put x v) w → Q (.panic c) a w)
    (h : wpPure P l.toArray (fun a' => wpList P l.toArray Q (l.drop n) a' { w with drawn := w.drawn + 1 }) (l.take n) a) : (Code.region id l.toArray true).wp P Q a w := by
  refine wp_region_any hm ?_
  have htl : (l.take n).length = n := by simp; omega
  have hdl : (l.drop n).length = l.length - n := by simp
  have := wpAny_of_pure (md := .any) (g := l.length - n) (w := { w with drawn := w.drawn + 1 }) (Q := Q) hsel hQ (l.take n) 0 (Array.replicate l.length false) a (fun j hj => by
    have hj' : j < n := by rw [htl] at hj; exact hj
    simp [hj']) (by rw [htl]; exact hB) (fun listed' a' hs hl' => by
      rw [htl, Nat.zero_add] at hs
      have := wpAny_of_seq (md := .any) (Q' := Q) (P := P) (l.drop n) n listed' a' { w with drawn := w.drawn + 1 } (fun j => by simp [List.getElem?_drop]) (by rw [hdl]; exact hs) hl'
      rwa [hdl] at this) h
  rw [htl, show n + (l.length - n) = l.toArray.size by simp; omega] at this
  simpa using this
end
end Go.Proofs.YtpjggokaolnbcaaDoor
