/- A drawn region walked in ONE order, given as a list of indices: an operation marked true yields its value in every world that meets S; one marked false is the only one that can come up there, and S is shown behind it. -/
import Derived.OrdersHeld
import Derived.Tactics
import Derived.KernelRfl
import Derived.Test.YtpjggokaolnbcaaDoorWords
namespace Go.Proofs.YtpjggokaolnbcaaDoor
open Go.RowKit
section
variable {P : Program} {ops : Array Oper} {md : Region.Mode} {Q : Exit → Act → World → Prop} {S : World → Prop}
def wpOrd (P : Program) (ops : Array Oper) (Q : Exit → Act → World → Prop) (S : World → Prop) : List (Nat × Bool) → Act → World → Prop
  | [], a, w => Q .normal a w
  | (i, true) :: l, a, w => ∃ o v, ops[i]? = some o ∧ YieldsIf P ops S o v a ∧ wpOrd P ops Q S l (a.put o.dst v) w
  | (i, false) :: l, a, w => wpOp P ops Q i (fun a' w' => S w' ∧ wpOrd P ops Q S l a' w') a w
def ordB (md : Region.Mode) (ops : Array Oper) : List (Nat × Bool) → Array Bool → Bool
  | [], listed => (Region.ready md ops listed).isEmpty
  | (i, true) :: l, listed => (Region.ready md ops listed).contains i && Region.free md ops listed i && ordB md ops l (listed.setIfInBounds i true)
  | (i, false) :: l, listed => decide (Region.ready md ops listed = [i]) && ordB md ops l (listed.setIfInBounds i true)
theorem wpAnyH_of_ord (hsel : Region.noSelect ops = true) (hQ : ∀ (x : Option Tmp) (v : Value) c a w, Q (.panic c) (a.put x v) w → Q (.panic c) a w) :
    ∀ (l : List (Nat × Bool)) (listed : Array Bool) (a : Act) (w : World), ordB md ops l listed = true → S w → wpOrd P ops Q S l a w → wpAnyH P md ops Q S l.length listed a w
  | [], listed, a, w, hB, _, h => ⟨by simpa [ordB] using hB, h⟩
  | (i, true) :: l, listed, a, w, hB, hS, h => by
    simp only [ordB, Bool.and_eq_true] at hB
    obtain ⟨o, v, ho, hy, h⟩ := h
    exact wpAnyH_take ho hsel hB.1.2 hB.1.1 (fun c a w h => hQ _ _ c a w h) hy hS (wpAnyH_of_ord hsel hQ l _ _ w hB.2 hS h)
  | (i, false) :: l, listed, a, w, hB, hS, h => by
    simp only [ordB, Bool.and_eq_true, decide_eq_true_eq] at hB
    refine wpAnyH_all hB.1 (by simp) fun j hj => ?_
    rw [List.mem_singleton] at hj
    subst hj
    exact wpOp_mono (fun a' w' h' => ⟨h'.1, wpAnyH_of_ord hsel hQ l _ a' w' hB.2 h'.1 h'.2⟩) h
theorem wp_region_ord {id : Nat} {a : Act} {w : World} {l : List Oper} (S : World → Prop) (r : List (Nat × Bool)) (hm : P.follows .mixedOrders = true) (hsel : Region.noSelect l.toArray = true) (hr : r.length = l.length)
    (hB : ordB .any l.toArray r (Array.replicate l.length false) = true) (hQ : ∀ (x : Option Tmp) (v : Value) c a w, Q (.panic c) (a.put x v) w → Q (.panic c) a w) (hS : S w.drew)
    (h : wpOrd P l.toArray Q S r a w.drew) : (Code.region id l.toArray true).wp P Q a w := by
  refine wp_region_held (S := S) hm ?_
  have := wpAnyH_of_ord (md := .any) hsel hQ r (Array.replicate l.length false) a _ hB hS h
  rw [hr] at this
  simpa using this
theorem wpOrd_nil {a : Act} {w : World} (h : Q .normal a w) : wpOrd P ops Q S [] a w := h
/-- what yields in whatever world (that meets S) -/
theorem wpOrd_take {i : Nat} {l : List (Nat × Bool)} {a : Act} {w : World} {o : Oper} (ho : ops[i]? = some o) (v : Value) (hw : Region.wanted o (yielded ops a.tmps) = true)
    (hy : ∀ w', S w' → (execOp a.eval o).run P w' = .ok (.value v) w') (h : ∀ K : Act → Prop, (∀ a', wpOrd P ops Q S l a' w → K a') → K (a.put o.dst v)) : wpOrd P ops Q S ((i, true) :: l) a w :=
  ⟨o, v, ho, .inl ⟨hw, hy⟩, h _ fun _ h => h⟩
theorem wpOrd_skip {i : Nat} {l : List (Nat × Bool)} {a : Act} {w : World} {o : Oper} (ho : ops[i]? = some o) (hw : Region.wanted o (yielded ops a.tmps) = false)
    (h : ∀ K : Act → Prop, (∀ a', wpOrd P ops Q S l a' w → K a') → K (a.put o.dst undef)) : wpOrd P ops Q S ((i, true) :: l) a w :=
  ⟨o, undef, ho, .inr ⟨hw, rfl⟩, h _ fun _ h => h⟩
/-- the one that is forced -/
theorem wpOrd_force {i : Nat} {l : List (Nat × Bool)} {a : Act} {w : World} {o : Oper} (ho : ops[i]? = some o) (hw : Region.wanted o (yielded ops a.tmps) = true)
    (h : ∀ K : Act → World → Prop, (∀ a' w', S w' → wpOrd P ops Q S l a' w' → K a' w') → o.wp P a w K Q) : wpOrd P ops Q S ((i, false) :: l) a w := by
  unfold wpOrd wpOp
  rw [ho]
  show if Region.wanted o (yielded ops a.tmps) = true then _ else _
  rw [if_pos hw]
  exact .inl (h _ fun _ _ h1 h2 => ⟨h1, h2⟩)
theorem wpOrd_pass {i : Nat} {l : List (Nat × Bool)} {a : Act} {w : World} {o : Oper} (ho : ops[i]? = some o) (hw : Region.wanted o (yielded ops a.tmps) = false) (hS : S w)
    (h : ∀ K : Act → Prop, (∀ a', wpOrd P ops Q S l a' w → K a') → K (a.put o.dst undef)) : wpOrd P ops Q S ((i, false) :: l) a w := by
  unfold wpOrd wpOp
  rw [ho]
  show if Region.wanted o (yielded ops a.tmps) = true then _ else _
  rw [if_neg (by rw [hw]; simp)]
  exact h (fun a' => S w ∧ wpOrd P ops Q S l a' w) fun _ h => ⟨hS, h⟩
end
end Go.Proofs.YtpjggokaolnbcaaDoor
