/- A slice of the call's own that grows (for seats without the field's texts). -/
import Derived.Test.YtpjggokaolnbcaaDoorMem
namespace Go.Proofs.YtpjggokaolnbcaaDoor
open Go.RowKit
theorem bdr {B : Nat} {a w : World} (h : Below B a w) (k : Nat) : Below B a (w.drewN k) := ⟨h.os, h.tape, h.output, h.size, h.block⟩
theorem grown_below {w w' : World} (hb : Below w.heap.size w w') : w.grownBy w' none := ⟨hb.os, hb.tape, hb.output, hb.size, fun k hk _ => hb.block k hk⟩
theorem own_below {w w' : World} {base : Nat} {e : TypeId} {v : Value} {size n : Nat} {xs : List Value} (h : w.ownsRow base e size v n xs) (hb : Below w.heap.size w w') : w'.ownsRow base e size v n xs :=
  h.kept (grown_below hb) (by cases v.ownBlock <;> simp)
theorem own_drewN {w : World} {base : Nat} {e : TypeId} {v : Value} {size n : Nat} {xs : List Value} (h : w.ownsRow base e size v n xs) (m : Nat) : (w.drewN m).ownsRow base e size v n xs := h
theorem own_slice {w : World} {base : Nat} {e : TypeId} {v : Value} {size n : Nat} {xs : List Value} (h : w.ownsRow base e size v n xs) : ∃ A c, v = .slice A n c ∧ Rd w w.heap.size size A n xs := by
  have h0 := h
  rcases h.2 with ⟨rfl, rfl⟩ | ⟨g, cap, cur, rfl, _⟩
  · exact ⟨_, _, rfl, h0.1, fun h => absurd h (by omega)⟩
  · exact ⟨_, _, rfl, Rd.of_own h0⟩
theorem own_far {w : World} {base : Nat} {e : TypeId} {v : Value} {size n : Nat} {xs : List Value} (h : w.ownsRow base e size v n xs) : some w.heap.size ≠ v.ownBlock := fun e => by
  have := (h.lt _ e.symm).2
  omega
structure One (w0 : World) (B : Nat) (w : World) (e : TypeId) (size : Nat) (v : Value) (n : Nat) (xs : List Value) : Prop where
  own : w.ownsRow B e size v n xs
  bel : Below B w0 w
  size : B ≤ w.heap.size
theorem One.start (w0 : World) (e : TypeId) (s : Nat) : One w0 w0.heap.size w0 e s (.slice none 0 0) 0 [] :=
  ⟨World.ownsRow_nil _ _ _ _, Below.refl _ _, Nat.le_refl _⟩
section
variable {w0 w w' : World} {B : Nat} {e : TypeId} {s n : Nat} {v : Value} {xs : List Value}
theorem One.alloc (h : One w0 B w e s v n xs) (o : Obj) : One w0 B (w.alloc o) e s v n xs := ⟨h.own.alloc o, h.bel.alloc h.size o, by have := h.size; simp; omega⟩
theorem One.drew (h : One w0 B w e s v n xs) : One w0 B w.drew e s v n xs := ⟨h.own.drew, h.bel.drew, h.size⟩
theorem One.drewN (h : One w0 B w e s v n xs) (m : Nat) : One w0 B (w.drewN m) e s v n xs := ⟨h.own, bdr h.bel m, h.size⟩
theorem One.below (h : One w0 B w e s v n xs) (hb : Below w.heap.size w w') : One w0 B w' e s v n xs := ⟨own_below h.own hb, h.bel.trans (hb.mono h.size), Nat.le_trans h.size hb.size⟩
theorem One.grew {v' : Value} {n' : Nat} {xs' : List Value} (h : One w0 B w e s v n xs) (hown : w'.ownsRow B e s v' n' xs') (hg : w.grownBy w' v.ownBlock) : One w0 B w' e s v' n' xs' :=
  ⟨hown, h.bel.grown hg h.size fun k hk => (h.own.lt k hk).1, Nat.le_trans h.size hg.size⟩
end
theorem alloc_cell0 (w : World) (x : Value) (cs : List Value) (t : TypeId) : (w.alloc (.cells ⟨x :: cs⟩ t)).cell? ⟨w.heap.size, 0, none⟩ = some x := by
  rw [cell_of_row (w.alloc (.cells ⟨x :: cs⟩ t)) w.heap.size 0 _ _ _ (heap_alloc_new w _)]; rfl
theorem alloc_cell1 (w : World) (x y : Value) (cs : List Value) (t : TypeId) : (w.alloc (.cells ⟨x :: y :: cs⟩ t)).cell? ⟨w.heap.size, 1, none⟩ = some y := by
  rw [cell_of_row (w.alloc (.cells ⟨x :: y :: cs⟩ t)) w.heap.size 1 _ _ _ (heap_alloc_new w _)]; rfl
end Go.Proofs.YtpjggokaolnbcaaDoor
