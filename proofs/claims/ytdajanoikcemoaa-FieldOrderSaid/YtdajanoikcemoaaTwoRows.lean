/- Two slices of the call's own that grow side by side. -/
import Derived.Test.YtdajanoikcemoaaFieldOpen
import Derived.Test.YtdajanoikcemoaaFieldSane
namespace Go.Proofs.Ytdajanoikcemoaa
open Go.ChangeShapes Go.WideShapes Go.Deep Go.RowKit
def Apart (v u : Value) : Prop := ∀ g, v.ownBlock = some g → u.ownBlock ≠ some g
structure Two (w0 : World) (B : Nat) (w : World) (e : TypeId) (v u : Value) (n : Nat) (xs : List Value) (m : Nat) (ys : List Value) : Prop where
  lef : w.ownsRow B e 1 v n xs
  rig : w.ownsRow B e 1 u m ys
  apart : Apart v u
  bel : Below B w0 w
  size : B ≤ w.heap.size
theorem Apart.symm {v u : Value} (h : Apart v u) : Apart u v := fun g hu hv => h g hv hu
theorem Two.symm {w0 : World} {B : Nat} {w : World} {e : TypeId} {v u : Value} {n : Nat} {xs : List Value} {m : Nat} {ys : List Value} (h : Two w0 B w e v u n xs m ys) : Two w0 B w e u v m ys n xs :=
  ⟨h.rig, h.lef, h.apart.symm, h.bel, h.size⟩
theorem Two.start (w0 : World) (e : TypeId) : Two w0 w0.heap.size w0 e (.slice none 0 0) (.slice none 0 0) 0 [] 0 [] :=
  ⟨World.ownsRow_nil _ _ _ _, World.ownsRow_nil _ _ _ _, fun g h => by simp [Value.ownBlock] at h, Below.refl _ _, Nat.le_refl _⟩
theorem Two.alloc {w0 : World} {B : Nat} {w : World} {e : TypeId} {v u : Value} {n : Nat} {xs : List Value} {m : Nat} {ys : List Value} (h : Two w0 B w e v u n xs m ys) (o : Obj) : Two w0 B (w.alloc o) e v u n xs m ys :=
  ⟨h.lef.alloc o, h.rig.alloc o, h.apart, h.bel.alloc h.size o, by have := h.size; simp; omega⟩
theorem Two.left {w0 : World} {B : Nat} {W w1 : World} {e : TypeId} {v u v' : Value} {n n' : Nat} {xs xs' : List Value} {m : Nat} {ys : List Value} (h : Two w0 B W e v u n xs m ys)
    (hown : w1.ownsRow B e 1 v' n' xs') (hg : W.grownBy w1 v.ownBlock) (ho : v'.ownBlock = v.ownBlock ∨ v'.ownBlock = some W.heap.size) : Two w0 B w1 e v' u n' xs' m ys := by
  refine ⟨hown, h.rig.kept hg ?_, fun g hv hu => ?_, h.bel.grown hg h.size fun k hk => (h.lef.lt k hk).1, Nat.le_trans h.size hg.size⟩
  · cases hv : v.ownBlock with
    | none => cases hu : u.ownBlock <;> simp
    | some g => exact .inr (h.apart g hv)
  · rcases ho with ho | ho
    · exact h.apart g (ho ▸ hv) hu
    · rw [ho] at hv
      have := (h.rig.lt g hu).2
      injection hv with hv
      omega
theorem Two.right {w0 : World} {B : Nat} {W w1 : World} {e : TypeId} {v u u' : Value} {n m' : Nat} {xs ys' : List Value} {m : Nat} {ys : List Value} (h : Two w0 B W e v u n xs m ys)
    (hown : w1.ownsRow B e 1 u' m' ys') (hg : W.grownBy w1 u.ownBlock) (ho : u'.ownBlock = u.ownBlock ∨ u'.ownBlock = some W.heap.size) : Two w0 B w1 e v u' n xs m' ys' :=
  (h.symm.left hown hg ho).symm
theorem one_at (w : World) (x : Value) (t : TypeId) : ∀ (j : Nat) (u : Value), [x][j]? = some u → (w.alloc (.cells #[x] t)).cell? ((⟨w.heap.size, 0, none⟩ : Addr).add j) = some u := by
  intro j u hj
  match j, hj with
  | 0, hj =>
    simp at hj
    subst hj
    have h := cell_of_row (w.alloc (.cells #[x] t)) w.heap.size 0 _ _ _ (World.alloc_heap_new w _)
    rw [add_none, h]
    rfl
theorem one_cell (z : Int) : ∀ u ∈ [Value.int .i64 z], u.oneCell' = true := by intro u hu; simp at hu; subst hu; rfl
end Go.Proofs.Ytdajanoikcemoaa
