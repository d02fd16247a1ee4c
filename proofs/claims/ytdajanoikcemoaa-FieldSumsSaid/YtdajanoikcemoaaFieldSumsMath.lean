/- Sums and multiples of coefficient lists. -/
import Derived.Test.YtdajanoikcemoaaFieldMath
namespace Go.Proofs.Ytdajanoikcemoaa.Fm
def sumR : List Int → List Int → List Int
  | [], [] => []
  | a :: as, [] => a :: sumR as []
  | [], b :: bs => ad 0 b :: sumR [] bs
  | a :: as, b :: bs => ad a b :: sumR as bs
theorem sumR_length : ∀ (a b : List Int), (sumR a b).length = max a.length b.length
  | [], [] => by simp [sumR]
  | a :: as, [] => by have := sumR_length as []; simp only [sumR, List.length_cons, List.length_nil] at *; omega
  | [], b :: bs => by have := sumR_length [] bs; simp only [sumR, List.length_cons, List.length_nil] at *; omega
  | a :: as, b :: bs => by have := sumR_length as bs; simp only [sumR, List.length_cons] at *; omega
theorem sumR_get : ∀ (a b : List Int) (i : Nat), i < a.length ∨ i < b.length → (sumR a b).getD i 0 = if i < b.length then ad (if i < a.length then a.getD i 0 else 0) (b.getD i 0) else a.getD i 0
  | [], [], i, h => by simp at h
  | a :: as, [], 0, h => by simp [sumR]
  | a :: as, [], i + 1, h => by
    have := sumR_get as [] i (by simpa using h)
    simpa [sumR] using this
  | [], b :: bs, 0, h => by simp [sumR]
  | [], b :: bs, i + 1, h => by
    have := sumR_get [] bs i (by simpa using h)
    simpa [sumR] using this
  | a :: as, b :: bs, 0, h => by simp [sumR]
  | a :: as, b :: bs, i + 1, h => by
    have := sumR_get as bs i (by simpa using h)
    simpa [sumR] using this
theorem sumR_ev (x : Int) : ∀ (a b : List Int), cg (ev (sumR a b) x) (ev a x + ev b x)
  | [], [] => by simp only [sumR, ev, Int.add_zero]; exact cg_refl _
  | a :: as, [] => by
    have h := sumR_ev x as []
    simp only [sumR, ev, Int.add_zero] at *
    exact cg_add (cg_refl _) (cg_mul (cg_refl _) h)
  | [], b :: bs => by
    have h := sumR_ev x [] bs
    simp only [sumR, ev, Int.zero_add] at *
    refine cg_add (cg_trans (cg_ad _ _) ?_) (cg_mul (cg_refl _) h)
    rw [Int.zero_add]; exact cg_refl _
  | a :: as, b :: bs => by
    have h := sumR_ev x as bs
    simp only [sumR, ev] at *
    rw [show a + x * ev as x + (b + x * ev bs x) = (a + b) + x * (ev as x + ev bs x) by rw [Int.mul_add]; omega]
    exact cg_add (cg_ad _ _) (cg_mul (cg_refl _) h)
theorem sumR_val (a b : List Int) (x : Int) : val (sumR a b) x = ad (val a x) (val b x) := by
  have h := sumR_ev x a b
  have h2 : cg (val a x + val b x) (ev a x + ev b x) := cg_add (cg_mod _) (cg_mod _)
  exact cg_trans h (cg_symm h2)
theorem mulR_val (n : Int) (a : List Int) (x : Int) : val (a.map (ml n)) x = ml n (val a x) := by
  have h : ∀ l : List Int, cg (ev (l.map (ml n)) x) (n * ev l x) := by
    intro l
    induction l with
    | nil => simp only [List.map_nil, ev, Int.mul_zero]; exact cg_refl _
    | cons c l ih =>
      simp only [List.map_cons, ev]
      rw [Int.mul_add, Int.mul_left_comm]
      exact cg_add (cg_ml _ _) (cg_mul (cg_refl _) ih)
  exact cg_trans (h a) (cg_symm (cg_mul (cg_refl _) (cg_mod _)))
end Go.Proofs.Ytdajanoikcemoaa.Fm
