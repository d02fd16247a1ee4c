/- Closed facts of the sanity examples. -/
import Derived.Test.YtdajanoikcemoaaFieldMath
namespace Go.Proofs.Ytdajanoikcemoaa
namespace Fm
theorem inv_2 : inv 2 = 536870895 := by
  have h1 : cg (2 * inv 2) 1 := mul_inv (by decide)
  have h2 := cg_mul (cg_refl 536870895) h1
  have h3 : cg (inv 2) (536870895 * (2 * inv 2)) := by unfold cg; omega
  exact eq_of_cg (cg_trans h3 (cg_trans h2 (by unfold cg; decide))) (inv_lo _) (inv_hi _) (by decide) (by decide)
theorem lag_12 : lag [(1, 3), (2, 5)] 0 = 1 := by
  have hd : dif [(1, 3), (2, 5)] := by
    refine ⟨fun y hy => ?_, ?_, trivial⟩
    · simp at hy; subst hy; unfold cg; decide
    · intro y hy; cases hy
  have h := lag_val [(1, 3), (2, 5)] [1, 2] hd (by decide) (by
    intro q hq
    simp at hq
    rcases hq with rfl | rfl <;> rfl) 0
  rw [h]; rfl
theorem dif_12 : dif [(1, 3), (2, 5)] := by
  refine ⟨fun y hy => ?_, ?_, trivial⟩
  · simp at hy; subst hy; unfold cg; decide
  · intro y hy; cases hy
theorem dif_1q : ¬ dif [(1, 5), (-1073741788, 5)] := by
  rintro ⟨h, _⟩
  exact h (-1073741788) (by simp) (by unfold cg; decide)
theorem lag_nil (x : Int) : lag [] x = 0 := rfl
theorem val_123 : val [1, 2, 3] 10 = 321 := rfl
theorem val_nil (x : Int) : val [] x = 0 := rfl
end Fm
end Go.Proofs.Ytdajanoikcemoaa
