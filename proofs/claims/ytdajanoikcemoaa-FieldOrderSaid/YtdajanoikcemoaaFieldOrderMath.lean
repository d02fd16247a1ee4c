/- Points in another order, and a further one: the mathematics. -/
import Derived.Test.YtdajanoikcemoaaOneRow
namespace Go.Proofs.Ytdajanoikcemoaa.Fm
theorem diff_mk : ∀ {us vs : List Int}, (∀ a ∈ us, ∀ b ∈ vs, ¬ cg a b) → diff us → diff vs → diff (us ++ vs)
  | [], _, _, _, h => h
  | a :: us, vs, h, h1, h2 => by
    refine ⟨fun y hy => ?_, diff_mk (fun x hx => h x (List.mem_cons_of_mem _ hx)) h1.2 h2⟩
    rcases List.mem_append.1 hy with hy | hy
    · exact h1.1 y hy
    · exact h a List.mem_cons_self y hy
/-- the list from its k-th element on, then the first k -/
def turn (l : List Pt) (k : Nat) : List Pt := l.drop k ++ l.take k
theorem turn_length (l : List Pt) (k : Nat) : (turn l k).length = l.length := by
  unfold turn; rw [List.length_append, List.length_drop, List.length_take]; omega
theorem turn_mem {l : List Pt} {k : Nat} {q : Pt} (h : q ∈ turn l k) : q ∈ l := by
  unfold turn at h
  rcases List.mem_append.1 h with h | h
  · exact List.mem_of_mem_drop h
  · exact List.mem_of_mem_take h
theorem turn_dif {l : List Pt} (k : Nat) (h : dif l) : dif (turn l k) := by
  unfold dif turn at *
  rw [List.map_append]
  have h0 : l.map (fun q => q.1) = (l.take k).map (fun q => q.1) ++ (l.drop k).map (fun q => q.1) := by
    rw [← List.map_append, List.take_append_drop]
  rw [h0] at h
  obtain ⟨h1, h2, h3⟩ := diff_append h
  exact diff_mk (fun a ha b hb hab => h1 b hb a ha (cg_symm hab)) h3 h2
theorem turn_lag {l : List Pt} (k : Nat) (h : dif l) (x : Int) : lag (turn l k) x = lag l x :=
  (lag_same l (turn l k) (turn_dif k h) (by rw [turn_length]; exact Nat.le_refl _) (fun q hq => lag_at l h q (turn_mem hq)) x).symm
theorem md_lag (l : List Pt) (x : Int) : md (lag l x) = lag l x := by
  have h1 := lag_lo l x
  have h2 := lag_hi l x
  unfold md
  exact Int.emod_eq_of_lt h1 h2
theorem more_lag {l : List Pt} {x : Int} (h : dif l) (hm : dif (l ++ [(x, lag l x)])) (at_ : Int) : lag (l ++ [(x, lag l x)]) at_ = lag l at_ :=
  (lag_same l (l ++ [(x, lag l x)]) hm (by simp) (fun q hq => by
    rcases List.mem_append.1 hq with hq | hq
    · exact lag_at l h q hq
    · obtain rfl : q = (x, lag l x) := by simpa using hq
      exact (md_lag l x).symm) at_).symm
end Go.Proofs.Ytdajanoikcemoaa.Fm
namespace Go.Proofs.Ytdajanoikcemoaa
open Go.RowKit
theorem cellsP_app (a b : List Fm.Pt) : cellsP (a ++ b) = cellsP a ++ cellsP b := by simp [cellsP]
theorem cellsP_take (l : List Fm.Pt) : ∀ k, (cellsP l).take (k * 2) = cellsP (l.take k) := by
  induction l with
  | nil => intro k; simp [cellsP]
  | cons q l ih =>
    intro k
    cases k with
    | zero => simp [cellsP]
    | succ k =>
      have h := ih k
      have e : (k + 1) * 2 = k * 2 + 1 + 1 := by omega
      simp only [cellsP, List.flatMap_cons, List.take_succ_cons, List.cons_append, List.nil_append, e] at *
      rw [h]
theorem cellsP_drop (l : List Fm.Pt) : ∀ k, (cellsP l).drop (k * 2) = cellsP (l.drop k) := by
  induction l with
  | nil => intro k; simp [cellsP]
  | cons q l ih =>
    intro k
    cases k with
    | zero => simp
    | succ k =>
      have h := ih k
      have e : (k + 1) * 2 = k * 2 + 1 + 1 := by omega
      simp only [cellsP, List.flatMap_cons, List.drop_succ_cons, List.cons_append, List.nil_append, e] at *
      exact h
theorem cellsP_one (l : List Fm.Pt) : ∀ u ∈ cellsP l, u.oneCell' = true := by
  intro u hu
  obtain ⟨q, _, h⟩ := List.mem_flatMap.1 hu
  simp at h
  rcases h with rfl | rfl <;> rfl
theorem u8_wf {t : Int} (h : (Lit.int .u8 t).wf = true) : ∃ m : Nat, t = (m : Int) ∧ m ≤ 255 := by
  have h1 : (decide (IntKind.min .u8 ≤ t) && decide (t ≤ IntKind.max .u8)) = true := h
  rw [Bool.and_eq_true, decide_eq_true_iff, decide_eq_true_iff] at h1
  have a : (0 : Int) ≤ t := h1.1
  have b : t ≤ 255 := h1.2
  exact ⟨t.toNat, by omega, by omega⟩
theorem wp_at {P : Program} {o : Oper} {a : Act} {ops : Array Oper} {w : World} {K : Act → World → Prop} {Q : Exit → Act → World → Prop} {E : Prop} (hgd : o.guard = none) (h : Oper.wp P o a w K Q) :
    if Region.wanted o (yielded ops a.tmps) = true then Oper.wp P o a w K Q else E := by
  have hw : Region.wanted o (yielded ops a.tmps) = true := by simp [Region.wanted, hgd]
  rw [if_pos hw]
  exact h
end Go.Proofs.Ytdajanoikcemoaa
