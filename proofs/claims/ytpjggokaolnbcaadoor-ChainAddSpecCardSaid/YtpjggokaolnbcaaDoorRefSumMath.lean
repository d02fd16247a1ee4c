/- The reference's digest, the plain law: the blocks of the bytes with their end lead to the program's last state, and the bytes of the state are the same. -/
import Derived.Test.YtpjggokaolnbcaaDoorRefPad
namespace Go.Proofs.YtpjggokaolnbcaaDoor
open Go.RowKit
set_option linter.unusedVariables false
namespace Sh
theorem g_app (a b : List Int) (i : Nat) : (a ++ b).getD i 0 = if i < a.length then a.getD i 0 else b.getD (i - a.length) 0 := by
  simp only [List.getD_eq_getElem?_getD, List.getElem?_append]
  split <;> rfl
theorem g_drop (l : List Int) (n i : Nat) : (l.drop n).getD i 0 = l.getD (n + i) 0 := by
  simp only [List.getD_eq_getElem?_getD, List.getElem?_drop]
theorem g_take (l : List Int) (n i : Nat) : (l.take n).getD i 0 = if i < n then l.getD i 0 else 0 := by
  simp only [List.getD_eq_getElem?_getD, List.getElem?_take]
  split <;> rfl
theorem g_set (l : List Int) (j i : Nat) (x : Int) : (l.set j x).getD i 0 = if i = j ∧ j < l.length then x else l.getD i 0 := by
  simp only [List.getD_eq_getElem?_getD, List.getElem?_set]
  by_cases h : j = i
  · subst h
    by_cases h2 : j < l.length
    · simp [h2]
    · simp [h2]
  · rw [if_neg h, if_neg (by omega)]
theorem g_zero (n i : Nat) : (List.replicate n (0 : Int)).getD i 0 = 0 := by
  simp only [List.getD_eq_getElem?_getD, List.getElem?_replicate]
  split <;> rfl
theorem g_out (l : List Int) (i : Nat) (h : l.length ≤ i) : l.getD i 0 = 0 := by
  simp only [List.getD_eq_getElem?_getD, List.getElem?_eq_none h]
  rfl
theorem g_ext {a b : List Int} (h : a.length = b.length) (hg : ∀ i, i < a.length → a.getD i 0 = b.getD i 0) : a = b := by
  apply List.ext_getElem h
  intro i h1 h2
  have := hg i h1
  simpa [List.getD_eq_getElem?_getD, List.getElem?_eq_getElem h1, List.getElem?_eq_getElem h2] using this
theorem g_put (l : List Int) (o m : Nat) (n : Int) (ho : o + m ≤ l.length) : ∀ k, k ≤ m → ∀ i, (put l o m n k).getD i 0 = if o + (m - k) ≤ i ∧ i < o + m then byte n (o + m - 1 - i) else l.getD i 0
  | 0, _, i => by rw [put, if_neg (by omega)]
  | k + 1, hk, i => by
    rw [put, g_set, put_length, g_put l o m n ho k (by omega) i]
    by_cases h : i = o + (m - 1 - k)
    · rw [if_pos ⟨h, by omega⟩, if_pos (by omega), show o + m - 1 - i = k by omega]
    · rw [if_neg (by omega)]
      by_cases h2 : o + (m - k) ≤ i ∧ i < o + m
      · rw [if_pos h2, if_pos (by omega)]
      · rw [if_neg h2, if_neg (by omega)]
theorem g_beL (x : Int) : ∀ k, k ≤ 8 → ∀ i, (beL x k).getD i 0 = if i < k then byte x (7 - i) else 0
  | 0, _, i => by rw [beL, if_neg (by omega)]; rfl
  | k + 1, hk, i => by
    rw [beL, g_app, beL_length, g_beL x k (by omega) i]
    by_cases h : i < k
    · rw [if_pos h, if_pos h, if_pos (by omega)]
    · rw [if_neg h]
      by_cases h2 : i = k
      · rw [h2, Nat.sub_self, if_pos (by omega)]; rfl
      · rw [if_neg (by omega), g_out _ _ (by simp; omega)]
theorem g_pre (rest : List Int) (h : rest.length < 64) (i : Nat) : (pre rest).getD i 0 = if i = rest.length then 128 else rest.getD i 0 := by
  rw [pre, g_set, List.length_append, List.length_drop, zer, List.length_replicate]
  by_cases h1 : i = rest.length
  · rw [if_pos (by omega), if_pos h1]
  · rw [if_neg (by omega), if_neg h1, g_app]
    by_cases h2 : i < rest.length
    · rw [if_pos h2]
    · rw [if_neg h2, g_drop, g_zero, g_out _ _ (by omega)]
theorem g_tail (rest : List Int) (h : rest.length < 64) (o : Nat) (ho : o + 8 ≤ 128) (n : Int) (i : Nat) :
    (tail rest o n).getD i 0 = if o ≤ i ∧ i < o + 8 then byte n (o + 7 - i) else if i = rest.length then 128 else rest.getD i 0 := by
  rw [tail, g_put _ _ _ _ (by rw [pre_length (by omega)]; omega) 8 (Nat.le_refl _), g_pre rest h]
  by_cases h1 : o ≤ i ∧ i < o + 8
  · rw [if_pos (by omega), if_pos h1, show o + 8 - 1 - i = o + 7 - i by omega]
  · rw [if_neg (by omega), if_neg h1]
theorem g_padR (bs : List Int) (i : Nat) : (padR bs).getD i 0 = if bs.length + 1 + padN bs.length ≤ i ∧ i < bs.length + 1 + padN bs.length + 8 then byte ((bs.length : Int) * 8) (bs.length + 1 + padN bs.length + 7 - i) else if i = bs.length then 128 else bs.getD i 0 := by
  rw [padR, g_app, g_app, g_app, g_beL _ 8 (Nat.le_refl _), g_zero]
  simp only [List.length_append, List.length_replicate, List.length_singleton]
  by_cases h1 : i < bs.length
  · rw [if_pos (by omega), if_pos (by omega), if_pos h1, if_neg (by omega), if_neg (by omega)]
  · by_cases h2 : i = bs.length
    · rw [if_pos (by omega), if_pos (by omega), if_neg h1, if_neg (by omega), if_pos h2, h2, Nat.sub_self]; rfl
    · by_cases h3 : i < bs.length + 1 + padN bs.length
      · rw [if_pos h3, if_neg (by omega), if_neg (by omega), if_neg h2, g_out bs i (by omega)]
      · by_cases h4 : i < bs.length + 1 + padN bs.length + 8
        · rw [if_neg h3, if_pos (by omega), if_pos (by omega)]
          congr 1
          omega
        · rw [if_neg h3, if_neg (by omega), if_neg (by omega), if_neg h2, g_out bs i (by omega)]
/-- blocks that are equal lead to equal states -/
theorem sb_eq (c : Cst) (a b : List Int) : ∀ j, (∀ k, k < j → (a.drop (64 * k)).take 64 = (b.drop (64 * k)).take 64) → sb c a j = sb c b j
  | 0, _ => rfl
  | j + 1, h => by rw [sb, sb, sb_eq c a b j (fun k hk => h k (by omega)), h j (by omega)]
theorem blk_eq (a b : List Int) (s t : Nat) (ha : s + 64 ≤ a.length) (hb : t + 64 ≤ b.length) (h : ∀ i, i < 64 → a.getD (s + i) 0 = b.getD (t + i) 0) : (a.drop s).take 64 = (b.drop t).take 64 := by
  refine g_ext ?_ fun i hi => ?_
  · simp only [List.length_take, List.length_drop]; omega
  · simp only [List.length_take, List.length_drop] at hi
    rw [g_take, g_take, g_drop, g_drop, if_pos (by omega), if_pos (by omega), h i (by omega)]
theorem last_join (c : Cst) (bs : List Int) : sb c (padR bs) ((padR bs).length / 64) = lastState c bs := by
  have hl := padR_length bs
  have hp : padN bs.length = (119 - bs.length % 64) % 64 := rfl
  have hq : ∀ q, 64 * q ≤ bs.length → sb c (padR bs) q = sb c bs q := fun q hq => sb_eq c _ _ q fun k hk => blk_eq _ _ _ _ (by omega) (by omega) fun i hi => by
    rw [g_padR, if_neg (by omega), if_neg (by omega)]
  have hr : (bs.drop (64 * (bs.length / 64))).length = bs.length % 64 := by rw [List.length_drop]; omega
  unfold lastState
  by_cases h : bs.length % 64 ≤ 55
  · rw [if_pos h, show (padR bs).length / 64 = bs.length / 64 + 1 by omega, sb, hq _ (by omega)]
    congr 1
    have e := blk_eq (padR bs) (tail (bs.drop (64 * (bs.length / 64))) 56 (bs.length * 8)) (64 * (bs.length / 64)) 0 (by omega) (by rw [tail_length (by omega)]; omega) fun i hi => by
      rw [g_padR, Nat.zero_add, g_tail _ (by omega) 56 (by omega), hr, g_drop]
      by_cases h1 : 56 ≤ i
      · rw [if_pos (by omega), if_pos (by omega)]
        congr 1
        omega
      · by_cases h2 : i = bs.length % 64
        · rw [if_neg (by omega), if_pos (by omega), if_neg (by omega), if_pos h2]
        · rw [if_neg (by omega), if_neg (by omega), if_neg (by omega), if_neg h2]
    rw [List.drop_zero] at e
    exact e
  · rw [if_neg h, show (padR bs).length / 64 = bs.length / 64 + 1 + 1 by omega, sb, sb, hq _ (by omega)]
    have e := blk_eq (padR bs) (tail (bs.drop (64 * (bs.length / 64))) 120 (bs.length * 8)) (64 * (bs.length / 64)) 0 (by omega) (by rw [tail_length (by omega)]; omega) fun i hi => by
      rw [g_padR, Nat.zero_add, g_tail _ (by omega) 120 (by omega), hr, g_drop]
      by_cases h2 : i = bs.length % 64
      · rw [if_neg (by omega), if_pos (by omega), if_neg (by omega), if_pos h2]
      · rw [if_neg (by omega), if_neg (by omega), if_neg (by omega), if_neg h2]
    have e2 := blk_eq (padR bs) (tail (bs.drop (64 * (bs.length / 64))) 120 (bs.length * 8)) (64 * (bs.length / 64 + 1)) 64 (by omega) (by rw [tail_length (by omega)]; omega) fun i hi => by
      rw [g_padR, g_tail _ (by omega) 120 (by omega), hr, g_drop]
      by_cases h1 : 56 ≤ i
      · rw [if_pos (by omega), if_pos (by omega)]
        congr 1
        omega
      · rw [if_neg (by omega), if_neg (by omega), if_neg (by omega), if_neg (by omega), g_out bs _ (by omega), g_out bs _ (by omega)]
    rw [List.drop_zero] at e
    rw [e, e2]
/-- the reference's bytes of the state -/
def rbyte (s : List Int) (i : Nat) : Int := IntKind.u8.wrap (s.getD (i / 4) 0 / 2 ^ (24 - 8 * (i % 4)))
def outR (s : List Int) : Nat → List Int
  | 0 => List.replicate 32 0
  | i + 1 => (outR s i).set i (rbyte s i)
theorem outR_length (s : List Int) : ∀ q, (outR s q).length = 32
  | 0 => by rw [outR, List.length_replicate]
  | q + 1 => by rw [outR, List.length_set, outR_length s q]
theorem g_outR (s : List Int) : ∀ k, k ≤ 32 → ∀ i, (outR s k).getD i 0 = if i < k then rbyte s i else 0
  | 0, _, i => by rw [outR, g_zero, if_neg (by omega)]
  | k + 1, hk, i => by
    rw [outR, g_set, outR_length, g_outR s k (by omega) i]
    by_cases h : i = k
    · rw [if_pos (by omega), if_pos (by omega), h]
    · rw [if_neg (by omega)]
      by_cases h2 : i < k
      · rw [if_pos h2, if_pos (by omega)]
      · rw [if_neg h2, if_neg (by omega)]
theorem g_outP (s : List Int) : ∀ q, q ≤ 8 → ∀ i, (out s q).getD i 0 = if i < 4 * q then byte (IntKind.u64.wrap (s.getD (i / 4) 0)) (3 - i % 4) else 0
  | 0, _, i => by rw [out, g_zero, if_neg (by omega)]
  | q + 1, hq, i => by
    rw [out, g_put _ _ _ _ (by rw [out_length]; omega) 4 (Nat.le_refl _), g_outP s q (by omega) i]
    by_cases h : 4 * q ≤ i ∧ i < 4 * q + 4
    · rw [if_pos (by omega), if_pos (by omega), show i / 4 = q by omega, show 4 * q + 4 - 1 - i = 3 - i % 4 by omega]
    · rw [if_neg (by omega)]
      by_cases h2 : i < 4 * q
      · rw [if_pos h2, if_pos (by omega)]
      · rw [if_neg h2, if_neg (by omega)]
/-- numbers of 32 bits -/
def W32 (s : List Int) : Prop := ∀ i, 0 ≤ s.getD i 0 ∧ s.getD i 0 < 4294967296
theorem out_join {s : List Int} (h : W32 s) : outR s 32 = out s 8 := by
  refine g_ext (by rw [outR_length, out_length]) fun i hi => ?_
  rw [outR_length] at hi
  rw [g_outR s 32 (Nat.le_refl _), g_outP s 8 (Nat.le_refl _), if_pos hi, if_pos (by omega)]
  obtain ⟨h1, h2⟩ := h (i / 4)
  unfold rbyte byte
  have e : IntKind.u64.wrap (s.getD (i / 4) 0) = s.getD (i / 4) 0 := by
    rw [show IntKind.u64.wrap (s.getD (i / 4) 0) = s.getD (i / 4) 0 % 18446744073709551616 by simp [IntKind.wrap, IntKind.bits, IntKind.signed]]
    omega
  rw [e, show 8 * (3 - i % 4) = 24 - 8 * (i % 4) by omega]
theorem fin8 (a b : List Int) (ha : a.length = 8) : W32 (fin a b 8) := by
  have h : ∀ q, q ≤ 8 → ∀ i, i < q → 0 ≤ (fin a b q).getD i 0 ∧ (fin a b q).getD i 0 < 4294967296 := by
    intro q
    induction q with
    | zero => intro _ i hi; omega
    | succ q ih =>
      intro hq i hi
      rw [fin, g_set, fin_length]
      by_cases h : i = q
      · rw [if_pos (by omega)]; omega
      · rw [if_neg (by omega)]; exact ih (by omega) i (by omega)
  intro i
  by_cases hi : i < 8
  · exact h 8 (Nat.le_refl _) i hi
  · rw [g_out _ _ (by rw [fin_length]; omega)]; omega
theorem block_W32 (c : Cst) (st bl : List Int) (h : st.length = 8) : W32 (block c st bl) := by
  rw [block, c.hd]
  exact fin8 _ _ h
theorem last_W32 (c : Cst) (bs : List Int) : W32 (lastState c bs) := by
  unfold lastState
  split
  · exact block_W32 c _ _ (sb_length _ _ _)
  · exact block_W32 c _ _ (by rw [block_length, sb_length])
theorem sum_join (c : Cst) (bs : List Int) : outR (sb c (padR bs) ((padR bs).length / 64)) 32 = sum c bs := by
  rw [last_join, out_join (last_W32 c bs), sum, c.hd]
end Sh
end Go.Proofs.YtpjggokaolnbcaaDoor
