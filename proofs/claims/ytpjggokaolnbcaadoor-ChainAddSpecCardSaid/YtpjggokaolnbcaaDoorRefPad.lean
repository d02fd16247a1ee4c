/- The reference's digest: the bytes with their end. -/
import Derived.Test.YtpjggokaolnbcaaDoorRefBlock
import Derived.Test.YtpjggokaolnbcaaDoorCodec
namespace Go.Proofs.YtpjggokaolnbcaaDoor
open Go.RowKit
set_option linter.unusedVariables false
namespace Sh
/-- bytes of a number of 64 bits, the most significant one first -/
def beL (x : Int) : Nat → List Int
  | 0 => []
  | k + 1 => beL x k ++ [byte x (7 - k)]
theorem beL_length (x : Int) : ∀ k, (beL x k).length = k
  | 0 => rfl
  | k + 1 => by rw [beL, List.length_append, beL_length x k]; rfl
/-- how many zeros there are -/
def padN (n : Nat) : Nat := (119 - n % 64) % 64
def padR (bs : List Int) : List Int := (bs ++ [128] ++ List.replicate (padN bs.length) 0) ++ beL ((bs.length : Int) * 8) 8
theorem padR_length (bs : List Int) : (padR bs).length = bs.length + 1 + padN bs.length + 8 := by
  simp [padR, beL_length]; omega
theorem padR_mod (bs : List Int) : (padR bs).length % 64 = 0 := by
  rw [padR_length, padN]; omega
theorem padR_bytes {bs : List Int} (h : ∀ x ∈ bs, 0 ≤ x ∧ x < 256) : ∀ x ∈ padR bs, 0 ≤ x ∧ x < 256 := by
  have hb : ∀ y k, ∀ x ∈ beL y k, 0 ≤ x ∧ x < 256 := fun y k => by
    induction k with
    | zero => intro x hx; simp [beL] at hx
    | succ k ih =>
      intro x hx
      rcases List.mem_append.1 hx with h1 | h1
      · exact ih x h1
      · rw [List.mem_singleton] at h1
        subst h1
        exact byte_bd y (7 - k)
  intro x hx
  rcases List.mem_append.1 hx with h1 | h1
  · rcases List.mem_append.1 h1 with h2 | h2
    · rcases List.mem_append.1 h2 with h3 | h3
      · exact h x h3
      · rw [List.mem_singleton] at h3
        subst h3
        decide
    · have := List.eq_of_mem_replicate h2
      subst this
      decide
  · exact hb _ _ x h1
end Sh
theorem zeros_snoc (xs : List Int) (z : Nat) : xs ++ List.replicate (z + 1) 0 = xs ++ List.replicate z 0 ++ [(0 : Int)] := by
  rw [List.replicate_succ', List.append_assoc]
set_option maxRecDepth 100000 in
set_option maxHeartbeats 2000000 in
theorem rpadded_any (A : Option Addr) (n cap : Nat) (bs : List Int) (w : World) (hr : Rd w w.heap.size 1 A n (bs.map (Value.int .u8))) (hn : n ≤ 1000000) (hnc : n ≤ cap) :
    Calls Tryd.prog 56 #[.slice A n cap] w (BytesPost (Sh.padR bs) w) := by
  obtain ⟨i0, hi, hz0, hz1, hz2⟩ := info_parts infoU8c
  have hlen : bs.length = n := by simpa using hr.1
  have HL := Lib.hid hlen
  have hown := World.ownsRow_lit (e := 5) (size := 1) (base := w.heap.size) w #[] 0 (Nat.le_refl _) (by decide) rfl
  have hB := (Below.refl w.heap.size w).alloc (Nat.le_refl _) (.cells #[] 5)
  have HO := Lib.hid (And.intro hown (And.intro hB (hr.below hB)))
  clear hlen hown hB hr
  go_enter Tryd.func56, Tryd.ntmps56
  obtain ⟨hown, hB, hR⟩ := HO.out
  have T0 : One w w.heap.size (w.alloc (.cells #[] 5)) 5 1 (.slice (some ⟨w.heap.size, 0, none⟩) 0 0) 0 [] := ⟨hown, hB, hB.size⟩
  clear hown hB HO
  have HR := Lib.hid hR
  clear hR
  go_wp2_with (first | (at_builtin; refine wpList_append_rd _ rfl (.tmp 6) (.tmp 7) 23 rfl w.heap.size 5 i0 (.int .u8 0) 1 1 Tryd.underlying23 hi hz0 hz1 hz2 rfl (by decide) _ 0 _ (by rfl) T0.own w.heap.size _ n _ _ (by rfl) HR.out (u8_one _) (by unfold maxLen; omega) (by omega) T0.size ?_; intro v1 w1 ho1 hg1 _; have T1 := T0.grew ho1 hg1; clear ho1 hg1 T0) | (at_builtin; refine wpList_append_own_at _ rfl (.tmp 8) (.tmp 9) 23 rfl w.heap.size 5 i0 (.int .u8 0) 1 1 Tryd.underlying23 hi hz0 hz1 hz2 rfl (by decide) _ (0 + n) _ (by rfl) (T1.own.alloc _) _ 1 1 [.int .u8 128] (by rfl) rfl (one_at _ _ _ _ (by simp)) (fun u hu => by simp at hu; subst hu; rfl) (by unfold maxLen; omega) (by omega) (by have := T1.size; simp; omega) ?_; intro v2 w2 ho2 hg2 _ _))
  have T2 := (T1.alloc _).grew ho2 hg2
  have hT2 : One w w.heap.size w2 5 1 v2 (n + 1) ((bs ++ [128]).map (Value.int .u8)) := by
    have h := T2
    rw [Nat.zero_add, List.nil_append] at h
    rw [List.map_append]
    exact h
  clear T1 T2 ho2 hg2
  have HZ : Hid (Sh.padN bs.length = Sh.padN n) := by show _ = _; rw [HL.out]
  have hZ : Sh.padN n = (119 - n % 64) % 64 := rfl
  obtain ⟨Z, hZe⟩ : ∃ Z, Sh.padN n = Z := ⟨_, rfl⟩
  rw [hZe] at hZ HZ
  have hZ2 : Z ≤ 63 := by omega
  have HZ2 := Lib.hid hZ
  clear hZe hZ
  go_wp2
  go_loopw [3] (fun v wr => ∃ (z m c : Nat) (A' : Option Addr), z ≤ Z ∧ n + 1 + z = m ∧ v = .slice A' m c ∧ One w w.heap.size wr 5 1 v m ((bs ++ [128] ++ List.replicate z 0).map (Value.int .u8))) (fun v _ => 2000000 - lenOf v)
  case atStart =>
    obtain ⟨A', c, rfl, _⟩ := own_slice' hT2.own
    exact ⟨0, _, c, A', by omega, rfl, rfl, by simpa using hT2⟩
  case round =>
    clear hT2
    obtain ⟨z, m, c, A', hz, hm, rfl, T⟩ := hrel
    have HM := Lib.hid hm
    by_cases hlt : z < Z
    · have hne : ¬ (m : Int) % 64 = 56 := by have := HZ2.out; omega
      have hb1 : (((m : Int) % 64 == 56) : Bool) = false := by simpa using hne
      have hb2 : (((m : Int) % 64 != 56) : Bool) = true := by simpa using hne
      have hmb : m ≤ 1000100 := by omega
      clear hm hne
      go_wp2_with (at_builtin; refine wpList_append_own_at _ rfl (.tmp 15) (.tmp 16) 23 rfl w.heap.size 5 i0 (.int .u8 0) 1 1 Tryd.underlying23 hi hz0 hz1 hz2 rfl (by decide) _ m _ (by rfl) (T.own.alloc _) _ 1 1 [.int .u8 0] (by rfl) rfl (one_at _ _ _ _ (by simp)) (fun u hu => by simp at hu; subst hu; rfl) (by unfold maxLen; omega) (by omega) (by have := T.size; simp; omega) ?_; intro v3 w3 ho3 hg3 _ _)
      have T3 := (T.alloc _).grew ho3 hg3
      clear ho3 hg3 T
      obtain ⟨A3, c3, rfl, _⟩ := own_slice' T3.own
      go_wp2
      go_roundw
      case rel => exact ⟨z + 1, m + 1, c3, A3, by omega, by have := HM.out; omega, rfl, by rw [zeros_snoc, List.map_append]; exact T3⟩
      case measure => simp [lenOf]; omega
    · obtain rfl : z = Z := by omega
      have heq : (m : Int) % 64 = 56 := by have := HZ2.out; omega
      have hb1 : (((m : Int) % 64 == 56) : Bool) = true := by simpa using heq
      have hb2 : (((m : Int) % 64 != 56) : Bool) = false := by simpa using heq
      have HE := Lib.hid heq
      have hmb : m ≤ 1000100 := by omega
      have n1 : (n : Int) ≤ 1000000 := by omega
      clear hm heq
      go_wp2
      obtain ⟨X, hX⟩ : ∃ X : List Int, bs ++ [128] ++ List.replicate z 0 = X := ⟨_, rfl⟩
      rw [hX] at T
      have HX := Lib.hid hX
      clear hX
      obtain ⟨x, hx⟩ : ∃ x : Int, (n : Int) * 8 = x := ⟨_, rfl⟩
      have x0 : 0 ≤ x := by omega
      have x1 : x ≤ 8000000 := by omega
      rw [hx]
      have HXX := Lib.hid hx
      clear hx
      go_loopw [3, 5] (fun v i wr => ∃ (k m' c : Nat) (A' : Option Addr), k ≤ 8 ∧ i = .int .i64 (7 - (k : Int)) ∧ m + k = m' ∧ v = .slice A' m' c ∧ One w w.heap.size wr 5 1 v m' ((X ++ Sh.beL x k).map (Value.int .u8))) (fun _ i _ => (intOf i + 1).toNat)
      case atStart => exact ⟨0, m, c, A', by omega, rfl, rfl, rfl, by rw [Sh.beL, List.append_nil]; exact T⟩
      case round =>
        clear T
        obtain ⟨k, m', c', A'', hk, rfl, hm', rfl, T⟩ := hrel
        have HM2 := Lib.hid hm'
        by_cases hlt : k < 8
        · obtain ⟨j, hj⟩ : ∃ j : Nat, 7 - k = j := ⟨_, rfl⟩
          have hj7 : (7 : Int) - (k : Int) = (j : Int) := by omega
          have j8 : j ≤ 7 := by omega
          rw [hj7]
          have HB : Hid (Sh.beL x (k + 1) = Sh.beL x k ++ [Sh.byte x j]) := by show _ = _; rw [Sh.beL, hj]
          have HJ := Lib.hid hj7
          have hmb' : m' ≤ 1000200 := by omega
          clear hm' hj hj7
          go_wp2_with (at_builtin; refine wpList_append_own_at _ rfl (.tmp 26) (.tmp 32) 23 rfl w.heap.size 5 i0 (.int .u8 0) 1 1 Tryd.underlying23 hi hz0 hz1 hz2 rfl (by decide) _ m' _ (by rfl) (T.own.alloc _) _ 1 1 [.int .u8 (Sh.byte x j)] (by rfl) rfl (one_at _ _ _ _ (by simp)) (fun u hu => by simp at hu; subst hu; rfl) (by unfold maxLen; omega) (by omega) (by have := T.size; simp; omega) ?_; intro v3 w3 ho3 hg3 _ _)
          have T3 := (T.alloc _).grew ho3 hg3
          clear ho3 hg3 T
          obtain ⟨A3, c3, rfl, _⟩ := own_slice' T3.own
          go_wp2
          go_roundw
          case rel => exact ⟨k + 1, m' + 1, c3, A3, by omega, by have := HJ.out; congr 1; omega, by have := HM2.out; omega, rfl, by rw [HB.out, ← List.append_assoc, List.map_append]; exact T3⟩
          case measure => simp [intOf]
        · obtain rfl : k = 8 := by omega
          obtain ⟨A3, c3, hs3, hR3, hl3, hc3⟩ := own_slice' T.own
          injection hs3 with e1 e2 e3
          subst e1; subst e3
          have HP : Hid (Sh.padR bs = X ++ Sh.beL x 8) := by
            show _ = _
            rw [Sh.padR, HL.out, HXX.out, ← HX.out]
            have := HZ.out
            rw [HL.out] at this
            rw [this]
          have HPL : Hid ((Sh.padR bs).length = m') := by
            show _ = _
            have h := T.own.1
            rw [List.length_map, ← HP.out, Nat.mul_one] at h
            exact h
          have hB := T.bel
          have HF := Lib.hid (And.intro hR3 (And.intro hl3 hc3))
          clear hR3 hl3 hc3 T hm'
          go_wp2
          go_ret
          refine ⟨A'', c', by rw [HPL.out]; rfl, ?_, by rw [HPL.out]; exact HF.out.2.1, HF.out.2.2, hB⟩
          rw [HPL.out, HP.out]
          exact HF.out.1
end Go.Proofs.YtpjggokaolnbcaaDoor
