/- Values of sums of polynomials are sums of values, and values of multiples are multiples (at most 100 coefficients). -/
import Derived.Test.YtdajanoikcemoaaRows
import Derived.Test.YtdajanoikcemoaaTwoRows
import Derived.Test.YtdajanoikcemoaaFieldSumsMath
import Derived.WalkKit
import Derived.ProofKit
import Derived.OpenShut
import Derived.ChangeOld
import Derived.Below
namespace Go.Proofs.Ytdajanoikcemoaa.fieldSums
open Go.ChangeShapes Go.WideShapes Go.ChangeAt Go.RowKit
set_option linter.unusedVariables false

theorem own : ownKnob Try.prog.godebug = none := by kernel_rfl
theorem laidOut : laidOutB Try.prog = true := by kernel_rfl
theorem one_atg (w : World) (x : Value) (t : TypeId) (g : Nat) (hg : g = w.heap.size) : ∀ (j : Nat) (u : Value), [x][j]? = some u → (w.alloc (.cells #[x] t)).cell? ((⟨g, 0, none⟩ : Addr).add j) = some u := by
  subst hg; exact one_at w x t
theorem own_slice {w : World} {base : Nat} {e : TypeId} {v : Value} {size n : Nat} {xs : List Value} (h : w.ownsRow base e size v n xs) : ∃ A c, v = .slice A n c ∧ Rd w w.heap.size size A n xs := by
  have h0 := h
  rcases h.2 with ⟨rfl, rfl⟩ | ⟨g, cap, cur, rfl, _⟩
  · exact ⟨_, _, rfl, h0.1, fun h => absurd h (by omega)⟩
  · exact ⟨_, _, rfl, Rd.of_own h0⟩
theorem infoInt : (Try.prog.info? 3).map (fun i => (i.zero, i.size, i.bytes)) = some (some (.int .i64 0), 1, 8) := by kernel_rfl
theorem row_next (zs : List Int) (k : Nat) (v : Int) (h : k < zs.length) (hv : zs.getD k 0 = v) : (zs.take k).map (Value.int .i64) ++ [.int .i64 v] = (zs.take (k + 1)).map (Value.int .i64) := by
  rw [take_snoc zs k h, hv, List.map_append]; rfl
theorem mul_next (zs : List Int) (q : Int) (k : Nat) (h : k < zs.length) : ((zs.take k).map (Fm.ml q)).map (Value.int .i64) ++ [.int .i64 (Fm.ml q (zs.getD k 0))] = ((zs.take (k + 1)).map (Fm.ml q)).map (Value.int .i64) := by
  rw [take_snoc zs k h, List.map_append, List.map_append]; rfl
set_option maxRecDepth 100000 in
set_option maxHeartbeats 4000000 in
theorem walk (A : Option Addr) (n c : Nat) (za : List Int) (A' : Option Addr) (n' c' : Nat) (zb : List Int) (q x : Int) (w : World)
    (hp : Rd w w.heap.size 1 A n (za.map (Value.int .i64)) ∧ n ≤ c ∧ c ≤ maxLen ∧ za.length = n ∧ ∀ x ∈ za, (Lit.int .i64 x).wf = true)
    (hq : Rd w w.heap.size 1 A' n' (zb.map (Value.int .i64)) ∧ n' ≤ c' ∧ c' ≤ maxLen ∧ zb.length = n' ∧ ∀ x ∈ zb, (Lit.int .i64 x).wf = true)
    (hq1 : (Lit.int .i64 q).wf = true) (hx : (Lit.int .i64 x).wf = true) :
    Calls Try.prog 8 #[.slice A n c, .slice A' n' c', .int .i64 q, .int .i64 x] w fun e w' => e = .returned (.bool true) ∧ Below w.heap.size w w' := by
  obtain ⟨hp, hn, hm, hl, _⟩ := hp
  obtain ⟨hq, hn', hm', hl', _⟩ := hq
  unfold maxLen at hm hm'
  obtain ⟨i0, hi, hz0, hz1, hz2⟩ := info_parts infoInt
  by_cases h1 : n ≤ 100
  · by_cases h2 : n' ≤ 100
    · have g1 : (n : Int) ≤ 100 := by omega
      have g2 : (n' : Int) ≤ 100 := by omega
      rcases Nat.lt_or_ge n n' with hcm | hcm
      · have g3 : (n : Int) < n' := by omega
        have g4 : (n : Int) ≤ n' := by omega
        go_enter Try.func8, Try.ntmps8
        go_wp2_with fail
        refine (sane_any _).mono ?_
        rintro e w1 ⟨rfl, hb⟩
        have hbs := hb.size
        have hp1 := (hp.below hb).more hbs
        have hq1 := (hq.below hb).more hbs
        go_wp2
        go_loopw [10, 9, 28] (fun u v i wr => ∃ k : Nat, k ≤ n' ∧ i = .int .i64 k ∧ Two w1 w1.heap.size wr 3 v u k (((Fm.sumR za zb).take k).map (Value.int .i64)) (min k n) (((za.take k).map (Fm.ml q)).map (Value.int .i64))) (fun _ _ i _ => n' - (intOf i).toNat)
        case atStart => exact ⟨0, Nat.zero_le _, rfl, by simpa using Two.start w1 3⟩
        case round =>
          obtain ⟨k, hk, rfl, T⟩ := hrel
          by_cases hkb : k < n'
          · by_cases hka : k < n
            · skip
              have hTs := T.size
              have hk1 : k + 1 ≤ n' := by omega
              have kk : (k : Int) < n' := by omega
              obtain ⟨b, o, rfl, hbb, hca⟩ := ints_at hp1 hka
              obtain ⟨xa, hxa⟩ : ∃ xa, za.getD k 0 = xa := ⟨_, rfl⟩
              rw [hxa] at hca
              have hc := (T.bel.cell (p := ⟨b, o + k, none⟩) hbb).trans hca
              have m2 := mul_next za q k (by omega)
              rw [hxa] at m2
              have m3 : min k n + 1 = min (k + 1) n := by omega
              obtain ⟨b', o', rfl, hbb', hcb⟩ := ints_at hq1 hkb
              obtain ⟨xb, hxb⟩ : ∃ xb, zb.getD k 0 = xb := ⟨_, rfl⟩
              rw [hxb] at hcb
              have hcB : ∀ W, Below w1.heap.size w1 W → W.cell? ⟨b', o' + k, none⟩ = some (.int .i64 xb) := fun W h => (h.cell (p := ⟨b', o' + k, none⟩) hbb').trans hcb
              clear hcb
              have m1 := row_next (Fm.sumR za zb) k (Fm.ad (xa) (xb)) (by rw [Fm.sumR_length]; omega) (by rw [Fm.sumR_get za zb k (by omega)]; simp only [hl, hl', hka, hkb, if_true]; rw [hxa, hxb])
              clear hxa
              clear hxb
              have HM := Lib.hid m1; clear m1
              have HM2 := Lib.hid m2; clear m2
              have HM3 := Lib.hid m3; clear m3
              clear hca
              go_wp2_with (first | (go_at_call 16; (with_reducible refine (mul_any _ _ _).mono ?_); rintro e w' ⟨rfl, rfl⟩) | (go_at_call 14; (with_reducible refine (add_any _ _ _).mono ?_); rintro e w' ⟨rfl, rfl⟩; have T := T.alloc (.cells #[.int .i64 (xa), .int .i64 (xb)] 3)) | (at_builtin; refine wpList_append_own_at _ rfl (.tmp 39) (.tmp 46) 29 rfl w1.heap.size 3 i0 (.int .i64 0) 1 8 Try.underlying29 hi hz0 hz1 hz2 rfl (by decide) _ (min k n) _ (by rfl) (T.alloc (.cells #[.int .i64 (Fm.ml q (xa))] 3)).rig _ 1 1 [.int .i64 (Fm.ml q (xa))] (by rfl) rfl (one_atg _ _ _ _ (by simp)) (one_cell _) (by unfold maxLen; omega) (by omega) (T.alloc (.cells #[.int .i64 (Fm.ml q (xa))] 3)).size ?_; intro u' w2 ho hg _ hb2; have T := (T.alloc _).right ho hg hb2; clear ho hg hb2; have hc2 := hcB _ T.bel) | (at_builtin; refine wpList_append_own_at _ rfl (.tmp 58) (.tmp 60) 29 rfl w1.heap.size 3 i0 (.int .i64 0) 1 8 Try.underlying29 hi hz0 hz1 hz2 rfl (by decide) _ k _ (by rfl) (T.alloc (.cells #[.int .i64 (Fm.ad (xa) (xb))] 3)).lef _ 1 1 [.int .i64 (Fm.ad (xa) (xb))] (by rfl) rfl (one_atg _ _ _ _ (by simp)) (one_cell _) (by unfold maxLen; omega) (by omega) (T.alloc (.cells #[.int .i64 (Fm.ad (xa) (xb))] 3)).size ?_; intro v' w3 ho hg _ hb2; have T := (T.alloc _).left ho hg hb2; clear ho hg hb2))
              go_roundw
              case rel => exact ⟨k + 1, hk1, by go_num, by rw [← HM.out, ← HM2.out, ← HM3.out]; exact T⟩
              case measure => simp [intOf]; omega
            · skip
              have hTs := T.size
              have hk1 : k + 1 ≤ n' := by omega
              have kk : (k : Int) < n' := by omega
              have m2 : za.take (k + 1) = za.take k := by rw [List.take_of_length_le (by omega), List.take_of_length_le (by omega)]
              have m3 : min k n = min (k + 1) n := by omega
              obtain ⟨b', o', rfl, hbb', hcb⟩ := ints_at hq1 hkb
              obtain ⟨xb, hxb⟩ : ∃ xb, zb.getD k 0 = xb := ⟨_, rfl⟩
              rw [hxb] at hcb
              have hcB : ∀ W, Below w1.heap.size w1 W → W.cell? ⟨b', o' + k, none⟩ = some (.int .i64 xb) := fun W h => (h.cell (p := ⟨b', o' + k, none⟩) hbb').trans hcb
              clear hcb
              have m1 := row_next (Fm.sumR za zb) k (Fm.ad 0 (xb)) (by rw [Fm.sumR_length]; omega) (by rw [Fm.sumR_get za zb k (by omega)]; simp only [hl, hl', hka, hkb, if_true, if_false]; rw [hxb])
              clear hxb
              have HM := Lib.hid m1; clear m1
              have HM2 := Lib.hid m2; clear m2
              have HM3 := Lib.hid m3; clear m3
              have hc2 := hcB _ T.bel
              go_wp2_with (first | (go_at_call 14; (with_reducible refine (add_any _ _ _).mono ?_); rintro e w' ⟨rfl, rfl⟩; have T := T.alloc (.cells #[.int .i64 0, .int .i64 (xb)] 3)) | (at_builtin; refine wpList_append_own_at _ rfl (.tmp 58) (.tmp 60) 29 rfl w1.heap.size 3 i0 (.int .i64 0) 1 8 Try.underlying29 hi hz0 hz1 hz2 rfl (by decide) _ k _ (by rfl) (T.alloc (.cells #[.int .i64 (Fm.ad 0 (xb))] 3)).lef _ 1 1 [.int .i64 (Fm.ad 0 (xb))] (by rfl) rfl (one_atg _ _ _ _ (by simp)) (one_cell _) (by unfold maxLen; omega) (by omega) (T.alloc (.cells #[.int .i64 (Fm.ad 0 (xb))] 3)).size ?_; intro v' w3 ho hg _ hb2; have T := (T.alloc _).left ho hg hb2; clear ho hg hb2))
              go_roundw
              case rel => exact ⟨k + 1, hk1, by go_num, by rw [← HM.out, HM2.out, ← HM3.out]; exact T⟩
              case measure => simp [intOf]; omega
          · obtain rfl : n' = k := by omega
            have hTs := T.size
            have t1 : (Fm.sumR za zb).take n' = Fm.sumR za zb := List.take_of_length_le (by rw [Fm.sumR_length]; omega)
            have t2 : za.take n' = za := List.take_of_length_le (by omega)
            rw [t1] at T
            rw [t2] at T
            have t3 : min n' n = n := by omega
            rw [t3] at T
            clear t1 t2 t3
            obtain ⟨SA, sc, rfl, hS⟩ := own_slice T.lef
            obtain ⟨TA, tc, rfl, hT⟩ := own_slice T.rig
            have hp2 := (hp1.below T.bel).more T.size
            have hq2 := (hq1.below T.bel).more T.size
            have b0 := hb.trans (T.bel.mono hbs)
            clear T
            go_wp2_with fail
            refine (value_any _ _ _ (Fm.sumR za zb) _ _ hS (by omega)).mono ?_
            rintro e w4 ⟨he, hb4⟩
            rw [Fm.sumR_val] at he
            subst he
            have hbs4 := hb4.size
            have hp4 := (hp2.below hb4).more hbs4
            have hq4 := (hq2.below hb4).more hbs4
            have hT4 := (hT.below hb4).more hbs4
            have b4 := b0.trans (hb4.mono b0.size)
            clear hb4 b0 hS hT hp2 hq2
            go_wp2_with fail
            refine (value_any _ _ _ za _ _ hp4 (by omega)).mono ?_
            rintro e w5 ⟨rfl, hb5⟩
            have hbs5 := hb5.size
            have hp5 := (hp4.below hb5).more hbs5
            have hq5 := (hq4.below hb5).more hbs5
            have hT5 := (hT4.below hb5).more hbs5
            have b5 := b4.trans (hb5.mono b4.size)
            clear hb5 b4 hT4 hp4 hq4
            go_wp2_with fail
            refine (value_any _ _ _ zb _ _ hq5 (by omega)).mono ?_
            rintro e w6 ⟨rfl, hb6⟩
            have hbs6 := hb6.size
            have hp6 := (hp5.below hb6).more hbs6
            have hT6 := (hT5.below hb6).more hbs6
            have b6 := b5.trans (hb6.mono b5.size)
            clear hb6 b5 hT5 hp5 hq5
            go_wp2_with fail
            refine (add_any _ _ _).mono ?_
            rintro e w' ⟨rfl, rfl⟩
            have hp7 := (hp6.alloc (Nat.le_refl _) (.cells #[.int .i64 (Fm.val za x), .int .i64 (Fm.val zb x)] 3)).more (B' := w6.heap.size + 1) (by omega)
            have hT7 := (hT6.alloc (Nat.le_refl _) (.cells #[.int .i64 (Fm.val za x), .int .i64 (Fm.val zb x)] 3)).more (B' := w6.heap.size + 1) (by omega)
            have b7 := b6.alloc b6.size (.cells #[.int .i64 (Fm.val za x), .int .i64 (Fm.val zb x)] 3)
            clear hp6 hT6 b6
            go_wp2_with fail
            refine (value_any _ _ _ (za.map (Fm.ml q)) _ _ (by rw [World.size_alloc]; exact hT7) (by omega)).mono ?_
            rintro e w8 ⟨he, hb8⟩
            rw [Fm.mulR_val] at he
            subst he
            rw [World.size_alloc] at hb8
            have hbs8 := hb8.size
            rw [World.size_alloc] at hbs8
            have hp8 := (hp7.below hb8).more hbs8
            have b8 := b7.trans (hb8.mono (by have := b7.size; rwa [World.size_alloc] at this))
            clear hb8 b7 hT7 hp7
            go_wp2_with fail
            refine (value_any _ _ _ za _ _ hp8 (by omega)).mono ?_
            rintro e w9 ⟨rfl, hb9⟩
            have b9 := b8.trans (hb9.mono b8.size)
            clear hb9 b8 hp8
            go_wp2_with fail
            refine (mul_any _ _ _).mono ?_
            rintro e w' ⟨rfl, rfl⟩
            go_wp2
            go_ret
            exact ⟨rfl, b9⟩
      · have g3 : (n' : Int) ≤ n := by omega
        have g4 : ¬ (n : Int) < n' := by omega
        go_enter Try.func8, Try.ntmps8
        go_wp2_with fail
        refine (sane_any _).mono ?_
        rintro e w1 ⟨rfl, hb⟩
        have hbs := hb.size
        have hp1 := (hp.below hb).more hbs
        have hq1 := (hq.below hb).more hbs
        go_wp2
        go_loopw [10, 9, 28] (fun u v i wr => ∃ k : Nat, k ≤ n ∧ i = .int .i64 k ∧ Two w1 w1.heap.size wr 3 v u k (((Fm.sumR za zb).take k).map (Value.int .i64)) (min k n) (((za.take k).map (Fm.ml q)).map (Value.int .i64))) (fun _ _ i _ => n - (intOf i).toNat)
        case atStart => exact ⟨0, Nat.zero_le _, rfl, by simpa using Two.start w1 3⟩
        case round =>
          obtain ⟨k, hk, rfl, T⟩ := hrel
          by_cases hka : k < n
          · by_cases hkb : k < n'
            · skip
              have hTs := T.size
              have hk1 : k + 1 ≤ n := by omega
              have kk : (k : Int) < n := by omega
              obtain ⟨b, o, rfl, hbb, hca⟩ := ints_at hp1 hka
              obtain ⟨xa, hxa⟩ : ∃ xa, za.getD k 0 = xa := ⟨_, rfl⟩
              rw [hxa] at hca
              have hc := (T.bel.cell (p := ⟨b, o + k, none⟩) hbb).trans hca
              have m2 := mul_next za q k (by omega)
              rw [hxa] at m2
              have m3 : min k n + 1 = min (k + 1) n := by omega
              obtain ⟨b', o', rfl, hbb', hcb⟩ := ints_at hq1 hkb
              obtain ⟨xb, hxb⟩ : ∃ xb, zb.getD k 0 = xb := ⟨_, rfl⟩
              rw [hxb] at hcb
              have hcB : ∀ W, Below w1.heap.size w1 W → W.cell? ⟨b', o' + k, none⟩ = some (.int .i64 xb) := fun W h => (h.cell (p := ⟨b', o' + k, none⟩) hbb').trans hcb
              clear hcb
              have m1 := row_next (Fm.sumR za zb) k (Fm.ad (xa) (xb)) (by rw [Fm.sumR_length]; omega) (by rw [Fm.sumR_get za zb k (by omega)]; simp only [hl, hl', hka, hkb, if_true]; rw [hxa, hxb])
              clear hxa
              clear hxb
              have HM := Lib.hid m1; clear m1
              have HM2 := Lib.hid m2; clear m2
              have HM3 := Lib.hid m3; clear m3
              clear hca
              go_wp2_with (first | (go_at_call 16; (with_reducible refine (mul_any _ _ _).mono ?_); rintro e w' ⟨rfl, rfl⟩) | (go_at_call 14; (with_reducible refine (add_any _ _ _).mono ?_); rintro e w' ⟨rfl, rfl⟩; have T := T.alloc (.cells #[.int .i64 (xa), .int .i64 (xb)] 3)) | (at_builtin; refine wpList_append_own_at _ rfl (.tmp 39) (.tmp 46) 29 rfl w1.heap.size 3 i0 (.int .i64 0) 1 8 Try.underlying29 hi hz0 hz1 hz2 rfl (by decide) _ (min k n) _ (by rfl) (T.alloc (.cells #[.int .i64 (Fm.ml q (xa))] 3)).rig _ 1 1 [.int .i64 (Fm.ml q (xa))] (by rfl) rfl (one_atg _ _ _ _ (by simp)) (one_cell _) (by unfold maxLen; omega) (by omega) (T.alloc (.cells #[.int .i64 (Fm.ml q (xa))] 3)).size ?_; intro u' w2 ho hg _ hb2; have T := (T.alloc _).right ho hg hb2; clear ho hg hb2; have hc2 := hcB _ T.bel) | (at_builtin; refine wpList_append_own_at _ rfl (.tmp 58) (.tmp 60) 29 rfl w1.heap.size 3 i0 (.int .i64 0) 1 8 Try.underlying29 hi hz0 hz1 hz2 rfl (by decide) _ k _ (by rfl) (T.alloc (.cells #[.int .i64 (Fm.ad (xa) (xb))] 3)).lef _ 1 1 [.int .i64 (Fm.ad (xa) (xb))] (by rfl) rfl (one_atg _ _ _ _ (by simp)) (one_cell _) (by unfold maxLen; omega) (by omega) (T.alloc (.cells #[.int .i64 (Fm.ad (xa) (xb))] 3)).size ?_; intro v' w3 ho hg _ hb2; have T := (T.alloc _).left ho hg hb2; clear ho hg hb2))
              go_roundw
              case rel => exact ⟨k + 1, hk1, by go_num, by rw [← HM.out, ← HM2.out, ← HM3.out]; exact T⟩
              case measure => simp [intOf]; omega
            · skip
              have hTs := T.size
              have hk1 : k + 1 ≤ n := by omega
              have kk : (k : Int) < n := by omega
              obtain ⟨b, o, rfl, hbb, hca⟩ := ints_at hp1 hka
              obtain ⟨xa, hxa⟩ : ∃ xa, za.getD k 0 = xa := ⟨_, rfl⟩
              rw [hxa] at hca
              have hc := (T.bel.cell (p := ⟨b, o + k, none⟩) hbb).trans hca
              have m2 := mul_next za q k (by omega)
              rw [hxa] at m2
              have m3 : min k n + 1 = min (k + 1) n := by omega
              have m1 := row_next (Fm.sumR za zb) k (xa) (by rw [Fm.sumR_length]; omega) (by rw [Fm.sumR_get za zb k (by omega)]; simp only [hl, hl', hka, hkb, if_true, if_false]; rw [hxa])
              clear hxa
              have HM := Lib.hid m1; clear m1
              have HM2 := Lib.hid m2; clear m2
              have HM3 := Lib.hid m3; clear m3
              clear hca
              go_wp2_with (first | (go_at_call 16; (with_reducible refine (mul_any _ _ _).mono ?_); rintro e w' ⟨rfl, rfl⟩) | (at_builtin; refine wpList_append_own_at _ rfl (.tmp 39) (.tmp 46) 29 rfl w1.heap.size 3 i0 (.int .i64 0) 1 8 Try.underlying29 hi hz0 hz1 hz2 rfl (by decide) _ (min k n) _ (by rfl) (T.alloc (.cells #[.int .i64 (Fm.ml q (xa))] 3)).rig _ 1 1 [.int .i64 (Fm.ml q (xa))] (by rfl) rfl (one_atg _ _ _ _ (by simp)) (one_cell _) (by unfold maxLen; omega) (by omega) (T.alloc (.cells #[.int .i64 (Fm.ml q (xa))] 3)).size ?_; intro u' w2 ho hg _ hb2; have T := (T.alloc _).right ho hg hb2; clear ho hg hb2) | (at_builtin; refine wpList_append_own_at _ rfl (.tmp 58) (.tmp 60) 29 rfl w1.heap.size 3 i0 (.int .i64 0) 1 8 Try.underlying29 hi hz0 hz1 hz2 rfl (by decide) _ k _ (by rfl) (T.alloc (.cells #[.int .i64 (xa)] 3)).lef _ 1 1 [.int .i64 (xa)] (by rfl) rfl (one_atg _ _ _ _ (by simp)) (one_cell _) (by unfold maxLen; omega) (by omega) (T.alloc (.cells #[.int .i64 (xa)] 3)).size ?_; intro v' w3 ho hg _ hb2; have T := (T.alloc _).left ho hg hb2; clear ho hg hb2))
              go_roundw
              case rel => exact ⟨k + 1, hk1, by go_num, by rw [← HM.out, ← HM2.out, ← HM3.out]; exact T⟩
              case measure => simp [intOf]; omega
          · obtain rfl : n = k := by omega
            have hTs := T.size
            have t1 : (Fm.sumR za zb).take n = Fm.sumR za zb := List.take_of_length_le (by rw [Fm.sumR_length]; omega)
            have t2 : za.take n = za := List.take_of_length_le (by omega)
            rw [t1] at T
            rw [t2] at T
            have t3 : min n n = n := by omega
            rw [t3] at T
            clear t1 t2 t3
            obtain ⟨SA, sc, rfl, hS⟩ := own_slice T.lef
            obtain ⟨TA, tc, rfl, hT⟩ := own_slice T.rig
            have hp2 := (hp1.below T.bel).more T.size
            have hq2 := (hq1.below T.bel).more T.size
            have b0 := hb.trans (T.bel.mono hbs)
            clear T
            go_wp2_with fail
            refine (value_any _ _ _ (Fm.sumR za zb) _ _ hS (by omega)).mono ?_
            rintro e w4 ⟨he, hb4⟩
            rw [Fm.sumR_val] at he
            subst he
            have hbs4 := hb4.size
            have hp4 := (hp2.below hb4).more hbs4
            have hq4 := (hq2.below hb4).more hbs4
            have hT4 := (hT.below hb4).more hbs4
            have b4 := b0.trans (hb4.mono b0.size)
            clear hb4 b0 hS hT hp2 hq2
            go_wp2_with fail
            refine (value_any _ _ _ za _ _ hp4 (by omega)).mono ?_
            rintro e w5 ⟨rfl, hb5⟩
            have hbs5 := hb5.size
            have hp5 := (hp4.below hb5).more hbs5
            have hq5 := (hq4.below hb5).more hbs5
            have hT5 := (hT4.below hb5).more hbs5
            have b5 := b4.trans (hb5.mono b4.size)
            clear hb5 b4 hT4 hp4 hq4
            go_wp2_with fail
            refine (value_any _ _ _ zb _ _ hq5 (by omega)).mono ?_
            rintro e w6 ⟨rfl, hb6⟩
            have hbs6 := hb6.size
            have hp6 := (hp5.below hb6).more hbs6
            have hT6 := (hT5.below hb6).more hbs6
            have b6 := b5.trans (hb6.mono b5.size)
            clear hb6 b5 hT5 hp5 hq5
            go_wp2_with fail
            refine (add_any _ _ _).mono ?_
            rintro e w' ⟨rfl, rfl⟩
            have hp7 := (hp6.alloc (Nat.le_refl _) (.cells #[.int .i64 (Fm.val za x), .int .i64 (Fm.val zb x)] 3)).more (B' := w6.heap.size + 1) (by omega)
            have hT7 := (hT6.alloc (Nat.le_refl _) (.cells #[.int .i64 (Fm.val za x), .int .i64 (Fm.val zb x)] 3)).more (B' := w6.heap.size + 1) (by omega)
            have b7 := b6.alloc b6.size (.cells #[.int .i64 (Fm.val za x), .int .i64 (Fm.val zb x)] 3)
            clear hp6 hT6 b6
            go_wp2_with fail
            refine (value_any _ _ _ (za.map (Fm.ml q)) _ _ (by rw [World.size_alloc]; exact hT7) (by omega)).mono ?_
            rintro e w8 ⟨he, hb8⟩
            rw [Fm.mulR_val] at he
            subst he
            rw [World.size_alloc] at hb8
            have hbs8 := hb8.size
            rw [World.size_alloc] at hbs8
            have hp8 := (hp7.below hb8).more hbs8
            have b8 := b7.trans (hb8.mono (by have := b7.size; rwa [World.size_alloc] at this))
            clear hb8 b7 hT7 hp7
            go_wp2_with fail
            refine (value_any _ _ _ za _ _ hp8 (by omega)).mono ?_
            rintro e w9 ⟨rfl, hb9⟩
            have b9 := b8.trans (hb9.mono b8.size)
            clear hb9 b8 hp8
            go_wp2_with fail
            refine (mul_any _ _ _).mono ?_
            rintro e w' ⟨rfl, rfl⟩
            go_wp2
            go_ret
            exact ⟨rfl, b9⟩
    · go_enter Try.func8, Try.ntmps8
      go_wp2_with fail
      refine (sane_any _).mono ?_
      rintro e w1 ⟨rfl, hb⟩
      have hbs := hb.size
      go_wp2
      go_ret
      exact ⟨rfl, hb⟩
  · go_enter Try.func8, Try.ntmps8
    go_wp2_with fail
    refine (sane_any _).mono ?_
    rintro e w1 ⟨rfl, hb⟩
    have hbs := hb.size
    go_wp2
    go_ret
    exact ⟨rfl, hb⟩

set_option maxRecDepth 100000 in
theorem lifted (os : Os) (started : os.Started) (H : Type) (enc : TypeId × Value → H) :
    ReturnsInHanded {} Try.checked os 8 .any (Rows.fieldSumsSpec.pre6 enc Try.prog Try.f8 Rows.fieldSumsRow.domain false) (Rows.fieldSumsSpec.post enc Try.prog Try.f8 false true false false) := by
  refine returnsInHanded_of_change (C := Try.checked) own started (by kernel_rfl) Try.func8
    (ChangeSpec.witness6 (enc := enc) (C := Try.checked) false ⟨#[], #[.slice none 0 0, .slice none 0 0, .int .i64 0, .int .i64 0], []⟩ 8 (by kernel_rfl) (by kernel_rfl) (by kernel_rfl) (by kernel_rfl)) ?_
  intro W base args ds gs before hval0 hW hcnd _
  have hval : ∀ (j : Nat) t v, Try.f8.params[j]? = some t → args[j]? = some v → Value.okWide Try.prog W .any base t v := hval0
  have hW' := hW
  obtain ⟨p, q, hA0, hV, rfl, hfz, hnd⟩ := hW
  have hA : DataW.TrodAll enc Try.prog W 0 (fun _ => true) true Try.f8.params.toList args.toList ds p := hA0
  rw [Try.params8] at hA hval
  obtain ⟨v0, vs0, d0, ds0, p0, q0, hargs, rfl, rfl, h0, r0⟩ := trodAll_cons hA
  obtain ⟨v1, vs1, d1, ds1, p1, q1, rfl, rfl, rfl, h1, r1⟩ := trodAll_cons r0
  obtain ⟨v2, vs2, d2, ds2, p2, q2, rfl, rfl, rfl, h2, r2⟩ := trodAll_cons r1
  obtain ⟨v3, vs3, d3, ds3, p3, q3, rfl, rfl, rfl, h3, r3⟩ := trodAll_cons r2
  obtain ⟨rfl, rfl, rfl⟩ := trodAll_nil r3
  obtain rfl : args = #[v0, v1, v2, v3] := by cases args; simp_all
  obtain ⟨rfl, rfl⟩ := trodVars_none hV
  obtain ⟨a0, n0, c0, rfl⟩ := okWide_slice Try.underlying29 (hval 0 29 v0 rfl rfl)
  have k0 := h0
  have lt0 : ∀ x ∈ p0, x.block < W.heap.size := by obtain ⟨m, hm⟩ := k0; exact DataW.trod_lt m _ _ _ hm
  obtain ⟨z0, w0⟩ := open_ints64 h0
  obtain ⟨a1, n1, c1, rfl⟩ := okWide_slice Try.underlying29 (hval 1 29 v1 rfl rfl)
  have k1 := h1
  have lt1 : ∀ x ∈ p1, x.block < W.heap.size := by obtain ⟨m, hm⟩ := k1; exact DataW.trod_lt m _ _ _ hm
  obtain ⟨z1, w1⟩ := open_ints64 h1
  obtain ⟨a2, rfl, rfl, rfl, w2⟩ := open_int Try.underlying3 (hval 2 3 v2 rfl rfl) h2
  obtain ⟨a3, rfl, rfl, rfl, w3⟩ := open_int Try.underlying3 (hval 3 3 v3 rfl rfl) h3
  clear hA0 hval0
  refine (walk a0 n0 c0 z0 a1 n1 c1 z1 a2 a3 W w0 w1 w2 w3).mono fun e W' ⟨he, bel⟩ => ?_
  subst he
  exact ⟨_, rfl, _, _, _, [], _, [], hW', trodAll_mk1 (shut_bool Try.underlying4 _), (trodAll_cons_mk (Below.trod laidOut (by kernel_rfl) (of_decide_eq_true (by kernel_rfl)) k0 bel lt0) (trodAll_cons_mk (Below.trod laidOut (by kernel_rfl) (of_decide_eq_true (by kernel_rfl)) k1 bel lt1) (trodAll_cons_mk (shut_int Try.underlying3 w2) (trodAll_cons_mk (shut_int Try.underlying3 w3) trodAll_mk0)))), rfl, bel.frame _, fun h => by cases h⟩

theorem over : Rows.fieldSumsRow.holds Try.pinned (OpenSpec.ofChange Rows.fieldSumsSpec) :=
  OpenClaim.holds_of_wide 8 Try.f8 rfl rfl rfl rfl rfl rfl rfl ⟨rfl, rfl, rfl, rfl, rfl⟩ rfl rfl rfl rfl rfl (by kernel_rfl) Try.func8 (by kernel_rfl)
    (of_decide_eq_true (by kernel_rfl)) (by unfold Func.isWrapper; first | (rw [if_pos (by decide +kernel)]; kernel_rfl) | (rw [if_neg (by decide +kernel)]; exact ⟨rfl, rfl⟩))
    (fun os started H enc _ => lifted os started H enc)
theorem proved : Rows.FieldSumsSaid := over
#print axioms proved
end Go.Proofs.Ytdajanoikcemoaa.fieldSums
