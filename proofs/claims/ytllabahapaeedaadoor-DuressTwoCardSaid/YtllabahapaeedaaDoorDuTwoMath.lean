/- Two tags: the numbers, and the law's own hash. -/
import Derived.Test.YtllabahapaeedaaDoorDuEitherWalk
namespace Go.Proofs.YtllabahapaeedaaDoor
open Go.RowKit
set_option linter.unusedVariables false
theorem w64_in (n : Int) (h : -9223372036854775808 ≤ n ∧ n ≤ 9223372036854775807) : wrap64 n = n := by unfold wrap64; omega
theorem or_bd {x y : Int} {n : Nat} (hn : n ≤ 63) (h1 : 0 ≤ x) (h2 : x < 2 ^ n) (h3 : 0 ≤ y) (h4 : y < 2 ^ n) : 0 ≤ bits .or .i64 x y ∧ bits .or .i64 x y < 2 ^ n := by
  obtain ⟨a, rfl⟩ := Int.eq_ofNat_of_zero_le h1
  obtain ⟨b, rfl⟩ := Int.eq_ofNat_of_zero_le h3
  have ha : a < 2 ^ n := by exact_mod_cast h2
  have hb : b < 2 ^ n := by exact_mod_cast h4
  have hle : 2 ^ n ≤ 2 ^ 63 := Nat.pow_le_pow_right (by decide) hn
  have ho : a ||| b < 2 ^ n := Nat.or_lt_two_pow ha hb
  have e : bits .or .i64 (a : Int) (b : Int) = ((a ||| b : Nat) : Int) := by
    have hk : IntKind.i64.bits = 64 := rfl
    have h64 : (2 : Nat) ^ 63 < 2 ^ 64 := by decide
    have q : (BitVec.ofInt IntKind.i64.bits (a : Int) ||| BitVec.ofInt IntKind.i64.bits (b : Int)).toNat = a ||| b := by
      rw [BitVec.toNat_or, BitVec.ofInt_natCast, BitVec.ofInt_natCast, BitVec.toNat_ofNat, BitVec.toNat_ofNat, hk, Nat.mod_eq_of_lt (by omega), Nat.mod_eq_of_lt (by omega)]
    show IntKind.i64.wrap ((BitVec.ofInt IntKind.i64.bits (a : Int) ||| BitVec.ofInt IntKind.i64.bits (b : Int)).toNat : Nat) = _
    rw [q]
    have hm : (a ||| b) < 9223372036854775808 := by omega
    generalize a ||| b = m at hm
    rw [IntKind.wrap_i64]
    omega
  rw [e]
  exact ⟨by omega, by exact_mod_cast ho⟩
namespace Sh
theorem num_bd (D : List Int) (hD : ∀ i, 0 ≤ D.getD i 0 ∧ D.getD i 0 < 256) (h0 : D.getD 0 0 < 128) : ∀ k, k ≤ 7 → 0 ≤ num D (k + 1) ∧ num D (k + 1) < 2 ^ (8 * k + 7)
  | 0, _ => by
    show 0 ≤ bits .or .i64 (wrap64 (0 * 256)) (D.getD 0 0) ∧ bits .or .i64 (wrap64 (0 * 256)) (D.getD 0 0) < 2 ^ 7
    have e7 : (2 : Int) ^ 7 = 128 := by decide
    rw [w64_in _ (by decide)]
    exact or_bd (by decide) (by decide) (by decide) (hD 0).1 (by rw [e7]; exact h0)
  | k + 1, h => by
    obtain ⟨h1, h2⟩ := num_bd D hD h0 k (by omega)
    have e1 : (2 : Int) ^ (8 * (k + 1) + 7) = 2 ^ (8 * k + 7) * 256 := by rw [show 8 * (k + 1) + 7 = 8 * k + 7 + 8 by omega, Int.pow_add]; rfl
    have hle : (2 : Nat) ^ (8 * (k + 1) + 7) ≤ 2 ^ 63 := Nat.pow_le_pow_right (by decide) (by omega)
    have hle' : (2 : Int) ^ (8 * (k + 1) + 7) ≤ 9223372036854775808 := by
      have : ((2 ^ (8 * (k + 1) + 7) : Nat) : Int) ≤ ((2 ^ 63 : Nat) : Int) := by exact_mod_cast hle
      simpa using this
    have hp : (1 : Int) ≤ 2 ^ (8 * k + 7) := Int.pow_pos (n := 2) (m := 8 * k + 7) (by decide)
    show 0 ≤ bits .or .i64 (wrap64 (num D (k + 1) * 256)) (D.getD (k + 1) 0) ∧ bits .or .i64 (wrap64 (num D (k + 1) * 256)) (D.getD (k + 1) 0) < 2 ^ (8 * (k + 1) + 7)
    rw [w64_in _ (by omega)]
    exact or_bd (by omega) (by omega) (by omega) (hD _).1 (by have := (hD (k + 1)).2; omega)
theorem hash_bd (c : Cst) (t bs : List Int) : 0 ≤ hash c t bs ∧ hash c t bs < 1073741789 := by
  have hb : ∀ i, 0 ≤ (cut7 (tagged c t bs)).getD i 0 ∧ (cut7 (tagged c t bs)).getD i 0 < 256 := by
    intro i
    by_cases hi : i < (cut7 (tagged c t bs)).length
    · rw [List.getD_eq_getElem?_getD, List.getElem?_eq_getElem hi]
      exact cut7_bytes (tagged_bytes c t bs) _ (List.getElem_mem hi)
    · rw [List.getD_eq_getElem?_getD, List.getElem?_eq_none (by omega)]
      exact ⟨by decide, by decide⟩
  have h0 : (cut7 (tagged c t bs)).getD 0 0 < 128 := by
    unfold cut7
    have hl : 0 < (tagged c t bs).length := by rw [tagged_length]; decide
    rw [List.getD_eq_getElem?_getD, List.getElem?_set_self hl]
    show bits .and .u8 ((tagged c t bs).getD 0 0) 127 < 128
    generalize (tagged c t bs).getD 0 0 = x
    have q : (BitVec.ofInt IntKind.u8.bits x &&& BitVec.ofInt IntKind.u8.bits 127).toNat < 128 := by
      rw [BitVec.toNat_and]
      exact Nat.lt_of_le_of_lt Nat.and_le_right (by decide)
    show IntKind.u8.wrap ((BitVec.ofInt IntKind.u8.bits x &&& BitVec.ofInt IntKind.u8.bits 127).toNat : Nat) < 128
    generalize (BitVec.ofInt IntKind.u8.bits x &&& BitVec.ofInt IntKind.u8.bits 127).toNat = m at q
    rw [show IntKind.u8.wrap (m : Int) = (m : Int) % 256 by simp [IntKind.wrap, IntKind.bits, IntKind.signed]]
    omega
  have h := num_bd _ hb h0 7 (by decide)
  have hd : c.d = 7 + 1 := c.hd
  unfold hash
  rw [hd]
  rw [Int.tmod_eq_emod_of_nonneg h.1]
  exact ⟨Int.emod_nonneg _ (by decide), Int.emod_lt_of_pos _ (by decide)⟩
end Sh
theorem hoI_bd (K : Sh.Cst) (d n : Int) : 0 ≤ Du.hoI K d n ∧ Du.hoI K d n < 1073741789 := Sh.hash_bd _ _ _
namespace Fm
theorem two_math {g h l0 l1 : Int} (hg : 0 ≤ g ∧ g < 1073741789) (hh : 0 ≤ h ∧ h < 1073741789) (hne : g ≠ h) (h0 : 0 ≤ l0 ∧ l0 < 1073741789) (h1 : 0 ≤ l1 ∧ l1 < 1073741789) {one b a : Int}
    (e1 : one = inv (ad g (-h))) (e2 : b = ml (ad l0 (-l1)) one) (e3 : a = ad l0 (-(ml b g))) :
    invE (ad g (-h)) = 0 ∧ ad a (ml b g) = l0 ∧ ad a (ml b h) = l1 := by
  have hx : ad g (-h) % 1073741789 ≠ 0 := by unfold ad; omega
  have hb : cg (b * (g + -h)) (l0 + -l1) := by
    have c1 : cg b ((l0 + -l1) * one) := by rw [e2]; exact cg_trans (cg_ml _ _) (cg_mul (cg_ad _ _) (cg_refl _))
    have c2 : cg (b * (g + -h)) ((l0 + -l1) * one * ad g (-h)) := cg_mul c1 (cg_symm (cg_ad _ _))
    have c3 : cg (ad g (-h) * one) 1 := by rw [e1]; exact mul_inv hx
    have c4 : (l0 + -l1) * one * ad g (-h) = (l0 + -l1) * (ad g (-h) * one) := by rw [Int.mul_assoc, Int.mul_comm one]
    rw [c4] at c2
    have c5 := cg_trans c2 (cg_mul (cg_refl (l0 + -l1)) c3)
    rwa [Int.mul_one] at c5
  have ha : cg a (l0 + -(b * g)) := by rw [e3]; exact cg_trans (cg_ad _ _) (cg_add (cg_refl _) (cg_neg (cg_ml _ _)))
  refine ⟨invE_ne hx, ?_, ?_⟩
  · refine eq_of_cg ?_ (ad_lo _ _) (ad_hi _ _) h0.1 h0.2
    have := cg_trans (cg_ad a (ml b g)) (cg_add ha (cg_ml b g))
    rwa [show l0 + -(b * g) + b * g = l0 by omega] at this
  · refine eq_of_cg ?_ (ad_lo _ _) (ad_hi _ _) h1.1 h1.2
    have := cg_trans (cg_ad a (ml b h)) (cg_add ha (cg_ml b h))
    have e : l0 + -(b * g) + b * h = l0 + -(b * (g + -h)) := by rw [Int.mul_add, Int.mul_neg]; omega
    rw [e] at this
    have := cg_trans this (cg_add (cg_refl l0) (cg_neg hb))
    rwa [show l0 + -(l0 + -l1) = l1 by omega] at this
end Fm
theorem said_of {a b c h t : Int} {x : Bool} (hc1 : 1 ≤ c) (hc2 : c < 1073741789) (ht1 : 0 ≤ t) (ht2 : t < 1073741789) (hl : Fm.ad a (Fm.ml b h) = if x then Fm.ad t (-c) else t) : Du.said a b c h t = (x, true) := by
  cases x with
  | false =>
    have e : t = Du.tag a b c h false := by rw [if_neg (by decide)] at hl; exact hl.symm
    rw [e, said_plain]
  | true =>
    rw [if_pos rfl] at hl
    have e : t = Du.tag a b c h true := by
      show t = Fm.ad (Fm.ad a (Fm.ml b h)) c
      rw [hl, ad_back t c ht1 ht2]
    rw [e, said_silent a b c h hc1 hc2]
theorem ad_by {t y : Int} (ht1 : 0 ≤ t) (ht2 : t < 1073741789) (h1 : 1 ≤ y) (h2 : y < 1073741789) : t ≠ Fm.ad t y := by unfold Fm.ad; omega
theorem said_other {a b c h t y : Int} {x : Bool} (hy1 : 1 ≤ y) (hy2 : y < 1073741789) (ht1 : 0 ≤ t) (ht2 : t < 1073741789) (hs : Du.said a b c h t = (x, true)) :
    ((Du.said (Fm.ad a y) b c h t).2 = true ∧ (Du.said (Fm.ad a y) b c h t).1 = !x) ∨ Du.said (Fm.ad a y) b c h t = (false, false) := by
  by_cases h1 : t = Du.tag (Fm.ad a y) b c h false
  · have e : Du.said (Fm.ad a y) b c h t = (false, true) := by unfold Du.said; rw [if_pos h1]
    rw [e]
    cases x with
    | true => exact .inl ⟨rfl, rfl⟩
    | false =>
      exfalso
      have h2 : t = Du.tag a b c h false := by
        by_cases q : t = Du.tag a b c h false
        · exact q
        · unfold Du.said at hs
          rw [if_neg q] at hs
          by_cases q2 : t = Du.tag a b c h true
          · rw [if_pos q2] at hs; cases hs
          · rw [if_neg q2] at hs; cases hs
      have h3 : Fm.ad (Fm.ad a y) (Fm.ml b h) = Fm.ad t y := by rw [h2]; exact ad_swap a (Fm.ml b h) y
      exact ad_by ht1 ht2 hy1 hy2 (h1.trans h3)
  · by_cases h2 : t = Du.tag (Fm.ad a y) b c h true
    · have e : Du.said (Fm.ad a y) b c h t = (true, true) := by unfold Du.said; rw [if_neg h1, if_pos h2]
      rw [e]
      cases x with
      | false => exact .inl ⟨rfl, rfl⟩
      | true =>
        exfalso
        have h3 : t = Du.tag a b c h true := by
          unfold Du.said at hs
          by_cases q : t = Du.tag a b c h false
          · rw [if_pos q] at hs; cases hs
          · rw [if_neg q] at hs
            by_cases q2 : t = Du.tag a b c h true
            · exact q2
            · rw [if_neg q2] at hs; cases hs
        have h4 : Fm.ad (Fm.ad (Fm.ad a y) (Fm.ml b h)) c = Fm.ad t y := by
          rw [h3]
          show _ = Fm.ad (Fm.ad (Fm.ad a (Fm.ml b h)) c) y
          unfold Fm.ad
          omega
        exact ad_by ht1 ht2 hy1 hy2 (h2.trans h4)
    · exact .inr (by unfold Du.said; rw [if_neg h1, if_neg h2])
set_option maxRecDepth 100000 in
set_option maxHeartbeats 1000000 in
theorem lhash_nat (K : Sh.Cst) (d n : Nat) (w : World) (hd : d < 4096) (hn : n ≤ 1048576) (hL : Laid w) :
    Calls Tryd.prog 18 #[.int .i64 d, .int .i64 n] w fun e w' => e = .returned (.tuple #[.int .i64 (Du.ho K d n), .bool true]) ∧ Below w.heap.size w w' := by
  have henc := fun g c w h1 h2 => encode_two g c d n w (by omega) (by omega) h1 h2
  unfold listV at henc
  go_enter Tryd.func18, Tryd.ntmps18
  go_wp2_with fail
  refine (henc _ _ _ (by rw [World.size_alloc]; exact rd_two w d n _) (by simp)).mono ?_
  clear henc
  rintro e w2 ⟨A2, c2, rfl, hR2, hl2, hc2, hb2⟩
  have hB2 := ((Below.refl w.heap.size w).alloc (Nat.le_refl _) _).trans (hb2.mono (by simp))
  have hel := enc2_length d n (by omega) (by omega)
  have hLw := hL.below hB2 hL.size
  have heb := enc2_bytes d n
  generalize hE : enc2 d n = E at *
  have HE := Lib.hid hE
  clear hE hb2
  go_wp2_with fail
  refine (ghash_any K tagS A2 E.length c2 E _ (by decide) hR2 heb (by omega) hl2 hc2 hLw).mono ?_
  rintro e w3 ⟨rfl, hb3⟩
  have hB3 := hB2.trans (hb3.mono hB2.size)
  have HX : Hid (Sh.hash K (strInts tagS) E = Du.ho K d n) := by rw [← HE.out]; exact rfl
  clear hb3
  generalize Sh.hash K (strInts tagS) E = X at *
  go_wp2
  go_ret2
  have h9 := HX.out
  subst h9
  exact ⟨rfl, hB3⟩
theorem lhash_any (K : Sh.Cst) (d n : Int) (w : World) (hp : Du.poss d n = true) (hL : Laid w) :
    Calls Tryd.prog 18 #[.int .i64 d, .int .i64 n] w fun e w' => e = .returned (.tuple #[.int .i64 (Du.hoI K d n), .bool true]) ∧ Below w.heap.size w w' := by
  have h1 := Du.poss_iff.1 hp
  obtain ⟨d', rfl⟩ := Int.eq_ofNat_of_zero_le h1.1
  obtain ⟨n', rfl⟩ := Int.eq_ofNat_of_zero_le h1.2.2.1
  exact lhash_nat K d' n' w (by omega) (by omega) hL
theorem add_b (a b : Int) (w : World) : Calls Tryd.prog 19 #[.int .i64 a, .int .i64 b] w fun e w' => e = .returned (.int .i64 (Fm.ad a b)) ∧ Below w.heap.size w w' :=
  (add_any a b w).mono fun e w' ⟨he, hw⟩ => ⟨he, hw ▸ (Below.refl w.heap.size w).alloc (Nat.le_refl _) _⟩
end Go.Proofs.YtllabahapaeedaaDoor
