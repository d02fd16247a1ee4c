import Derived.KernelRfl
set_option linter.unusedVariables false
set_option maxRecDepth 100000
set_option maxHeartbeats 40000000
namespace Go.Proofs.YtifejdpffkeniaaGreatDoor
namespace Fm
def md (n : Int) : Int := n % 1073741789
def ad (a b : Int) : Int := (a + b) % 1073741789
def ml (a b : Int) : Int := (a * b) % 1073741789
def expo : Nat := 1073741787
def inv (n : Int) : Int := (n ^ expo) % 1073741789
theorem md_lo (n : Int) : 0 ≤ md n := by unfold md;omega
theorem md_hi (n : Int) : md n < 1073741789 := by unfold md;omega
theorem ad_lo (a b : Int) : 0 ≤ ad a b := by unfold ad;omega
theorem ad_hi (a b : Int) : ad a b < 1073741789 := by unfold ad;omega
theorem ml_lo (a b : Int) : 0 ≤ ml a b := by unfold ml;exact Int.emod_nonneg _ (by decide)
theorem ml_hi (a b : Int) : ml a b < 1073741789 := by unfold ml;exact Int.emod_lt_of_pos _ (by decide)
def cg (a b : Int) : Prop := a % 1073741789 = b % 1073741789
theorem cg_refl (a : Int) : cg a a := rfl
theorem cg_symm {a b : Int} (h : cg a b) : cg b a := Eq.symm h
theorem cg_trans {a b c : Int} (h : cg a b) (k : cg b c) : cg a c := Eq.trans h k
theorem cg_add {a b c d : Int} (h : cg a b) (k : cg c d) : cg (a + c) (b + d) := by
 unfold cg at *;rw [Int.add_emod,h,k,← Int.add_emod]
theorem cg_mul {a b c d : Int} (h : cg a b) (k : cg c d) : cg (a * c) (b * d) := by
 unfold cg at *;rw [Int.mul_emod,h,k,← Int.mul_emod]
theorem cg_neg {a b : Int} (h : cg a b) : cg (-a) (-b) := by
 unfold cg at *;omega
theorem cg_sub {a b c d : Int} (h : cg a b) (k : cg c d) : cg (a - c) (b - d) := by
 unfold cg at *;omega
theorem cg_md (a : Int) : cg (md a) a := by unfold cg md;exact Int.emod_emod_of_dvd _ (Int.dvd_refl _)
theorem cg_ad (a b : Int) : cg (ad a b) (a + b) := by unfold cg ad;exact Int.emod_emod_of_dvd _ (Int.dvd_refl _)
theorem cg_ml (a b : Int) : cg (ml a b) (a * b) := by unfold cg ml;exact Int.emod_emod_of_dvd _ (Int.dvd_refl _)
theorem cg_inv (a : Int) : cg (inv a) (a ^ expo) := by unfold cg inv;exact Int.emod_emod_of_dvd _ (Int.dvd_refl _)
theorem cg_mod (a : Int) : cg (a % 1073741789) a := Int.emod_emod_of_dvd _ (Int.dvd_refl _)
theorem cg_pow {a b : Int} (h : cg a b) (n : Nat) : cg (a ^ n) (b ^ n) := by
 induction n with
 | zero => simp [cg]
 | succ n ih => rw [Int.pow_succ,Int.pow_succ];exact cg_mul ih h
theorem cg_iff {a b : Int} : cg a b ↔ (1073741789 : Int) ∣ a - b := by
 unfold cg;rw [Int.emod_eq_emod_iff_emod_sub_eq_zero];exact ⟨Int.dvd_of_emod_eq_zero,Int.emod_eq_zero_of_dvd⟩
theorem eq_of_cg {a b : Int} (h : cg a b) (h1 : 0 ≤ a) (h2 : a < 1073741789) (h3 : 0 ≤ b) (h4 : b < 1073741789) : a = b := by
 unfold cg at h;omega
theorem inv_cg {a b : Int} (h : cg a b) : inv a = inv b := cg_pow h _
def ch : Nat → Nat → Nat
 | _,0 => 1
 | 0,_ + 1 => 0
 | n + 1,k + 1 => ch n k + ch n (k + 1)
theorem ch_zero (n : Nat) : ch n 0 = 1 := by cases n <;> rfl
theorem ch_step (n k : Nat) : ch (n + 1) (k + 1) = ch n k + ch n (k + 1) := rfl
theorem ch_above : ∀ (n k : Nat),n < k → ch n k = 0
 | 0,_ + 1,_ => rfl
 | n + 1,k + 1,h => by rw [ch_step,ch_above n k (by omega),ch_above n (k + 1) (by omega)]
theorem ch_self : ∀ n,ch n n = 1
 | 0 => rfl
 | n + 1 => by rw [ch_step,ch_self n,ch_above n (n + 1) (by omega)]
theorem ch_mul : ∀ (n k : Nat),(k + 1) * ch (n + 1) (k + 1) = (n + 1) * ch n k
 | 0,0 => rfl
 | 0,k + 1 => by
  have a : ch 1 (k + 1 + 1) = 0 := ch_above 1 (k + 1 + 1) (by omega);have b : ch 0 (k + 1) = 0 := rfl;rw [a,b,Nat.mul_zero,Nat.mul_zero]
 | m + 1,0 => by
  have h := ch_mul m 0;rw [ch_zero] at h;have e : ch (m + 1 + 1) (0 + 1) = 1 + ch (m + 1) (0 + 1) := by rw [ch_step (m + 1) 0,ch_zero]
  rw [e,ch_zero];omega
 | m + 1,j + 1 => by
  have h1 := ch_mul m (j + 1);have h2 := ch_mul m j;rw [ch_step (m + 1) (j + 1)];have h3 : ch (m + 1) (j + 1) = ch m j + ch m (j + 1) := ch_step m j;have h4 : (m + 1) * ch m j + (m + 1) * ch m (j + 1) = (m + 1) * ch (m + 1) (j + 1) := by rw [h3,Nat.mul_add]
  have h5 : (j + 1 + 1) * ch (m + 1) (j + 1) = (j + 1) * ch (m + 1) (j + 1) + ch (m + 1) (j + 1) := by rw [Nat.add_mul (j + 1) 1,Nat.one_mul]
  have h6 : (m + 1 + 1) * ch (m + 1) (j + 1) = (m + 1) * ch (m + 1) (j + 1) + ch (m + 1) (j + 1) := by rw [Nat.add_mul (m + 1) 1,Nat.one_mul]
  rw [Nat.mul_add,h5,h1,h2,h6];omega
def bs (a : Int) (n : Nat) : Nat → Int
 | 0 => 0
 | m + 1 => bs a n m + (ch n m : Int) * a ^ m
theorem bs_step (a : Int) (n : Nat) : ∀ m,bs a (n + 1) (m + 1) = bs a n (m + 1) + a * bs a n m
 | 0 => by simp [bs,ch_zero]
 | m + 1 => by
  have h := bs_step a n m;rw [bs,h,ch_step];have e1 : bs a n (m + 1 + 1) = bs a n (m + 1) + (ch n (m + 1) : Int) * a ^ (m + 1) := rfl;have e2 : bs a n (m + 1) = bs a n m + (ch n m : Int) * a ^ m := rfl;rw [e1]
  have e3 : a * bs a n (m + 1) = a * bs a n m + (ch n m : Int) * a ^ (m + 1) := by
   rw [e2,Int.mul_add,Int.pow_succ];congr 1;rw [Int.mul_left_comm,Int.mul_comm a]
  rw [e3]
  push_cast
  rw [Int.add_mul];omega
theorem binom (a : Int) : ∀ n,(a + 1) ^ n = bs a n (n + 1)
 | 0 => by simp [bs,ch_zero]
 | n + 1 => by
  have h := binom a n;rw [Int.pow_succ,h,bs_step]
  have e : bs a n (n + 1 + 1) = bs a n (n + 1) := by
   rw [bs,ch_above n (n + 1) (by omega)];simp
  rw [e,Int.mul_add,Int.mul_one,Int.mul_comm];omega
theorem bs_mid (p : Nat) (hc : ∀ k,0 < k → k < p → Nat.Coprime k p) (a : Int) : ∀ m,0 < m → m ≤ p → (p : Int) ∣ bs a p m - 1
 | 1,_,_ => by simp [bs,ch_zero]
 | m + 2,_,h => by
  have ih := bs_mid p hc a (m + 1) (by omega) (by omega)
  have hk : p ∣ ch p (m + 1) := by
   have e : p ∣ (m + 1) * ch p (m + 1) := by
    obtain ⟨q,rfl⟩ : ∃ q,p = q + 1 := ⟨p - 1,by omega⟩;rw [ch_mul];exact Nat.dvd_mul_right _ _
   exact (Nat.Coprime.symm (hc (m + 1) (by omega) (by omega))).dvd_of_dvd_mul_left e
  have e : bs a p (m + 2) - 1 = (bs a p (m + 1) - 1) + (ch p (m + 1) : Int) * a ^ (m + 1) := by
   show bs a p (m + 1) + (ch p (m + 1) : Int) * a ^ (m + 1) - 1 = _;omega
  rw [e];exact Int.dvd_add ih (Int.dvd_trans (Int.natCast_dvd_natCast.2 hk) (Int.dvd_mul_right _ _))
theorem fermat_nat (p : Nat) (hp : 0 < p) (hc : ∀ k,0 < k → k < p → Nat.Coprime k p) : ∀ a : Nat,(p : Int) ∣ (a : Int) ^ p - a
 | 0 => by
  obtain ⟨q,rfl⟩ : ∃ q,p = q + 1 := ⟨p - 1,by omega⟩;simp [Int.pow_succ]
 | a + 1 => by
  have ih := fermat_nat p hp hc a;have h := bs_mid p hc (a : Int) p hp (Nat.le_refl _)
  push_cast
  rw [binom]
  have e : bs (a : Int) p (p + 1) - ((a : Int) + 1) = (bs (a : Int) p p - 1) + ((a : Int) ^ p - a) := by
   show bs (a : Int) p p + (ch p p : Int) * (a : Int) ^ p - _ = _;rw [ch_self];simp;omega
  rw [e];exact Int.dvd_add h ih
def chk : Nat → Nat → Bool
 | 0,s => 1073741789 % (s + 2) != 0
 | n + 1,s => chk n s && chk n (s + 2 ^ n)
theorem chk_of : ∀ (n s : Nat),chk n s = true → ∀ d,s ≤ d → d < s + 2 ^ n → 1073741789 % (d + 2) ≠ 0
 | 0,s,h,d,h1,h2 => by
  have : d = s := by simp at h2;omega
  subst this
  simpa [chk] using h
 | n + 1,s,h,d,h1,h2 => by
  simp only [chk,Bool.and_eq_true] at h;have e : 2 ^ (n + 1) = 2 ^ n + 2 ^ n := by rw [Nat.pow_succ];omega
  by_cases c : d < s + 2 ^ n
  ·exact chk_of n s h.1 d h1 c
  ·exact chk_of n (s + 2 ^ n) h.2 d (by omega) (by omega)
theorem chk_true : chk 15 0 = true := by decide +kernel
theorem no_div (d : Nat) (h1 : 2 ≤ d) (h2 : d < 32770) : ¬ d ∣ 1073741789 := by
 intro h;have e : (2 : Nat) ^ 15 = 32768 := by decide
 have h0 := chk_of 15 0 chk_true (d - 2) (by omega) (by omega);rw [show d - 2 + 2 = d by omega] at h0;exact h0 (Nat.mod_eq_zero_of_dvd h)
theorem coprime (k : Nat) (h1 : 0 < k) (h2 : k < 1073741789) : Nat.Coprime k 1073741789 := by
 have hg1 : Nat.gcd k 1073741789 ∣ 1073741789 := Nat.gcd_dvd_right _ _;have hg2 : Nat.gcd k 1073741789 ≤ k := Nat.gcd_le_left _ h1;have hg0 : 0 < Nat.gcd k 1073741789 := Nat.gcd_pos_of_pos_left _ h1;show Nat.gcd k 1073741789 = 1;generalize Nat.gcd k 1073741789 = g at hg1 hg2 hg0;obtain ⟨c,hc⟩ := hg1;have hc0 : c ∣ 1073741789 := ⟨g,by rw [hc,Nat.mul_comm]⟩;have hg3 : g ∣ 1073741789 := ⟨c,hc⟩;apply Classical.byContradiction;intro hg;have c0 : c ≠ 0 := by intro h;subst h;simp at hc
 have c1 : c ≠ 1 := by intro h;subst h;omega
 by_cases hs : g < 32770
 ·exact no_div g (by omega) hs hg3
 ·by_cases hs2 : c < 32770
  ·exact no_div c (by omega) hs2 hc0
  ·have : 32770 * 32770 ≤ g * c := Nat.mul_le_mul (by omega) (by omega)
   omega
theorem coprime_int {a : Int} (h : a % 1073741789 ≠ 0) : Nat.Coprime (a % 1073741789).toNat 1073741789 :=
 coprime _ (by omega) (by omega)
theorem fermat (a : Int) : cg (a ^ 1073741789) a := by
 have h := fermat_nat 1073741789 (by decide) coprime (a % 1073741789).toNat;have e : (((a % 1073741789).toNat : Nat) : Int) = a % 1073741789 := by omega
 rw [e] at h;have h1 : cg ((a % 1073741789) ^ 1073741789) (a % 1073741789) := cg_iff.2 h;exact cg_trans (cg_pow (cg_symm (cg_mod a)) _) (cg_trans h1 (cg_mod a))
theorem dvd_of_mul {a b : Int} (h : a % 1073741789 ≠ 0) (hd : (1073741789 : Int) ∣ a * b) : (1073741789 : Int) ∣ b := by
 have h1 : Nat.Coprime 1073741789 a.natAbs := by
  have hc := coprime_int h;have e : (a % 1073741789).toNat = a.natAbs % 1073741789 ∨ (a % 1073741789).toNat = 1073741789 - a.natAbs % 1073741789 := by omega
  have e2 : Nat.gcd 1073741789 a.natAbs = Nat.gcd (a.natAbs % 1073741789) 1073741789 := Nat.gcd_rec _ _;show Nat.gcd 1073741789 a.natAbs = 1;rw [e2];exact coprime _ (by omega) (by omega)
 have h2 : (1073741789 : Nat) ∣ a.natAbs * b.natAbs := by
  have := Int.natAbs_dvd_natAbs.2 hd;rw [Int.natAbs_mul] at this;exact this
 have h3 := h1.dvd_of_dvd_mul_left h2;exact Int.natAbs_dvd_natAbs.1 h3
theorem mul_zero_iff {a b : Int} : ml a b = 0 ↔ (md a = 0 ∨ md b = 0) := by
 unfold ml md
 constructor
 ·intro h
  by_cases ha : a % 1073741789 = 0
  ·exact .inl ha
  ·exact .inr (Int.emod_eq_zero_of_dvd (dvd_of_mul ha (Int.dvd_of_emod_eq_zero h)))
 ·rintro (h | h)
  ·rw [Int.mul_emod,h];simp
  ·rw [Int.mul_emod,h];simp
theorem pow_inv (a : Int) : a ^ 1073741789 = a * (a * a ^ expo) := by
 have e : (1073741789 : Nat) = expo + 1 + 1 := rfl;rw [e,Int.pow_succ,Int.pow_succ,Int.mul_comm,Int.mul_comm (a ^ expo)]
theorem mul_inv {a : Int} (h : a % 1073741789 ≠ 0) : cg (a * inv a) 1 := by
 have h1 := cg_iff.1 (fermat a);rw [pow_inv] at h1;have e : a * (a * a ^ expo) - a = a * (a * a ^ expo - 1) := by rw [Int.mul_sub,Int.mul_one]
 rw [e] at h1;exact cg_trans (cg_mul (cg_refl a) (cg_inv a)) (cg_iff.2 (dvd_of_mul h h1))
theorem ml_inv {a : Int} (h : md a ≠ 0) : ml a (inv a) = 1 := mul_inv h
def pw (x a : Int) (n : Nat) (v : Int) : Prop := cg (x * a ^ n) v
theorem pw_odd {x a v : Int} {n : Nat} (h : pw x a n v) (hn : n % 2 = 1) : pw (ml x a) (ml a a) (n / 2) v := by
 unfold pw at *;have e : n = 1 + (n / 2 + n / 2) := by omega
 generalize n / 2 = k at *;subst e;refine cg_trans (cg_mul (cg_ml x a) (cg_pow (cg_ml a a) k)) ?_;rw [Int.mul_pow,Int.mul_assoc];rw [Int.pow_add,Int.pow_add,Int.pow_one] at h;exact h
theorem pw_even {x a v : Int} {n : Nat} (h : pw x a n v) (hn : n % 2 = 0) : pw x (ml a a) (n / 2) v := by
 unfold pw at *;have e : n = n / 2 + n / 2 := by omega
 generalize n / 2 = k at *;subst e;refine cg_trans (cg_mul (cg_refl x) (cg_pow (cg_ml a a) k)) ?_;rw [Int.mul_pow];rw [Int.pow_add] at h;exact h
theorem pw_start (a : Int) (n : Nat) : pw 1 a n (a ^ n) := by unfold pw;rw [Int.one_mul];exact cg_refl _
theorem pw_end {x a v : Int} (h : pw x a 0 v) (h1 : 0 ≤ x) (h2 : x < 1073741789) : x = v % 1073741789 := by
 unfold pw at h;rw [Int.pow_zero,Int.mul_one] at h;exact eq_of_cg (cg_trans h (cg_symm (cg_mod v))) h1 h2 (Int.emod_nonneg _ (by decide)) (Int.emod_lt_of_pos _ (by decide))
theorem zero_pow_succ (n : Nat) : (0 : Int) ^ (n + 1) = 0 := by rw [Int.pow_succ,Int.mul_zero]
theorem expo_pos : ∃ n,expo = n + 1 := ⟨1073741786,rfl⟩
theorem inv_zero {a : Int} (h : md a = 0) : inv a = 0 := by
 have h1 : cg a 0 := h;rw [inv_cg h1];unfold inv;obtain ⟨n,hn⟩ := expo_pos;rw [hn,zero_pow_succ];rfl
def invE (n : Int) : Int := if md n = 0 then 90 else 0
theorem invE_zero {n : Int} (h : md n = 0) : invE n = 90 := by unfold invE;rw [if_pos h]
theorem invE_ne {n : Int} (h : md n ≠ 0) : invE n = 0 := by unfold invE;rw [if_neg h]
end Fm
end Go.Proofs.YtifejdpffkeniaaGreatDoor
