import Derived.KernelRfl
set_option linter.unusedVariables false
set_option maxRecDepth 100000
set_option maxHeartbeats 16000000
namespace Go.Proofs.YtjcpjhlclpdpjaaGreat
namespace Fm
def md (n : Int) : Int := n % 1073741789
def ad (a b : Int) : Int := (a + b) % 1073741789
def ml (a b : Int) : Int := (a * b) % 1073741789
def expo : Nat := 1073741787
def inv (n : Int) : Int := (n ^ expo) % 1073741789
theorem md_lo (n : Int) : 0 ≤ md n := by unfold md;omega
theorem md_hi (n : Int) : md n < 1073741789 := by unfold md;omega
theorem ad_lo (a b : Int) : 0 ≤ ad a b := by unfold ad;omega
theorem ad_hi (a b : Int) : ad a b < 1073741789 := by unfold ad;omega
theorem ml_lo (a b : Int) : 0 ≤ ml a b := by unfold ml;exact Int.emod_nonneg _ (by decide)
theorem ml_hi (a b : Int) : ml a b < 1073741789 := by unfold ml;exact Int.emod_lt_of_pos _ (by decide)
theorem inv_lo (n : Int) : 0 ≤ inv n := by unfold inv;exact Int.emod_nonneg _ (by decide)
theorem inv_hi (n : Int) : inv n < 1073741789 := by unfold inv;exact Int.emod_lt_of_pos _ (by decide)
def cg (a b : Int) : Prop := a % 1073741789 = b % 1073741789
theorem cg_refl (a : Int) : cg a a := rfl
theorem cg_symm {a b : Int} (h : cg a b) : cg b a := Eq.symm h
theorem cg_trans {a b c : Int} (h : cg a b) (k : cg b c) : cg a c := Eq.trans h k
theorem cg_add {a b c d : Int} (h : cg a b) (k : cg c d) : cg (a + c) (b + d) := by
 unfold cg at *;rw [Int.add_emod,h,k,← Int.add_emod]
theorem cg_mul {a b c d : Int} (h : cg a b) (k : cg c d) : cg (a * c) (b * d) := by
 unfold cg at *;rw [Int.mul_emod,h,k,← Int.mul_emod]
theorem cg_neg {a b : Int} (h : cg a b) : cg (-a) (-b) := by
 unfold cg at *;omega
theorem cg_sub {a b c d : Int} (h : cg a b) (k : cg c d) : cg (a - c) (b - d) := by
 unfold cg at *;omega
theorem cg_md (a : Int) : cg (md a) a := by unfold cg md;exact Int.emod_emod_of_dvd _ (Int.dvd_refl _)
theorem cg_ad (a b : Int) : cg (ad a b) (a + b) := by unfold cg ad;exact Int.emod_emod_of_dvd _ (Int.dvd_refl _)
theorem cg_ml (a b : Int) : cg (ml a b) (a * b) := by unfold cg ml;exact Int.emod_emod_of_dvd _ (Int.dvd_refl _)
theorem cg_inv (a : Int) : cg (inv a) (a ^ expo) := by unfold cg inv;exact Int.emod_emod_of_dvd _ (Int.dvd_refl _)
theorem cg_mod (a : Int) : cg (a % 1073741789) a := Int.emod_emod_of_dvd _ (Int.dvd_refl _)
theorem cg_pow {a b : Int} (h : cg a b) (n : Nat) : cg (a ^ n) (b ^ n) := by
 induction n with
 | zero => simp [cg]
 | succ n ih => rw [Int.pow_succ,Int.pow_succ];exact cg_mul ih h
theorem cg_iff {a b : Int} : cg a b ↔ (1073741789 : Int) ∣ a - b := by
 unfold cg;rw [Int.emod_eq_emod_iff_emod_sub_eq_zero];exact ⟨Int.dvd_of_emod_eq_zero,Int.emod_eq_zero_of_dvd⟩
theorem md_of_cg {a b : Int} (h : cg a b) : md a = md b := h
theorem eq_of_cg {a b : Int} (h : cg a b) (h1 : 0 ≤ a) (h2 : a < 1073741789) (h3 : 0 ≤ b) (h4 : b < 1073741789) : a = b := by
 unfold cg at h;omega
theorem ml_cg {a b c d : Int} (h : cg a b) (k : cg c d) : ml a c = ml b d := cg_mul h k
theorem ad_cg {a b c d : Int} (h : cg a b) (k : cg c d) : ad a c = ad b d := cg_add h k
theorem inv_cg {a b : Int} (h : cg a b) : inv a = inv b := cg_pow h _
def ch : Nat → Nat → Nat
 | _,0 => 1
 | 0,_ + 1 => 0
 | n + 1,k + 1 => ch n k + ch n (k + 1)
theorem ch_zero (n : Nat) : ch n 0 = 1 := by cases n <;> rfl
theorem ch_step (n k : Nat) : ch (n + 1) (k + 1) = ch n k + ch n (k + 1) := rfl
theorem ch_above : ∀ (n k : Nat),n < k → ch n k = 0
 | 0,_ + 1,_ => rfl
 | n + 1,k + 1,h => by rw [ch_step,ch_above n k (by omega),ch_above n (k + 1) (by omega)]
theorem ch_self : ∀ n,ch n n = 1
 | 0 => rfl
 | n + 1 => by rw [ch_step,ch_self n,ch_above n (n + 1) (by omega)]
theorem ch_mul : ∀ (n k : Nat),(k + 1) * ch (n + 1) (k + 1) = (n + 1) * ch n k
 | 0,0 => rfl
 | 0,k + 1 => by
  have a : ch 1 (k + 1 + 1) = 0 := ch_above 1 (k + 1 + 1) (by omega)
  have b : ch 0 (k + 1) = 0 := rfl
  rw [a,b,Nat.mul_zero,Nat.mul_zero]
 | m + 1,0 => by
  have h := ch_mul m 0
  rw [ch_zero] at h
  have e : ch (m + 1 + 1) (0 + 1) = 1 + ch (m + 1) (0 + 1) := by rw [ch_step (m + 1) 0,ch_zero]
  rw [e,ch_zero]
  omega
 | m + 1,j + 1 => by
  have h1 := ch_mul m (j + 1)
  have h2 := ch_mul m j
  rw [ch_step (m + 1) (j + 1)]
  have h3 : ch (m + 1) (j + 1) = ch m j + ch m (j + 1) := ch_step m j
  have h4 : (m + 1) * ch m j + (m + 1) * ch m (j + 1) = (m + 1) * ch (m + 1) (j + 1) := by rw [h3,Nat.mul_add]
  have h5 : (j + 1 + 1) * ch (m + 1) (j + 1) = (j + 1) * ch (m + 1) (j + 1) + ch (m + 1) (j + 1) := by rw [Nat.add_mul (j + 1) 1,Nat.one_mul]
  have h6 : (m + 1 + 1) * ch (m + 1) (j + 1) = (m + 1) * ch (m + 1) (j + 1) + ch (m + 1) (j + 1) := by rw [Nat.add_mul (m + 1) 1,Nat.one_mul]
  rw [Nat.mul_add,h5,h1,h2,h6]
  omega
def bs (a : Int) (n : Nat) : Nat → Int
 | 0 => 0
 | m + 1 => bs a n m + (ch n m : Int) * a ^ m
theorem bs_step (a : Int) (n : Nat) : ∀ m,bs a (n + 1) (m + 1) = bs a n (m + 1) + a * bs a n m
 | 0 => by simp [bs,ch_zero]
 | m + 1 => by
  have h := bs_step a n m
  rw [bs,h,ch_step]
  have e1 : bs a n (m + 1 + 1) = bs a n (m + 1) + (ch n (m + 1) : Int) * a ^ (m + 1) := rfl
  have e2 : bs a n (m + 1) = bs a n m + (ch n m : Int) * a ^ m := rfl
  rw [e1]
  have e3 : a * bs a n (m + 1) = a * bs a n m + (ch n m : Int) * a ^ (m + 1) := by
   rw [e2,Int.mul_add,Int.pow_succ];congr 1;rw [Int.mul_left_comm,Int.mul_comm a]
  rw [e3]
  push_cast
  rw [Int.add_mul]
  omega
theorem binom (a : Int) : ∀ n,(a + 1) ^ n = bs a n (n + 1)
 | 0 => by simp [bs,ch_zero]
 | n + 1 => by
  have h := binom a n
  rw [Int.pow_succ,h,bs_step]
  have e : bs a n (n + 1 + 1) = bs a n (n + 1) := by
   rw [bs,ch_above n (n + 1) (by omega)];simp
  rw [e,Int.mul_add,Int.mul_one,Int.mul_comm]
  omega
theorem bs_mid (p : Nat) (hc : ∀ k,0 < k → k < p → Nat.Coprime k p) (a : Int) : ∀ m,0 < m → m ≤ p → (p : Int) ∣ bs a p m - 1
 | 1,_,_ => by simp [bs,ch_zero]
 | m + 2,_,h => by
  have ih := bs_mid p hc a (m + 1) (by omega) (by omega)
  have hk : p ∣ ch p (m + 1) := by
   have e : p ∣ (m + 1) * ch p (m + 1) := by
    obtain ⟨q,rfl⟩ : ∃ q,p = q + 1 := ⟨p - 1,by omega⟩
    rw [ch_mul];exact Nat.dvd_mul_right _ _
   exact (Nat.Coprime.symm (hc (m + 1) (by omega) (by omega))).dvd_of_dvd_mul_left e
  have e : bs a p (m + 2) - 1 = (bs a p (m + 1) - 1) + (ch p (m + 1) : Int) * a ^ (m + 1) := by
   show bs a p (m + 1) + (ch p (m + 1) : Int) * a ^ (m + 1) - 1 = _
   omega
  rw [e]
  exact Int.dvd_add ih (Int.dvd_trans (Int.natCast_dvd_natCast.2 hk) (Int.dvd_mul_right _ _))
theorem fermat_nat (p : Nat) (hp : 0 < p) (hc : ∀ k,0 < k → k < p → Nat.Coprime k p) : ∀ a : Nat,(p : Int) ∣ (a : Int) ^ p - a
 | 0 => by
  obtain ⟨q,rfl⟩ : ∃ q,p = q + 1 := ⟨p - 1,by omega⟩
  simp [Int.pow_succ]
 | a + 1 => by
  have ih := fermat_nat p hp hc a
  have h := bs_mid p hc (a : Int) p hp (Nat.le_refl _)
  push_cast
  rw [binom]
  have e : bs (a : Int) p (p + 1) - ((a : Int) + 1) = (bs (a : Int) p p - 1) + ((a : Int) ^ p - a) := by
   show bs (a : Int) p p + (ch p p : Int) * (a : Int) ^ p - _ = _
   rw [ch_self];simp;omega
  rw [e]
  exact Int.dvd_add h ih
def chk : Nat → Nat → Bool
 | 0,s => 1073741789 % (s + 2) != 0
 | n + 1,s => chk n s && chk n (s + 2 ^ n)
theorem chk_of : ∀ (n s : Nat),chk n s = true → ∀ d,s ≤ d → d < s + 2 ^ n → 1073741789 % (d + 2) ≠ 0
 | 0,s,h,d,h1,h2 => by
  have : d = s := by simp at h2;omega
  subst this
  simpa [chk] using h
 | n + 1,s,h,d,h1,h2 => by
  simp only [chk,Bool.and_eq_true] at h
  have e : 2 ^ (n + 1) = 2 ^ n + 2 ^ n := by rw [Nat.pow_succ];omega
  by_cases c : d < s + 2 ^ n
  ·exact chk_of n s h.1 d h1 c
  ·exact chk_of n (s + 2 ^ n) h.2 d (by omega) (by omega)
theorem chk_true : chk 15 0 = true := by decide +kernel
theorem no_div (d : Nat) (h1 : 2 ≤ d) (h2 : d < 32770) : ¬ d ∣ 1073741789 := by
 intro h
 have e : (2 : Nat) ^ 15 = 32768 := by decide
 have h0 := chk_of 15 0 chk_true (d - 2) (by omega) (by omega)
 rw [show d - 2 + 2 = d by omega] at h0
 exact h0 (Nat.mod_eq_zero_of_dvd h)
theorem coprime (k : Nat) (h1 : 0 < k) (h2 : k < 1073741789) : Nat.Coprime k 1073741789 := by
 have hg1 : Nat.gcd k 1073741789 ∣ 1073741789 := Nat.gcd_dvd_right _ _
 have hg2 : Nat.gcd k 1073741789 ≤ k := Nat.gcd_le_left _ h1
 have hg0 : 0 < Nat.gcd k 1073741789 := Nat.gcd_pos_of_pos_left _ h1
 show Nat.gcd k 1073741789 = 1
 generalize Nat.gcd k 1073741789 = g at hg1 hg2 hg0
 obtain ⟨c,hc⟩ := hg1
 have hc0 : c ∣ 1073741789 := ⟨g,by rw [hc,Nat.mul_comm]⟩
 have hg3 : g ∣ 1073741789 := ⟨c,hc⟩
 apply Classical.byContradiction
 intro hg
 have c0 : c ≠ 0 := by intro h;subst h;simp at hc
 have c1 : c ≠ 1 := by intro h;subst h;omega
 by_cases hs : g < 32770
 ·exact no_div g (by omega) hs hg3
 ·by_cases hs2 : c < 32770
  ·exact no_div c (by omega) hs2 hc0
  ·have : 32770 * 32770 ≤ g * c := Nat.mul_le_mul (by omega) (by omega)
   omega
theorem coprime_int {a : Int} (h : a % 1073741789 ≠ 0) : Nat.Coprime (a % 1073741789).toNat 1073741789 :=
 coprime _ (by omega) (by omega)
theorem fermat (a : Int) : cg (a ^ 1073741789) a := by
 have h := fermat_nat 1073741789 (by decide) coprime (a % 1073741789).toNat
 have e : (((a % 1073741789).toNat : Nat) : Int) = a % 1073741789 := by omega
 rw [e] at h
 have h1 : cg ((a % 1073741789) ^ 1073741789) (a % 1073741789) := cg_iff.2 h
 exact cg_trans (cg_pow (cg_symm (cg_mod a)) _) (cg_trans h1 (cg_mod a))
theorem dvd_of_mul {a b : Int} (h : a % 1073741789 ≠ 0) (hd : (1073741789 : Int) ∣ a * b) : (1073741789 : Int) ∣ b := by
 have h1 : Nat.Coprime 1073741789 a.natAbs := by
  have hc := coprime_int h
  have e : (a % 1073741789).toNat = a.natAbs % 1073741789 ∨ (a % 1073741789).toNat = 1073741789 - a.natAbs % 1073741789 := by omega
  have e2 : Nat.gcd 1073741789 a.natAbs = Nat.gcd (a.natAbs % 1073741789) 1073741789 := Nat.gcd_rec _ _
  show Nat.gcd 1073741789 a.natAbs = 1
  rw [e2]
  exact coprime _ (by omega) (by omega)
 have h2 : (1073741789 : Nat) ∣ a.natAbs * b.natAbs := by
  have := Int.natAbs_dvd_natAbs.2 hd
  rw [Int.natAbs_mul] at this
  exact this
 have h3 := h1.dvd_of_dvd_mul_left h2
 exact Int.natAbs_dvd_natAbs.1 h3
theorem mul_zero_iff {a b : Int} : ml a b = 0 ↔ (md a = 0 ∨ md b = 0) := by
 unfold ml md
 constructor
 ·intro h
  by_cases ha : a % 1073741789 = 0
  ·exact .inl ha
  ·exact .inr (Int.emod_eq_zero_of_dvd (dvd_of_mul ha (Int.dvd_of_emod_eq_zero h)))
 ·rintro (h | h)
  ·rw [Int.mul_emod,h];simp
  ·rw [Int.mul_emod,h];simp
theorem pow_inv (a : Int) : a ^ 1073741789 = a * (a * a ^ expo) := by
 have e : (1073741789 : Nat) = expo + 1 + 1 := rfl
 rw [e,Int.pow_succ,Int.pow_succ,Int.mul_comm,Int.mul_comm (a ^ expo)]
theorem mul_inv {a : Int} (h : a % 1073741789 ≠ 0) : cg (a * inv a) 1 := by
 have h1 := cg_iff.1 (fermat a)
 rw [pow_inv] at h1
 have e : a * (a * a ^ expo) - a = a * (a * a ^ expo - 1) := by rw [Int.mul_sub,Int.mul_one]
 rw [e] at h1
 exact cg_trans (cg_mul (cg_refl a) (cg_inv a)) (cg_iff.2 (dvd_of_mul h h1))
theorem ml_inv {a : Int} (h : md a ≠ 0) : ml a (inv a) = 1 := mul_inv h
def pw (x a : Int) (n : Nat) (v : Int) : Prop := cg (x * a ^ n) v
theorem pw_odd {x a v : Int} {n : Nat} (h : pw x a n v) (hn : n % 2 = 1) : pw (ml x a) (ml a a) (n / 2) v := by
 unfold pw at *
 have e : n = 1 + (n / 2 + n / 2) := by omega
 generalize n / 2 = k at *
 subst e
 refine cg_trans (cg_mul (cg_ml x a) (cg_pow (cg_ml a a) k)) ?_
 rw [Int.mul_pow,Int.mul_assoc]
 rw [Int.pow_add,Int.pow_add,Int.pow_one] at h
 exact h
theorem pw_even {x a v : Int} {n : Nat} (h : pw x a n v) (hn : n % 2 = 0) : pw x (ml a a) (n / 2) v := by
 unfold pw at *
 have e : n = n / 2 + n / 2 := by omega
 generalize n / 2 = k at *
 subst e
 refine cg_trans (cg_mul (cg_refl x) (cg_pow (cg_ml a a) k)) ?_
 rw [Int.mul_pow]
 rw [Int.pow_add] at h
 exact h
theorem pw_start (a : Int) (n : Nat) : pw 1 a n (a ^ n) := by unfold pw;rw [Int.one_mul];exact cg_refl _
theorem pw_end {x a v : Int} (h : pw x a 0 v) (h1 : 0 ≤ x) (h2 : x < 1073741789) : x = v % 1073741789 := by
 unfold pw at h
 rw [Int.pow_zero,Int.mul_one] at h
 exact eq_of_cg (cg_trans h (cg_symm (cg_mod v))) h1 h2 (Int.emod_nonneg _ (by decide)) (Int.emod_lt_of_pos _ (by decide))
theorem zero_pow_succ (n : Nat) : (0 : Int) ^ (n + 1) = 0 := by rw [Int.pow_succ,Int.mul_zero]
theorem expo_pos : ∃ n,expo = n + 1 := ⟨1073741786,rfl⟩
theorem inv_zero {a : Int} (h : md a = 0) : inv a = 0 := by
 have h1 : cg a 0 := h
 rw [inv_cg h1];unfold inv
 obtain ⟨n,hn⟩ := expo_pos
 rw [hn,zero_pow_succ];rfl
def invE (n : Int) : Int := if md n = 0 then 90 else 0
theorem invE_zero {n : Int} (h : md n = 0) : invE n = 90 := by unfold invE;rw [if_pos h]
theorem invE_ne {n : Int} (h : md n ≠ 0) : invE n = 0 := by unfold invE;rw [if_neg h]
theorem inv_mul (a b : Int) : cg (inv (a * b)) (inv a * inv b) := by
 refine cg_trans (cg_inv _) ?_
 rw [Int.mul_pow]
 exact cg_symm (cg_mul (cg_inv a) (cg_inv b))
theorem inv_one : inv 1 = 1 := by unfold inv;rw [Int.one_pow];rfl
def ev : List Int → Int → Int
 | [],_ => 0
 | c :: cs,x => c + x * ev cs x
theorem ev_cg (cs : List Int) {x y : Int} (h : cg x y) : cg (ev cs x) (ev cs y) := by
 induction cs with
 | nil => exact cg_refl _
 | cons c cs ih => exact cg_add (cg_refl _) (cg_mul h ih)
theorem ev_append (as bs : List Int) (x : Int) : ev (as ++ bs) x = ev as x + x ^ as.length * ev bs x := by
 induction as with
 | nil => simp [ev]
 | cons a as ih => simp only [List.cons_append,ev,ih,List.length_cons,Int.pow_succ];grind
def dq : List Int → Int → List Int
 | [],_ => []
 | [_],_ => []
 | _ :: c :: cs,r => ev (c :: cs) r :: dq (c :: cs) r
theorem dq_length : ∀ (cs : List Int) (r : Int),(dq cs r).length = cs.length - 1
 | [],_ => rfl
 | [_],_ => rfl
 | _ :: c :: cs,r => by
  have := dq_length (c :: cs) r
  simp only [dq,List.length_cons] at *
  omega
theorem dq_ev : ∀ (cs : List Int) (r x : Int),ev cs x = ev cs r + (x - r) * ev (dq cs r) x
 | [],_,_ => by simp [ev,dq]
 | [c],_,_ => by simp [ev,dq]
 | a :: c :: cs,r,x => by
  have ih := dq_ev (c :: cs) r x
  have e1 : ev (a :: c :: cs) x = a + x * ev (c :: cs) x := rfl
  have e2 : ev (a :: c :: cs) r = a + r * ev (c :: cs) r := rfl
  have e3 : ev (dq (a :: c :: cs) r) x = ev (c :: cs) r + x * ev (dq (c :: cs) r) x := rfl
  rw [e1,e2,e3,ih]
  grind
def diff : List Int → Prop
 | [] => True
 | x :: xs => (∀ y ∈ xs,¬ cg x y) ∧ diff xs
theorem roots : ∀ (xs cs : List Int),diff xs → cs.length ≤ xs.length → (∀ x ∈ xs,cg (ev cs x) 0) → ∀ x,cg (ev cs x) 0
 | [],cs,_,hl,_,x => by
  have : cs = [] := by cases cs with | nil => rfl | cons => simp at hl
  subst this;exact cg_refl _
 | r :: xs,cs,hd,hl,hz,x => by
  have hr := hz r (List.mem_cons_self)
  have h := roots xs (dq cs r) hd.2 (by rw [dq_length];simp at hl;omega) (fun y hy => by
   have h1 := hz y (List.mem_cons_of_mem _ hy)
   rw [dq_ev cs r y] at h1
   have h2 : cg ((y - r) * ev (dq cs r) y) 0 := by
    have := cg_sub h1 hr
    rw [show ev cs r + (y - r) * ev (dq cs r) y - ev cs r = (y - r) * ev (dq cs r) y by omega] at this
    exact this
   have h3 : (y - r) % 1073741789 ≠ 0 := by
    intro h
    exact hd.1 y hy (cg_symm (cg_iff.2 (Int.dvd_of_emod_eq_zero h)))
   have h4 := cg_iff.1 h2
   rw [Int.sub_zero] at h4
   have h5 := dvd_of_mul h3 h4
   exact cg_iff.2 (by rw [Int.sub_zero];exact h5)) x
  rw [dq_ev cs r x]
  exact cg_add hr (cg_trans (cg_mul (cg_refl (x - r)) h) (by rw [Int.mul_zero];exact cg_refl _))
def isPoly (n : Nat) (f : Int → Int) : Prop := ∃ cs : List Int,cs.length ≤ n ∧ ∀ x,cg (f x) (ev cs x)
def addL : List Int → List Int → List Int
 | [],bs => bs
 | a :: as,[] => a :: as
 | a :: as,b :: bs => (a + b) :: addL as bs
theorem addL_length : ∀ (as bs : List Int),(addL as bs).length = max as.length bs.length
 | [],bs => by simp [addL]
 | a :: as,[] => by simp [addL]
 | a :: as,b :: bs => by simp only [addL,List.length_cons,addL_length as bs];omega
theorem addL_ev : ∀ (as bs : List Int) (x : Int),ev (addL as bs) x = ev as x + ev bs x
 | [],bs,x => by simp [addL,ev]
 | a :: as,[],x => by simp [addL,ev]
 | a :: as,b :: bs,x => by
  have ih := addL_ev as bs x
  simp only [addL,ev,ih];grind
theorem map_ev (k : Int) (as : List Int) (x : Int) : ev (as.map (k * ·)) x = k * ev as x := by
 induction as with
 | nil => simp [ev]
 | cons a as ih => simp only [List.map_cons,ev,ih];grind
theorem poly_add {n : Nat} {f g : Int → Int} (hf : isPoly n f) (hg : isPoly n g) : isPoly n (fun x => f x + g x) := by
 obtain ⟨as,la,ha⟩ := hf
 obtain ⟨bs,lb,hb⟩ := hg
 exact ⟨addL as bs,by rw [addL_length];omega,fun x => by rw [addL_ev];exact cg_add (ha x) (hb x)⟩
theorem poly_scale {n : Nat} {f : Int → Int} (k : Int) (hf : isPoly n f) : isPoly n (fun x => k * f x) := by
 obtain ⟨as,la,ha⟩ := hf
 exact ⟨as.map (k * ·),by simpa using la,fun x => by rw [map_ev];exact cg_mul (cg_refl k) (ha x)⟩
theorem poly_zero (n : Nat) : isPoly n (fun _ => 0) := ⟨[],Nat.zero_le _,fun _ => cg_refl _⟩
theorem poly_const {n : Nat} (h : 1 ≤ n) (k : Int) : isPoly n (fun _ => k) := ⟨[k],h,fun x => by simp [ev];exact cg_refl _⟩
theorem poly_lin {n : Nat} {f : Int → Int} (r : Int) (hf : isPoly n f) : isPoly (n + 1) (fun x => (x - r) * f x) := by
 obtain ⟨as,la,ha⟩ := hf
 refine ⟨addL (0 :: as) (as.map (-r * ·)),by rw [addL_length];simp;omega,fun x => ?_⟩
 rw [addL_ev,map_ev]
 have e : ev (0 :: as) x + -r * ev as x = (x - r) * ev as x := by simp only [ev];grind
 rw [e]
 exact cg_mul (cg_refl _) (ha x)
theorem poly_le {m n : Nat} {f : Int → Int} (h : m ≤ n) (hf : isPoly m f) : isPoly n f := by
 obtain ⟨as,la,ha⟩ := hf
 exact ⟨as,by omega,ha⟩
theorem poly_same {n : Nat} {f g : Int → Int} (xs : List Int) (hd : diff xs) (hl : n ≤ xs.length) (hf : isPoly n f) (hg : isPoly n g) (h : ∀ x ∈ xs,cg (f x) (g x)) (x : Int) : cg (f x) (g x) := by
 obtain ⟨cs,lc,hc⟩ := poly_add hf (poly_scale (-1) hg)
 have hz := roots xs cs hd (by omega) (fun y hy => by
  refine cg_trans (cg_symm (hc y)) ?_
  have := cg_add (h y hy) (cg_refl (-1 * g y))
  rw [show g y + -1 * g y = 0 by omega] at this
  exact this) x
 have h1 := cg_trans (hc x) hz
 have h2 := cg_add h1 (cg_refl (g x))
 rw [show f x + -1 * g x + g x = f x by omega,Int.zero_add] at h2
 exact h2
def prodL : List Int → Int
 | [] => 1
 | a :: as => a * prodL as
theorem prodL_cg_inv (l : List Int) : cg (prodL (l.map inv)) (inv (prodL l)) := by
 induction l with
 | nil => rw [show prodL [] = 1 from rfl,inv_one];exact cg_refl _
 | cons a l ih => exact cg_trans (cg_mul (cg_refl _) ih) (cg_symm (inv_mul _ _))
theorem prodL_append (as bs : List Int) : prodL (as ++ bs) = prodL as * prodL bs := by
 induction as with
 | nil => simp [prodL]
 | cons a as ih => simp only [List.cons_append,prodL,ih,Int.mul_assoc]
theorem prodL_ne {l : List Int} (h : ∀ a ∈ l,¬ cg a 0) : ¬ cg (prodL l) 0 := by
 induction l with
 | nil => intro h;simp [prodL,cg] at h
 | cons a l ih =>
  intro h0
  have h1 : md (a * prodL l) = 0 := h0
  rcases (mul_zero_iff (a := a) (b := prodL l)).1 h1 with h2 | h2
  ·exact h a List.mem_cons_self h2
  ·exact ih (fun b hb => h b (List.mem_cons_of_mem _ hb)) h2
theorem prodL_zero {l : List Int} {a : Int} (h : a ∈ l) (h0 : cg a 0) : cg (prodL l) 0 := by
 induction l with
 | nil => cases h
 | cons b l ih =>
  rcases List.mem_cons.1 h with rfl | h
  ·exact cg_trans (cg_mul h0 (cg_refl _)) (by rw [Int.zero_mul];exact cg_refl _)
  ·exact cg_trans (cg_mul (cg_refl b) (ih h)) (by rw [Int.mul_zero];exact cg_refl _)
abbrev Pt := Int × Int
def tm (p : Pt) (os : List Pt) (x : Int) : Int := p.2 * prodL (os.map fun q => x - q.1) * inv (prodL (os.map fun q => p.1 - q.1))
def lg (pre : List Pt) : List Pt → Int → Int
 | [],_ => 0
 | p :: rest,x => tm p (pre ++ rest) x + lg (pre ++ [p]) rest x
def lag (l : List Pt) (x : Int) : Int := lg [] l x % 1073741789
def dif (l : List Pt) : Prop := diff (l.map fun q => q.1)
theorem prod_poly (os : List Pt) : isPoly (os.length + 1) (fun x => prodL (os.map fun q => x - q.1)) := by
 induction os with
 | nil => exact poly_const (by simp) 1
 | cons q os ih =>
  have := poly_lin q.1 ih
  exact this
theorem tm_poly (p : Pt) (os : List Pt) : isPoly (os.length + 1) (tm p os) := by
 have h := poly_scale (p.2 * inv (prodL (os.map fun q => p.1 - q.1))) (prod_poly os)
 obtain ⟨cs,hl,hc⟩ := h
 refine ⟨cs,hl,fun x => ?_⟩
 have := hc x
 unfold tm
 rw [Int.mul_assoc,Int.mul_comm (prodL _),← Int.mul_assoc]
 exact this
theorem lg_poly (rest : List Pt) : ∀ pre : List Pt,isPoly (pre.length + rest.length) (lg pre rest) := by
 induction rest with
 | nil => intro pre;exact poly_zero _
 | cons p rest ih =>
  intro pre
  have h1 := tm_poly p (pre ++ rest)
  have h2 := ih (pre ++ [p])
  rw [List.length_append] at h1 h2
  simp only [List.length_cons,List.length_nil] at *
  have e : pre.length + (0 + 1) + rest.length = pre.length + (rest.length + 1) := by omega
  rw [e] at h2
  exact poly_add (poly_le (by omega) h1) h2
theorem lag_poly (l : List Pt) : isPoly l.length (lag l) := by
 obtain ⟨cs,h,hc⟩ := lg_poly l []
 exact ⟨cs,by simpa using h,fun x => cg_trans (cg_mod _) (hc x)⟩
theorem diff_append : ∀ {as bs : List Int},diff (as ++ bs) → (∀ a ∈ as,∀ b ∈ bs,¬ cg a b) ∧ diff as ∧ diff bs
 | [],bs,h => ⟨by simp,trivial,h⟩
 | a :: as,bs,h => by
  obtain ⟨h1,h2⟩ := h
  obtain ⟨h3,h4,h5⟩ := diff_append h2
  refine ⟨?_,⟨fun y hy => h1 y (List.mem_append_left _ hy),h4⟩,h5⟩
  intro x hx b hb
  rcases List.mem_cons.1 hx with rfl | hx
  ·exact h1 b (List.mem_append_right _ hb)
  ·exact h3 x hx b hb
theorem tm_own (p : Pt) (os : List Pt) (h : ∀ q ∈ os,¬ cg p.1 q.1) : cg (tm p os p.1) p.2 := by
 unfold tm
 have h1 : ¬ cg (prodL (os.map fun q => p.1 - q.1)) 0 := prodL_ne (by
  intro a ha
  obtain ⟨q,hq,rfl⟩ := List.mem_map.1 ha
  intro h0
  exact h q hq (by have := cg_iff.1 h0;rw [Int.sub_zero] at this;exact cg_iff.2 this))
 have h2 := mul_inv (a := prodL (os.map fun q => p.1 - q.1)) (fun h => h1 (show _ = _ from h))
 rw [Int.mul_assoc]
 exact cg_trans (cg_mul (cg_refl _) h2) (by rw [Int.mul_one];exact cg_refl _)
theorem tm_other (p : Pt) (os : List Pt) {x : Int} (q : Pt) (hq : q ∈ os) (h : cg x q.1) : cg (tm p os x) 0 := by
 unfold tm
 have h1 : cg (x - q.1) 0 := by
  have := cg_sub h (cg_refl q.1)
  rw [Int.sub_self] at this;exact this
 have h2 := prodL_zero (l := os.map fun q => x - q.1) (List.mem_map.2 ⟨q,hq,rfl⟩) h1
 refine cg_trans (cg_mul (cg_mul (cg_refl _) h2) (cg_refl _)) ?_
 rw [Int.mul_zero,Int.zero_mul];exact cg_refl _
theorem lg_pre (rest : List Pt) : ∀ (pre : List Pt) (q : Pt) (x : Int),q ∈ pre → cg x q.1 → cg (lg pre rest x) 0 := by
 induction rest with
 | nil => intro pre q x _ _;exact cg_refl _
 | cons p rest ih =>
  intro pre q x hq hx
  have h1 := tm_other p (pre ++ rest) q (List.mem_append_left _ hq) hx
  have h2 := ih (pre ++ [p]) q x (List.mem_append_left _ hq) hx
  exact cg_add h1 h2
theorem lg_at (rest : List Pt) : ∀ (pre : List Pt),dif (pre ++ rest) → ∀ q ∈ rest,cg (lg pre rest q.1) q.2 := by
 induction rest with
 | nil => intro pre _ q hq;cases hq
 | cons p rest ih =>
  intro pre hd q hq
  have hd0 := hd
  unfold dif at hd0
  rw [List.map_append,List.map_cons] at hd0
  obtain ⟨d1,d2,d3⟩ := diff_append hd0
  have hp : ∀ r ∈ pre ++ rest,¬ cg p.1 r.1 := by
   intro r hr
   rcases List.mem_append.1 hr with hr | hr
   ·exact fun h => d1 r.1 (List.mem_map.2 ⟨r,hr,rfl⟩) p.1 (List.mem_cons_self) (cg_symm h)
   ·exact d3.1 r.1 (List.mem_map.2 ⟨r,hr,rfl⟩)
  rcases List.mem_cons.1 hq with rfl | hq
  ·have h1 := tm_own q (pre ++ rest) hp
   have h2 := lg_pre rest (pre ++ [q]) q q.1 (List.mem_append_right _ (List.mem_cons_self)) (cg_refl _)
   have := cg_add h1 h2
   rw [Int.add_zero] at this
   exact this
  ·have h1 := tm_other p (pre ++ rest) (x := q.1) q (List.mem_append_right _ hq) (cg_refl _)
   have h2 := ih (pre ++ [p]) (by rw [List.append_assoc];exact hd) q hq
   have := cg_add h1 h2
   rw [Int.zero_add] at this
   exact this
theorem lag_at (l : List Pt) (hd : dif l) (q : Pt) (hq : q ∈ l) : lag l q.1 = md q.2 := lg_at l [] hd q hq
theorem diff_iff : ∀ (xs : List Int),diff xs ↔ ∀ i k : Nat,i < xs.length → k < i → ¬ cg (xs.getD i 0) (xs.getD k 0)
 | [] => ⟨fun _ i k h => absurd h (by simp),fun _ => trivial⟩
 | x :: xs => by
  have ih := diff_iff xs
  constructor
  ·rintro ⟨h1,h2⟩ i k hi hk
   have h3 := ih.1 h2
   cases i with
   | zero => omega
   | succ i =>
    simp only [List.length_cons] at hi
    have hi' : i < xs.length := by omega
    have e1 : (x :: xs).getD (i + 1) 0 = xs.getD i 0 := by simp
    rw [e1]
    cases k with
    | zero =>
     have e2 : (x :: xs).getD 0 0 = x := by simp
     rw [e2]
     intro hc
     refine h1 (xs.getD i 0) ?_ (cg_symm hc)
     rw [List.getD_eq_getElem?_getD,List.getElem?_eq_getElem hi']
     exact List.getElem_mem hi'
    | succ k =>
     have e2 : (x :: xs).getD (k + 1) 0 = xs.getD k 0 := by simp
     rw [e2]
     exact h3 i k hi' (by omega)
  ·intro h
   refine ⟨fun y hy => ?_,ih.2 fun i k hi hk => ?_⟩
   ·obtain ⟨i,hi,rfl⟩ := List.getElem_of_mem hy
    have h1 := h (i + 1) 0 (by simp;omega) (by omega)
    intro hc
    refine h1 ?_
    have e1 : (x :: xs).getD (i + 1) 0 = xs[i] := by simp [hi]
    have e2 : (x :: xs).getD 0 0 = x := by simp
    rw [e1,e2]
    exact cg_symm hc
   ·have h1 := h (i + 1) (k + 1) (by simp;omega) (by omega)
    have e1 : (x :: xs).getD (i + 1) 0 = xs.getD i 0 := by simp
    have e2 : (x :: xs).getD (k + 1) 0 = xs.getD k 0 := by simp
    rw [e1,e2] at h1
    exact h1
def pX (l : List Pt) (i : Nat) : Int := (l.getD i (0,0)).1
def pY (l : List Pt) (i : Nat) : Int := (l.getD i (0,0)).2
theorem getD_fst (l : List Pt) (i : Nat) : (l.map fun q => q.1).getD i 0 = pX l i := by
 unfold pX
 simp only [List.getD_eq_getElem?_getD,List.getElem?_map]
 cases l[i]? <;> rfl
theorem dif_iff (l : List Pt) : dif l ↔ ∀ i k : Nat,i < l.length → k < i → md (pX l i) ≠ md (pX l k) := by
 unfold dif
 rw [diff_iff]
 simp only [List.length_map,getD_fst]
 exact Iff.rfl
def pt (l : List Pt) (i : Nat) : Pt := (pX l i,pY l i)
def so (l : List Pt) (i : Nat) : Nat → List Pt
 | 0 => []
 | k + 1 => if k = i then so l i k else so l i k ++ [pt l k]
theorem so_le (l : List Pt) (i : Nat) : ∀ k,(so l i k).length ≤ k
 | 0 => by simp [so]
 | k + 1 => by
  have := so_le l i k
  unfold so
  split
  ·omega
  ·simp;omega
theorem take_pt (l : List Pt) (k : Nat) (h : k < l.length) : l.take (k + 1) = l.take k ++ [pt l k] := by
 rw [List.take_succ_eq_append_getElem h]
 have : pt l k = l[k] := by unfold pt pX pY;rw [List.getD_eq_getElem?_getD,List.getElem?_eq_getElem h];rfl
 rw [this]
theorem drop_pt (l : List Pt) (k : Nat) (h : k < l.length) : l.drop k = pt l k :: l.drop (k + 1) := by
 rw [List.drop_eq_getElem_cons h]
 have : pt l k = l[k] := by unfold pt pX pY;rw [List.getD_eq_getElem?_getD,List.getElem?_eq_getElem h];rfl
 rw [this]
theorem so_low (l : List Pt) (i : Nat) : ∀ k,k ≤ i → k ≤ l.length → so l i k = l.take k
 | 0,_,_ => by simp [so]
 | k + 1,h,hl => by
  rw [so,if_neg (by omega),so_low l i k (by omega) (by omega),take_pt l k (by omega)]
theorem so_high (l : List Pt) (i : Nat) (hi : i < l.length) : ∀ d,i + 1 + d ≤ l.length → so l i (i + 1 + d) = l.take i ++ (l.drop (i + 1)).take d
 | 0,_ => by
  show so l i (i + 1) = _
  rw [so,if_pos rfl,so_low l i i (Nat.le_refl _) (by omega)];simp
 | d + 1,h => by
  have ih := so_high l i hi d (by omega)
  rw [show i + 1 + (d + 1) = (i + 1 + d) + 1 by omega,so,if_neg (by omega),ih,List.append_assoc]
  congr 1
  have hlen : d < (l.drop (i + 1)).length := by rw [List.length_drop];omega
  rw [List.take_succ_eq_append_getElem hlen]
  congr 2
  have hk : i + 1 + d < l.length := by omega
  have : pt l (i + 1 + d) = l[i + 1 + d] := by unfold pt pX pY;rw [List.getD_eq_getElem?_getD,List.getElem?_eq_getElem hk];rfl
  rw [this,List.getElem_drop]
theorem so_all (l : List Pt) (i : Nat) (hi : i < l.length) : so l i l.length = l.take i ++ l.drop (i + 1) := by
 have h := so_high l i hi (l.length - (i + 1)) (by omega)
 rw [show i + 1 + (l.length - (i + 1)) = l.length by omega] at h
 rw [h]
 congr 1
 exact List.take_of_length_le (by rw [List.length_drop];omega)
def sm (l : List Pt) (x : Int) : Nat → Int
 | 0 => 0
 | i + 1 => sm l x i + tm (pt l i) (l.take i ++ l.drop (i + 1)) x
theorem lg_sm (l : List Pt) (x : Int) : ∀ i,i ≤ l.length → sm l x i + lg (l.take i) (l.drop i) x = lg [] l x
 | 0,_ => by simp [sm]
 | i + 1,h => by
  have ih := lg_sm l x i (by omega)
  rw [drop_pt l i (by omega)] at ih
  rw [lg,← take_pt l i (by omega)] at ih
  rw [sm]
  omega
theorem lag_sm (l : List Pt) (x : Int) : sm l x l.length % 1073741789 = lag l x := by
 have h := lg_sm l x l.length (Nat.le_refl _)
 rw [List.drop_length,lg,Int.add_zero] at h
 rw [h];rfl
theorem sm_next (l : List Pt) (x t : Int) (i : Nat) (hi : i < l.length) (ht : cg t (tm (pt l i) (so l i l.length) x)) : ad (sm l x i % 1073741789) t = sm l x (i + 1) % 1073741789 := by
 rw [so_all l i hi] at ht
 exact (cg_add (cg_mod _) ht : cg (sm l x i % 1073741789 + t) (sm l x i + tm (pt l i) (l.take i ++ l.drop (i + 1)) x))
def rp (p : Pt) (os : List Pt) (x : Int) : Int := p.2 * (prodL (os.map fun q => x - q.1) * prodL (os.map fun q => inv (p.1 - q.1)))
def ab (p : Pt) (os : List Pt) (x : Int) : Int := p.2 * prodL (os.map fun q => x - q.1)
def be (p : Pt) (os : List Pt) : Int := prodL (os.map fun q => p.1 - q.1)
theorem prodL_snoc (os : List Pt) (q : Pt) (f : Pt → Int) : prodL ((os ++ [q]).map f) = prodL (os.map f) * f q := by
 rw [List.map_append,prodL_append];simp [prodL]
theorem sub_cg (a b : Int) : cg (ad a (-md b)) (a - b) := by
 refine cg_trans (cg_ad _ _) ?_
 rw [Int.sub_eq_add_neg]
 exact cg_add (cg_refl _) (cg_neg (cg_md _))
theorem rp_zero (p : Pt) (x : Int) : cg (md p.2) (rp p [] x) := by
 unfold rp;simp only [List.map_nil,prodL,Int.mul_one];exact cg_md _
theorem rp_next {p q : Pt} {os : List Pt} {x a : Int} (h : cg a (rp p os x)) : cg (ml a (ml (ad x (-md q.1)) (inv (ad p.1 (-md q.1))))) (rp p (os ++ [q]) x) := by
 refine cg_trans (cg_ml _ _) (cg_trans (cg_mul h (cg_trans (cg_ml _ _) (cg_mul (sub_cg _ _) (show cg (inv (ad p.1 (-md q.1))) (inv (p.1 - q.1)) by rw [inv_cg (sub_cg _ _)];exact cg_refl _)))) ?_)
 unfold rp
 rw [prodL_snoc,prodL_snoc]
 have e : ∀ a b c d e : Int,a * (b * c) * (d * e) = a * (b * d * (c * e)) := by intro a b c d e;grind
 rw [e];exact cg_refl _
theorem rp_end {p : Pt} {os : List Pt} {x a : Int} (h : cg a (rp p os x)) : cg a (tm p os x) := by
 refine cg_trans h ?_
 unfold rp tm
 rw [Int.mul_assoc]
 refine cg_mul (cg_refl _) (cg_mul (cg_refl _) ?_)
 have := prodL_cg_inv (os.map fun q => p.1 - q.1)
 rw [List.map_map] at this
 exact this
theorem ab_zero (p : Pt) (x : Int) : cg (md p.2) (ab p [] x) := by
 unfold ab;simp only [List.map_nil,prodL,Int.mul_one];exact cg_md _
theorem be_zero (p : Pt) : cg 1 (be p []) := cg_refl _
theorem ab_next {p q : Pt} {os : List Pt} {x a : Int} (h : cg a (ab p os x)) : cg (ml a (ad x (-md q.1))) (ab p (os ++ [q]) x) := by
 refine cg_trans (cg_ml _ _) (cg_trans (cg_mul h (sub_cg _ _)) ?_)
 unfold ab;rw [prodL_snoc,Int.mul_assoc];exact cg_refl _
theorem be_next {p q : Pt} {os : List Pt} {a : Int} (h : cg a (be p os)) : cg (ml a (ad p.1 (-md q.1))) (be p (os ++ [q])) := by
 refine cg_trans (cg_ml _ _) (cg_trans (cg_mul h (sub_cg _ _)) ?_)
 unfold be;rw [prodL_snoc];exact cg_refl _
theorem ab_end {p : Pt} {os : List Pt} {x a b : Int} (h : cg a (ab p os x)) (k : cg b (be p os)) : cg (ml a (inv b)) (tm p os x) := by
 refine cg_trans (cg_ml _ _) ?_
 unfold tm
 exact cg_mul h (by rw [inv_cg k];exact cg_refl _)
theorem lag_lo (l : List Pt) (x : Int) : 0 ≤ lag l x := Int.emod_nonneg _ (by decide)
theorem lag_hi (l : List Pt) (x : Int) : lag l x < 1073741789 := Int.emod_lt_of_pos _ (by decide)
theorem lag_same (l m : List Pt) (he : dif m) (hlen : l.length ≤ m.length) (h : ∀ q ∈ m,lag l q.1 = md q.2) (x : Int) : lag l x = lag m x := by
 have h1 := poly_same (n := m.length) (m.map fun q : Pt => q.1) he (by simp) (poly_le hlen (lag_poly l)) (lag_poly m) (fun y hy => by
  obtain ⟨q,hq,rfl⟩ := List.mem_map.1 hy
  rw [h q hq,lag_at m he q hq];exact cg_refl _) x
 exact eq_of_cg h1 (lag_lo _ _) (lag_hi _ _) (lag_lo _ _) (lag_hi _ _)
def val (cs : List Int) (x : Int) : Int := ev cs x % 1073741789
theorem val_lo (l : List Int) (x : Int) : 0 ≤ val l x := Int.emod_nonneg _ (by decide)
theorem val_hi (l : List Int) (x : Int) : val l x < 1073741789 := Int.emod_lt_of_pos _ (by decide)
theorem val_snoc (cs : List Int) (c x : Int) : ad (val cs x) (ml c (x ^ cs.length % 1073741789)) = val (cs ++ [c]) x := by
 have h : cg (val cs x + ml c (x ^ cs.length % 1073741789)) (ev (cs ++ [c]) x) := by
  rw [ev_append]
  refine cg_add (cg_mod _) (cg_trans (cg_ml _ _) ?_)
  rw [show ev [c] x = c by simp [ev],Int.mul_comm]
  exact cg_mul (cg_mod _) (cg_refl _)
 exact h
theorem val_cons (cs : List Int) (c x : Int) : ad (ml (val cs x) x) c = val (c :: cs) x := by
 have h : cg (ml (val cs x) x + c) (ev (c :: cs) x) := by
  rw [show ev (c :: cs) x = x * ev cs x + c by simp only [ev];omega,Int.mul_comm]
  exact cg_add (cg_trans (cg_ml _ _) (cg_mul (cg_mod _) (cg_refl _))) (cg_refl _)
 exact h
theorem pow_next (x : Int) (n : Nat) : ml (x ^ n % 1073741789) x = x ^ (n + 1) % 1073741789 := by
 have h : cg ((x ^ n % 1073741789) * x) (x ^ (n + 1)) := by rw [Int.pow_succ];exact cg_mul (cg_mod _) (cg_refl _)
 exact h
theorem lag_val (l : List Pt) (cs : List Int) (hd : dif l) (hlen : cs.length ≤ l.length) (h : ∀ q ∈ l,q.2 = val cs q.1) (x : Int) : lag l x = val cs x := by
 have h1 := poly_same (n := l.length) (l.map fun q : Pt => q.1) hd (by simp) (lag_poly l) ⟨cs,hlen,fun y => cg_mod (ev cs y)⟩ (fun y hy => by
  obtain ⟨q,hq,rfl⟩ := List.mem_map.1 hy
  rw [lag_at l hd q hq,h q hq]
  exact cg_md _) x
 exact eq_of_cg h1 (lag_lo _ _) (lag_hi _ _) (val_lo _ _) (val_hi _ _)
end Fm
end Go.Proofs.YtjcpjhlclpdpjaaGreat
