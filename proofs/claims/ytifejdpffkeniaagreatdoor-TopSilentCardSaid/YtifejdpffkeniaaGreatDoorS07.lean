import Derived.Test.YtifejdpffkeniaaGreatDoorS05
set_option linter.unusedVariables false
set_option maxRecDepth 100000
set_option maxHeartbeats 40000000
namespace Go.Proofs.YtifejdpffkeniaaGreatDoor
namespace Gs
open Fm
def sm : Nat → (Nat → Int) → Int
 | 0,_ => 0
 | n + 1,f => sm n f + f n
theorem sm_cg {f g : Nat → Int} : ∀ {n : Nat},(∀ j,j < n → cg (f j) (g j)) → cg (sm n f) (sm n g)
 | 0,_ => cg_refl _
 | n + 1,h => cg_add (sm_cg fun j hj => h j (by omega)) (h n (by omega))
theorem sm_eq {f g : Nat → Int} : ∀ {n : Nat},(∀ j,j < n → f j = g j) → sm n f = sm n g
 | 0,_ => rfl
 | n + 1,h => by show sm n f + f n = sm n g + g n;rw [sm_eq fun j hj => h j (by omega),h n (by omega)]
theorem sm_add (f g : Nat → Int) : ∀ n : Nat,sm n (fun j => f j + g j) = sm n f + sm n g
 | 0 => rfl
 | n + 1 => by show sm n (fun j => f j + g j) + (f n + g n) = (sm n f + f n) + (sm n g + g n);rw [sm_add f g n];omega
theorem sm_mul (k : Int) (f : Nat → Int) : ∀ n : Nat,sm n (fun j => k * f j) = k * sm n f
 | 0 => by simp [sm]
 | n + 1 => by show sm n _ + _ = k * (sm n f + f n);rw [sm_mul k f n,Int.mul_add]
theorem sm_zero : ∀ {n : Nat} {f : Nat → Int},(∀ j,j < n → f j = 0) → sm n f = 0
 | 0,_,_ => rfl
 | n + 1,f,h => by show sm n f + f n = 0;rw [sm_zero fun j hj => h j (by omega),h n (by omega)];rfl
theorem sm_one : ∀ {n : Nat} {f : Nat → Int} {a : Nat},a < n → (∀ j,j < n → j ≠ a → f j = 0) → sm n f = f a
 | 0,_,a,h,_ => by omega
 | n + 1,f,a,h,hz => by
  show sm n f + f n = f a
  by_cases e : a = n
  ·subst e;rw [sm_zero fun j hj => hz j (by omega) (by omega)];omega
  ·rw [sm_one (a := a) (by omega) fun j hj hne => hz j (by omega) hne,hz n (by omega) (fun h => e h.symm)];omega
theorem sm_swap (f : Nat → Nat → Int) (m : Nat) : ∀ n : Nat,sm n (fun i => sm m (f i)) = sm m (fun j => sm n fun i => f i j)
 | 0 => (sm_zero fun j _ => rfl).symm
 | n + 1 => by
  show sm n (fun i => sm m (f i)) + sm m (f n) = sm m (fun j => sm n (fun i => f i j) + f n j);rw [sm_swap f m n,sm_add]
def dot (L : Nat) (r z : Nat → Int) : Int := sm L fun j => r j * z j
def ker (n L : Nat) (M : Nat → Nat → Int) (z : Nat → Int) : Prop := ∀ i,i < n → cg (dot L (M i) z) 0
def swpM (M : Nat → Nat → Int) (r k : Nat) : Nat → Nat → Int := fun i => if i = r then M k else if i = k then M r else M i
def sclTo (M : Nat → Nat → Int) (r c : Nat) (nv : Int) (k : Nat) : Nat → Nat → Int := fun i j => if i = r ∧ c ≤ j ∧ j < k then ml (M r j) nv else M i j
def clrs (M : Nat → Nat → Int) (r c L n : Nat) : Nat → Nat → Int := fun i j => if i < n ∧ i ≠ r ∧ c ≤ j ∧ j < L then ad (M i j) (-(ml (M i c) (M r j))) else M i j
theorem ker_swp {n L r k : Nat} {M : Nat → Nat → Int} (hr : r < n) (hk : k < n) (z : Nat → Int) : ker n L (swpM M r k) z ↔ ker n L M z := by
 constructor
 ·intro h i hi
  by_cases e1 : i = r
  ·subst e1
   have := h k hk;unfold swpM at this
   by_cases e2 : k = i
   ·subst e2;simpa using this
   ·simpa [e2] using this
  ·by_cases e2 : i = k
   ·subst e2;have := h r hr;unfold swpM at this;simpa using this
   ·have := h i hi;unfold swpM at this;simpa [e1,e2] using this
 ·intro h i hi
  unfold swpM
  by_cases e1 : i = r
  ·simp only [e1,if_true];exact h k hk
  ·by_cases e2 : i = k
   ·rw [if_neg e1,if_pos e2];exact h r hr
   ·rw [if_neg e1,if_neg e2];exact h i hi
theorem ker_scl {n L r c : Nat} {M : Nat → Nat → Int} {nv : Int} (hr : r < n) (hz : ∀ j,j < c → M r j = 0) (hv : md nv ≠ 0) (z : Nat → Int) : ker n L (sclTo M r c nv L) z ↔ ker n L M z := by
 have hd : cg (dot L (sclTo M r c nv L r) z) (nv * dot L (M r) z) := by
  unfold dot;rw [← sm_mul];refine sm_cg fun j hj => ?_;unfold sclTo
  by_cases h : c ≤ j
  ·rw [if_pos ⟨rfl,h,hj⟩]
   refine cg_trans (cg_mul (cg_ml _ _) (cg_refl _)) ?_;rw [show M r j * nv * z j = nv * (M r j * z j) by grind];exact cg_refl _
  ·rw [if_neg (fun h' => h h'.2.1),hz j (by omega)];simp;exact cg_refl _
 have ho : ∀ i,i ≠ r → sclTo M r c nv L i = M i := fun i hi => by funext j;unfold sclTo;rw [if_neg (fun h => hi h.1)]
 constructor
 ·intro h i hi
  by_cases e : i = r
  ·subst e
   have h1 := cg_trans (cg_symm hd) (h i hi)
   rcases (mul_zero_iff (a := nv) (b := dot L (M i) z)).1 h1 with h2 | h2
   ·exact absurd h2 hv
   ·exact h2
  ·have := h i hi;rwa [ho i e] at this
 ·intro h i hi
  by_cases e : i = r
  ·subst e
   refine cg_trans hd ?_;have := cg_mul (cg_refl nv) (h i hi)
   rwa [Int.mul_zero] at this
  ·rw [ho i e];exact h i hi
theorem ker_clrs {n L r c : Nat} {M : Nat → Nat → Int} (hr : r < n) (hz : ∀ j,j < c → M r j = 0) (z : Nat → Int) : ker n L (clrs M r c L n) z ↔ ker n L M z := by
 have hrr : clrs M r c L n r = M r := by funext j;unfold clrs;rw [if_neg (fun h => h.2.1 rfl)]
 have hd : ∀ i,i < n → i ≠ r → cg (dot L (clrs M r c L n i) z) (dot L (M i) z + -(M i c) * dot L (M r) z) := fun i hi hir => by
  unfold dot;rw [← sm_mul,← sm_add];refine sm_cg fun j hj => ?_;unfold clrs
  by_cases h : c ≤ j
  ·rw [if_pos ⟨hi,hir,h,hj⟩]
   have h1 : cg (ad (M i j) (-(ml (M i c) (M r j)))) (M i j + -(M i c * M r j)) := cg_trans (cg_ad _ _) (cg_add (cg_refl _) (cg_neg (cg_ml _ _)));refine cg_trans (cg_mul h1 (cg_refl (z j))) ?_;rw [show (M i j + -(M i c * M r j)) * z j = M i j * z j + -(M i c) * (M r j * z j) by grind];exact cg_refl _
  ·rw [if_neg (fun h' => h h'.2.2.1),hz j (by omega)];simp;exact cg_refl _
 constructor
 ·intro h i hi
  by_cases e : i = r
  ·subst e;have := h i hi;rwa [hrr] at this
  ·have h1 := h r hr
   rw [hrr] at h1;have h2 := cg_trans (cg_symm (hd i hi e)) (h i hi);have h3 := cg_sub h2 (cg_mul (cg_refl (-(M i c))) h1)
   simpa using h3
 ·intro h i hi
  by_cases e : i = r
  ·subst e;rw [hrr];exact h i hi
  ·have h3 := cg_add (h i hi) (cg_mul (cg_refl (-(M i c))) (h r hr))
   exact cg_trans (hd i hi e) (by simpa using h3)
structure Red (n L : Nat) (M0 M : Nat → Nat → Int) (c : Nat) (ps : List Nat) : Prop where
 rng : ∀ i j,i < n → j < L → 0 ≤ M i j ∧ M i j < 1073741789
 krn : ∀ z,Gs.ker n L M z ↔ Gs.ker n L M0 z
 len : ps.length ≤ n
 lt : ∀ k,k < ps.length → ps.getD k 0 < c
 inc : ∀ k k',k < k' → k' < ps.length → ps.getD k 0 < ps.getD k' 0
 one : ∀ k,k < ps.length → M k (ps.getD k 0) = 1
 oth : ∀ k i,k < ps.length → i < n → i ≠ k → M i (ps.getD k 0) = 0
 zer : ∀ i j,ps.length ≤ i → i < n → j < c → M i j = 0
theorem Red.start {n L : Nat} {M0 : Nat → Nat → Int} (h : ∀ i j,i < n → j < L → 0 ≤ M0 i j ∧ M0 i j < 1073741789) : Red n L M0 M0 0 [] :=
 ⟨h,fun _ => Iff.rfl,Nat.zero_le _,fun k hk => absurd hk (by simp),fun k k' _ hk => absurd hk (by simp),fun k hk => absurd hk (by simp),fun k i hk => absurd hk (by simp),fun i j _ _ hj => absurd hj (by omega)⟩
theorem Red.skip {n L c : Nat} {M0 M : Nat → Nat → Int} {ps : List Nat} (h : Red n L M0 M c ps) (hz : ∀ i,ps.length ≤ i → i < n → M i c = 0) : Red n L M0 M (c + 1) ps :=
 ⟨h.rng,h.krn,h.len,fun k hk => by have := h.lt k hk;omega,h.inc,h.one,h.oth,fun i j h1 h2 h3 => by
  by_cases e : j = c
  ·subst e;exact hz i h1 h2
  ·exact h.zer i j h1 h2 (by omega)⟩
theorem getD_snoc_lt {ps : List Nat} {c k : Nat} (h : k < ps.length) : (ps ++ [c]).getD k 0 = ps.getD k 0 := by
 rw [List.getD_eq_getElem?_getD,List.getElem?_append_left h,← List.getD_eq_getElem?_getD]
theorem getD_snoc_eq {ps : List Nat} {c : Nat} : (ps ++ [c]).getD ps.length 0 = c := by
 rw [List.getD_eq_getElem?_getD,List.getElem?_append_right (Nat.le_refl _),Nat.sub_self];rfl
theorem md_of_rng {a : Int} (h0 : 0 ≤ a) (h1 : a < 1073741789) (hne : a ≠ 0) : md a ≠ 0 := by unfold md;omega
theorem Red.step {n L c k : Nat} {M0 M : Nat → Nat → Int} {ps : List Nat} (h : Red n L M0 M c ps) (hc : c < L) (hk1 : ps.length ≤ k) (hk : k < n) (ha : M k c ≠ 0) :
  Red n L M0 (clrs (sclTo (swpM M ps.length k) ps.length c (inv (M k c)) L) ps.length c L n) (c + 1) (ps ++ [c]) := by
 obtain ⟨r,hr⟩ : ∃ r,ps.length = r := ⟨_,rfl⟩;obtain ⟨M1,hM1⟩ : ∃ M1,swpM M r k = M1 := ⟨_,rfl⟩;obtain ⟨a,haa⟩ : ∃ a,M k c = a := ⟨_,rfl⟩;obtain ⟨M2,hM2⟩ : ∃ M2,sclTo M1 r c (inv a) L = M2 := ⟨_,rfl⟩;obtain ⟨M3,hM3⟩ : ∃ M3,clrs M2 r c L n = M3 := ⟨_,rfl⟩;rw [hr,hM1,haa,hM2,hM3];rw [hr] at hk1;have hrn : r < n := by omega
 have row1 : ∀ i,i < n → ∃ i',i' < n ∧ M1 i = M i' ∧ (i < r → i' = i) ∧ (r ≤ i → r ≤ i') := fun i hi => by
  rw [← hM1];unfold swpM
  by_cases e1 : i = r
  ·exact ⟨k,hk,by rw [if_pos e1],by omega,by omega⟩
  ·by_cases e2 : i = k
   ·exact ⟨r,hrn,by rw [if_neg e1,if_pos e2],by omega,by omega⟩
   ·exact ⟨i,hi,by rw [if_neg e1,if_neg e2],fun _ => rfl,fun h => h⟩
 have rng1 : ∀ i j,i < n → j < L → 0 ≤ M1 i j ∧ M1 i j < 1073741789 := fun i j hi hj => by
  obtain ⟨i',h1,h2,_⟩ := row1 i hi;rw [h2];exact h.rng i' j h1 hj
 have zer1 : ∀ i j,r ≤ i → i < n → j < c → M1 i j = 0 := fun i j h1 h2 h3 => by
  obtain ⟨i',g1,g2,_,g4⟩ := row1 i h2;rw [g2];exact h.zer i' j (by rw [hr];exact g4 h1) g1 h3
 have at1 : M1 r c = a := by rw [← hM1,← haa];unfold swpM;rw [if_pos rfl]
 have hra := h.rng k c hk hc;rw [haa] at hra ha;have hmd : md a ≠ 0 := md_of_rng hra.1 hra.2 ha;have hinv : ml a (inv a) = 1 := ml_inv hmd
 have hmi : md (inv a) ≠ 0 := fun e => by
  have : ml a (inv a) = 0 := mul_zero_iff.2 (.inr e);omega
 have at2 : M2 r c = 1 := by rw [← hM2];unfold sclTo;rw [if_pos ⟨rfl,Nat.le_refl _,hc⟩,at1];exact hinv
 have zer2 : ∀ j,j < c → M2 r j = 0 := fun j hj => by rw [← hM2];unfold sclTo;rw [if_neg (by omega)];exact zer1 r j (Nat.le_refl _) hrn hj
 have low2 : ∀ i j,j < c → M2 i j = M1 i j := fun i j hj => by rw [← hM2];unfold sclTo;rw [if_neg (by omega)]
 have low3 : ∀ i j,j < c → M3 i j = M1 i j := fun i j hj => by rw [← hM3];unfold clrs;rw [if_neg (by omega)];exact low2 i j hj
 have row3 : M3 r = M2 r := by rw [← hM3];funext j;unfold clrs;rw [if_neg (fun h => h.2.1 rfl)]
 have old : ∀ q i,q < r → i < n → i ≠ q → M1 i (ps.getD q 0) = 0 := fun q i hq hi hne => by
  obtain ⟨i',g1,g2,g3,g4⟩ := row1 i hi;rw [g2];refine h.oth q i' (by omega) g1 ?_
  rcases Nat.lt_or_ge i r with h1 | h1
  ·rw [g3 h1];exact hne
  ·have := g4 h1;omega
 refine ⟨fun i j hi hj => ?_,fun z => ?_,by simp;omega,fun q hq => ?_,fun q q' h1 h2 => ?_,fun q hq => ?_,fun q i hq hi hne => ?_,fun i j h1 h2 h3 => ?_⟩
 ·have h2 : 0 ≤ M2 i j ∧ M2 i j < 1073741789 := by
   rw [← hM2];unfold sclTo
   split
   ·exact ⟨ml_lo _ _,ml_hi _ _⟩
   ·exact rng1 i j hi hj
  rw [← hM3];unfold clrs
  split
  ·exact ⟨ad_lo _ _,ad_hi _ _⟩
  ·exact h2
 ·rw [← hM3,ker_clrs hrn zer2,← hM2,ker_scl hrn (fun j hj => zer1 r j (Nat.le_refl _) hrn hj) hmi,← hM1,ker_swp hrn hk]
  exact h.krn z
 ·simp at hq
  by_cases e : q = r
  ·subst e;rw [← hr,getD_snoc_eq];omega
  ·rw [getD_snoc_lt (by omega)];have := h.lt q (by omega);omega
 ·simp at h2
  by_cases e : q' = r
  ·subst e;rw [getD_snoc_lt (by omega),← hr,getD_snoc_eq];exact h.lt q (by omega)
  ·rw [getD_snoc_lt (by omega),getD_snoc_lt (by omega)];exact h.inc q q' h1 (by omega)
 ·simp at hq
  by_cases e : q = r
  ·subst e
   rw [show (ps ++ [c]).getD q 0 = c by rw [← hr];exact getD_snoc_eq,row3];exact at2
  ·rw [getD_snoc_lt (by omega),low3 q _ (h.lt q (by omega))]
   obtain ⟨i',g1,g2,g3,_⟩ := row1 q (by omega);rw [g2,g3 (by omega)];exact h.one q (by omega)
 ·simp at hq
  by_cases e : q = r
  ·subst e
   rw [show (ps ++ [c]).getD q 0 = c by rw [← hr];exact getD_snoc_eq,← hM3];unfold clrs;rw [if_pos ⟨hi,hne,Nat.le_refl _,hc⟩,at2];unfold ad ml;rw [Int.mul_one]
   have h2 : 0 ≤ M2 i c ∧ M2 i c < 1073741789 := by
    rw [← hM2];unfold sclTo;rw [if_neg (by omega)];exact rng1 i c hi hc
   omega
  ·rw [getD_snoc_lt (by omega),low3 i _ (h.lt q (by omega))];exact old q i (by omega) hi hne
 ·simp at h1
  by_cases e : j = c
  ·subst e
   rw [← hM3];unfold clrs;rw [if_pos ⟨h2,by omega,Nat.le_refl _,hc⟩,at2];unfold ad ml;rw [Int.mul_one]
   have h2 : 0 ≤ M2 i j ∧ M2 i j < 1073741789 := by
    rw [← hM2];unfold sclTo;rw [if_neg (by omega)];exact rng1 i j h2 hc
   omega
  ·rw [low3 i j (by omega)];exact zer1 i j (by omega) h2 (by omega)
end Gs
end Go.Proofs.YtifejdpffkeniaaGreatDoor
