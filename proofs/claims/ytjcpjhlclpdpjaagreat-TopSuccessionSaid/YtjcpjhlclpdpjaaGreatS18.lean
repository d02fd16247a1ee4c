import Derived.Test.YtjcpjhlclpdpjaaGreatS14
set_option linter.unusedVariables false
set_option maxRecDepth 100000
set_option maxHeartbeats 16000000
namespace Go.Proofs.YtjcpjhlclpdpjaaGreat
namespace Gs
open Fm
def sm : Nat → (Nat → Int) → Int
 | 0,_ => 0
 | n + 1,f => sm n f + f n
theorem sm_cg {f g : Nat → Int} : ∀ {n : Nat},(∀ j,j < n → cg (f j) (g j)) → cg (sm n f) (sm n g)
 | 0,_ => cg_refl _
 | n + 1,h => cg_add (sm_cg fun j hj => h j (by omega)) (h n (by omega))
theorem sm_eq {f g : Nat → Int} : ∀ {n : Nat},(∀ j,j < n → f j = g j) → sm n f = sm n g
 | 0,_ => rfl
 | n + 1,h => by show sm n f + f n = sm n g + g n;rw [sm_eq fun j hj => h j (by omega),h n (by omega)]
theorem sm_add (f g : Nat → Int) : ∀ n : Nat,sm n (fun j => f j + g j) = sm n f + sm n g
 | 0 => rfl
 | n + 1 => by show sm n (fun j => f j + g j) + (f n + g n) = (sm n f + f n) + (sm n g + g n);rw [sm_add f g n];omega
theorem sm_mul (k : Int) (f : Nat → Int) : ∀ n : Nat,sm n (fun j => k * f j) = k * sm n f
 | 0 => by simp [sm]
 | n + 1 => by show sm n _ + _ = k * (sm n f + f n);rw [sm_mul k f n,Int.mul_add]
theorem sm_zero : ∀ {n : Nat} {f : Nat → Int},(∀ j,j < n → f j = 0) → sm n f = 0
 | 0,_,_ => rfl
 | n + 1,f,h => by show sm n f + f n = 0;rw [sm_zero fun j hj => h j (by omega),h n (by omega)];rfl
theorem sm_one : ∀ {n : Nat} {f : Nat → Int} {a : Nat},a < n → (∀ j,j < n → j ≠ a → f j = 0) → sm n f = f a
 | 0,_,a,h,_ => by omega
 | n + 1,f,a,h,hz => by
  show sm n f + f n = f a
  by_cases e : a = n
  ·subst e;rw [sm_zero fun j hj => hz j (by omega) (by omega)];omega
  ·rw [sm_one (a := a) (by omega) fun j hj hne => hz j (by omega) hne,hz n (by omega) (fun h => e h.symm)];omega
theorem sm_two {n : Nat} {f : Nat → Int} {a b : Nat} (ha : a < n) (hb : b < n) (hab : a ≠ b) (hz : ∀ j,j < n → j ≠ a → j ≠ b → f j = 0) : sm n f = f a + f b := by
 have h1 : sm n f = sm n (fun j => (if j = a then f a else 0) + (if j = b then f b else 0)) := sm_eq fun j hj => by
  by_cases e1 : j = a
  ·subst e1;rw [if_pos rfl,if_neg hab];omega
  ·by_cases e2 : j = b
   ·subst e2;rw [if_neg e1,if_pos rfl];omega
   ·rw [if_neg e1,if_neg e2,hz j hj e1 e2];rfl
 rw [h1,sm_add,sm_one ha fun j _ hne => if_neg hne,sm_one hb fun j _ hne => if_neg hne,if_pos rfl,if_pos rfl]
theorem sm_swap (f : Nat → Nat → Int) (m : Nat) : ∀ n : Nat,sm n (fun i => sm m (f i)) = sm m (fun j => sm n fun i => f i j)
 | 0 => (sm_zero fun j _ => rfl).symm
 | n + 1 => by
  show sm n (fun i => sm m (f i)) + sm m (f n) = sm m (fun j => sm n (fun i => f i j) + f n j)
  rw [sm_swap f m n,sm_add]
theorem cg0 {a : Int} : cg a 0 ↔ md a = 0 := Iff.rfl
def dot (L : Nat) (r z : Nat → Int) : Int := sm L fun j => r j * z j
def ker (n L : Nat) (M : Nat → Nat → Int) (z : Nat → Int) : Prop := ∀ i,i < n → cg (dot L (M i) z) 0
def swpM (M : Nat → Nat → Int) (r k : Nat) : Nat → Nat → Int := fun i => if i = r then M k else if i = k then M r else M i
def sclTo (M : Nat → Nat → Int) (r c : Nat) (nv : Int) (k : Nat) : Nat → Nat → Int := fun i j => if i = r ∧ c ≤ j ∧ j < k then ml (M r j) nv else M i j
def clrs (M : Nat → Nat → Int) (r c L n : Nat) : Nat → Nat → Int := fun i j => if i < n ∧ i ≠ r ∧ c ≤ j ∧ j < L then ad (M i j) (-(ml (M i c) (M r j))) else M i j
theorem ker_swp {n L r k : Nat} {M : Nat → Nat → Int} (hr : r < n) (hk : k < n) (z : Nat → Int) : ker n L (swpM M r k) z ↔ ker n L M z := by
 constructor
 ·intro h i hi
  by_cases e1 : i = r
  ·subst e1
   have := h k hk
   unfold swpM at this
   by_cases e2 : k = i
   ·subst e2;simpa using this
   ·simpa [e2] using this
  ·by_cases e2 : i = k
   ·subst e2;have := h r hr;unfold swpM at this;simpa using this
   ·have := h i hi;unfold swpM at this;simpa [e1,e2] using this
 ·intro h i hi
  unfold swpM
  by_cases e1 : i = r
  ·simp only [e1,if_true];exact h k hk
  ·by_cases e2 : i = k
   ·rw [if_neg e1,if_pos e2];exact h r hr
   ·rw [if_neg e1,if_neg e2];exact h i hi
theorem ker_scl {n L r c : Nat} {M : Nat → Nat → Int} {nv : Int} (hr : r < n) (hz : ∀ j,j < c → M r j = 0) (hv : md nv ≠ 0) (z : Nat → Int) : ker n L (sclTo M r c nv L) z ↔ ker n L M z := by
 have hd : cg (dot L (sclTo M r c nv L r) z) (nv * dot L (M r) z) := by
  unfold dot
  rw [← sm_mul]
  refine sm_cg fun j hj => ?_
  unfold sclTo
  by_cases h : c ≤ j
  ·rw [if_pos ⟨rfl,h,hj⟩]
   refine cg_trans (cg_mul (cg_ml _ _) (cg_refl _)) ?_
   rw [show M r j * nv * z j = nv * (M r j * z j) by grind]
   exact cg_refl _
  ·rw [if_neg (fun h' => h h'.2.1),hz j (by omega)];simp;exact cg_refl _
 have ho : ∀ i,i ≠ r → sclTo M r c nv L i = M i := fun i hi => by funext j;unfold sclTo;rw [if_neg (fun h => hi h.1)]
 constructor
 ·intro h i hi
  by_cases e : i = r
  ·subst e
   have h1 := cg_trans (cg_symm hd) (h i hi)
   rcases (mul_zero_iff (a := nv) (b := dot L (M i) z)).1 h1 with h2 | h2
   ·exact absurd h2 hv
   ·exact h2
  ·have := h i hi;rwa [ho i e] at this
 ·intro h i hi
  by_cases e : i = r
  ·subst e
   refine cg_trans hd ?_
   have := cg_mul (cg_refl nv) (h i hi)
   rwa [Int.mul_zero] at this
  ·rw [ho i e];exact h i hi
theorem ker_clrs {n L r c : Nat} {M : Nat → Nat → Int} (hr : r < n) (hz : ∀ j,j < c → M r j = 0) (z : Nat → Int) : ker n L (clrs M r c L n) z ↔ ker n L M z := by
 have hrr : clrs M r c L n r = M r := by funext j;unfold clrs;rw [if_neg (fun h => h.2.1 rfl)]
 have hd : ∀ i,i < n → i ≠ r → cg (dot L (clrs M r c L n i) z) (dot L (M i) z + -(M i c) * dot L (M r) z) := fun i hi hir => by
  unfold dot
  rw [← sm_mul,← sm_add]
  refine sm_cg fun j hj => ?_
  unfold clrs
  by_cases h : c ≤ j
  ·rw [if_pos ⟨hi,hir,h,hj⟩]
   have h1 : cg (ad (M i j) (-(ml (M i c) (M r j)))) (M i j + -(M i c * M r j)) := cg_trans (cg_ad _ _) (cg_add (cg_refl _) (cg_neg (cg_ml _ _)))
   refine cg_trans (cg_mul h1 (cg_refl (z j))) ?_
   rw [show (M i j + -(M i c * M r j)) * z j = M i j * z j + -(M i c) * (M r j * z j) by grind]
   exact cg_refl _
  ·rw [if_neg (fun h' => h h'.2.2.1),hz j (by omega)];simp;exact cg_refl _
 constructor
 ·intro h i hi
  by_cases e : i = r
  ·subst e;have := h i hi;rwa [hrr] at this
  ·have h1 := h r hr
   rw [hrr] at h1
   have h2 := cg_trans (cg_symm (hd i hi e)) (h i hi)
   have h3 := cg_sub h2 (cg_mul (cg_refl (-(M i c))) h1)
   simpa using h3
 ·intro h i hi
  by_cases e : i = r
  ·subst e;rw [hrr];exact h i hi
  ·have h3 := cg_add (h i hi) (cg_mul (cg_refl (-(M i c))) (h r hr))
   exact cg_trans (hd i hi e) (by simpa using h3)
structure Red (n L : Nat) (M0 M : Nat → Nat → Int) (c : Nat) (ps : List Nat) : Prop where
 rng : ∀ i j,i < n → j < L → 0 ≤ M i j ∧ M i j < 1073741789
 krn : ∀ z,Gs.ker n L M z ↔ Gs.ker n L M0 z
 len : ps.length ≤ n
 lt : ∀ k,k < ps.length → ps.getD k 0 < c
 inc : ∀ k k',k < k' → k' < ps.length → ps.getD k 0 < ps.getD k' 0
 one : ∀ k,k < ps.length → M k (ps.getD k 0) = 1
 oth : ∀ k i,k < ps.length → i < n → i ≠ k → M i (ps.getD k 0) = 0
 zer : ∀ i j,ps.length ≤ i → i < n → j < c → M i j = 0
theorem Red.start {n L : Nat} {M0 : Nat → Nat → Int} (h : ∀ i j,i < n → j < L → 0 ≤ M0 i j ∧ M0 i j < 1073741789) : Red n L M0 M0 0 [] :=
 ⟨h,fun _ => Iff.rfl,Nat.zero_le _,fun k hk => absurd hk (by simp),fun k k' _ hk => absurd hk (by simp),fun k hk => absurd hk (by simp),fun k i hk => absurd hk (by simp),fun i j _ _ hj => absurd hj (by omega)⟩
theorem Red.skip {n L c : Nat} {M0 M : Nat → Nat → Int} {ps : List Nat} (h : Red n L M0 M c ps) (hz : ∀ i,ps.length ≤ i → i < n → M i c = 0) : Red n L M0 M (c + 1) ps :=
 ⟨h.rng,h.krn,h.len,fun k hk => by have := h.lt k hk;omega,h.inc,h.one,h.oth,fun i j h1 h2 h3 => by
  by_cases e : j = c
  ·subst e;exact hz i h1 h2
  ·exact h.zer i j h1 h2 (by omega)⟩
theorem getD_snoc_lt {ps : List Nat} {c k : Nat} (h : k < ps.length) : (ps ++ [c]).getD k 0 = ps.getD k 0 := by
 rw [List.getD_eq_getElem?_getD,List.getElem?_append_left h,← List.getD_eq_getElem?_getD]
theorem getD_snoc_eq {ps : List Nat} {c : Nat} : (ps ++ [c]).getD ps.length 0 = c := by
 rw [List.getD_eq_getElem?_getD,List.getElem?_append_right (Nat.le_refl _),Nat.sub_self];rfl
theorem md_of_rng {a : Int} (h0 : 0 ≤ a) (h1 : a < 1073741789) (hne : a ≠ 0) : md a ≠ 0 := by unfold md;omega
theorem Red.step {n L c k : Nat} {M0 M : Nat → Nat → Int} {ps : List Nat} (h : Red n L M0 M c ps) (hc : c < L) (hk1 : ps.length ≤ k) (hk : k < n) (ha : M k c ≠ 0) :
  Red n L M0 (clrs (sclTo (swpM M ps.length k) ps.length c (inv (M k c)) L) ps.length c L n) (c + 1) (ps ++ [c]) := by
 obtain ⟨r,hr⟩ : ∃ r,ps.length = r := ⟨_,rfl⟩
 obtain ⟨M1,hM1⟩ : ∃ M1,swpM M r k = M1 := ⟨_,rfl⟩
 obtain ⟨a,haa⟩ : ∃ a,M k c = a := ⟨_,rfl⟩
 obtain ⟨M2,hM2⟩ : ∃ M2,sclTo M1 r c (inv a) L = M2 := ⟨_,rfl⟩
 obtain ⟨M3,hM3⟩ : ∃ M3,clrs M2 r c L n = M3 := ⟨_,rfl⟩
 rw [hr,hM1,haa,hM2,hM3]
 rw [hr] at hk1
 have hrn : r < n := by omega
 have row1 : ∀ i,i < n → ∃ i',i' < n ∧ M1 i = M i' ∧ (i < r → i' = i) ∧ (r ≤ i → r ≤ i') := fun i hi => by
  rw [← hM1]
  unfold swpM
  by_cases e1 : i = r
  ·exact ⟨k,hk,by rw [if_pos e1],by omega,by omega⟩
  ·by_cases e2 : i = k
   ·exact ⟨r,hrn,by rw [if_neg e1,if_pos e2],by omega,by omega⟩
   ·exact ⟨i,hi,by rw [if_neg e1,if_neg e2],fun _ => rfl,fun h => h⟩
 have rng1 : ∀ i j,i < n → j < L → 0 ≤ M1 i j ∧ M1 i j < 1073741789 := fun i j hi hj => by
  obtain ⟨i',h1,h2,_⟩ := row1 i hi
  rw [h2];exact h.rng i' j h1 hj
 have zer1 : ∀ i j,r ≤ i → i < n → j < c → M1 i j = 0 := fun i j h1 h2 h3 => by
  obtain ⟨i',g1,g2,_,g4⟩ := row1 i h2
  rw [g2];exact h.zer i' j (by rw [hr];exact g4 h1) g1 h3
 have at1 : M1 r c = a := by rw [← hM1,← haa];unfold swpM;rw [if_pos rfl]
 have hra := h.rng k c hk hc
 rw [haa] at hra ha
 have hmd : md a ≠ 0 := md_of_rng hra.1 hra.2 ha
 have hinv : ml a (inv a) = 1 := ml_inv hmd
 have hmi : md (inv a) ≠ 0 := fun e => by
  have : ml a (inv a) = 0 := mul_zero_iff.2 (.inr e)
  omega
 have at2 : M2 r c = 1 := by rw [← hM2];unfold sclTo;rw [if_pos ⟨rfl,Nat.le_refl _,hc⟩,at1];exact hinv
 have zer2 : ∀ j,j < c → M2 r j = 0 := fun j hj => by rw [← hM2];unfold sclTo;rw [if_neg (by omega)];exact zer1 r j (Nat.le_refl _) hrn hj
 have low2 : ∀ i j,j < c → M2 i j = M1 i j := fun i j hj => by rw [← hM2];unfold sclTo;rw [if_neg (by omega)]
 have low3 : ∀ i j,j < c → M3 i j = M1 i j := fun i j hj => by rw [← hM3];unfold clrs;rw [if_neg (by omega)];exact low2 i j hj
 have row3 : M3 r = M2 r := by rw [← hM3];funext j;unfold clrs;rw [if_neg (fun h => h.2.1 rfl)]
 have old : ∀ q i,q < r → i < n → i ≠ q → M1 i (ps.getD q 0) = 0 := fun q i hq hi hne => by
  obtain ⟨i',g1,g2,g3,g4⟩ := row1 i hi
  rw [g2]
  refine h.oth q i' (by omega) g1 ?_
  rcases Nat.lt_or_ge i r with h1 | h1
  ·rw [g3 h1];exact hne
  ·have := g4 h1;omega
 refine ⟨fun i j hi hj => ?_,fun z => ?_,by simp;omega,fun q hq => ?_,fun q q' h1 h2 => ?_,fun q hq => ?_,fun q i hq hi hne => ?_,fun i j h1 h2 h3 => ?_⟩
 ·have h2 : 0 ≤ M2 i j ∧ M2 i j < 1073741789 := by
   rw [← hM2];unfold sclTo
   split
   ·exact ⟨ml_lo _ _,ml_hi _ _⟩
   ·exact rng1 i j hi hj
  rw [← hM3];unfold clrs
  split
  ·exact ⟨ad_lo _ _,ad_hi _ _⟩
  ·exact h2
 ·rw [← hM3,ker_clrs hrn zer2,← hM2,ker_scl hrn (fun j hj => zer1 r j (Nat.le_refl _) hrn hj) hmi,← hM1,ker_swp hrn hk]
  exact h.krn z
 ·simp at hq
  by_cases e : q = r
  ·subst e;rw [← hr,getD_snoc_eq];omega
  ·rw [getD_snoc_lt (by omega)];have := h.lt q (by omega);omega
 ·simp at h2
  by_cases e : q' = r
  ·subst e;rw [getD_snoc_lt (by omega),← hr,getD_snoc_eq];exact h.lt q (by omega)
  ·rw [getD_snoc_lt (by omega),getD_snoc_lt (by omega)];exact h.inc q q' h1 (by omega)
 ·simp at hq
  by_cases e : q = r
  ·subst e
   rw [show (ps ++ [c]).getD q 0 = c by rw [← hr];exact getD_snoc_eq,row3];exact at2
  ·rw [getD_snoc_lt (by omega),low3 q _ (h.lt q (by omega))]
   obtain ⟨i',g1,g2,g3,_⟩ := row1 q (by omega)
   rw [g2,g3 (by omega)];exact h.one q (by omega)
 ·simp at hq
  by_cases e : q = r
  ·subst e
   rw [show (ps ++ [c]).getD q 0 = c by rw [← hr];exact getD_snoc_eq,← hM3]
   unfold clrs
   rw [if_pos ⟨hi,hne,Nat.le_refl _,hc⟩,at2]
   unfold ad ml
   rw [Int.mul_one]
   have h2 : 0 ≤ M2 i c ∧ M2 i c < 1073741789 := by
    rw [← hM2];unfold sclTo;rw [if_neg (by omega)];exact rng1 i c hi hc
   omega
  ·rw [getD_snoc_lt (by omega),low3 i _ (h.lt q (by omega))];exact old q i (by omega) hi hne
 ·simp at h1
  by_cases e : j = c
  ·subst e
   rw [← hM3]
   unfold clrs
   rw [if_pos ⟨h2,by omega,Nat.le_refl _,hc⟩,at2]
   unfold ad ml
   rw [Int.mul_one]
   have h2 : 0 ≤ M2 i j ∧ M2 i j < 1073741789 := by
    rw [← hM2];unfold sclTo;rw [if_neg (by omega)];exact rng1 i j h2 hc
   omega
  ·rw [low3 i j (by omega)];exact zer1 i j (by omega) h2 (by omega)
theorem Red.idx {n L c : Nat} {M0 M : Nat → Nat → Int} {ps : List Nat} (h : Red n L M0 M c ps) {j : Nat} (hj : j ∈ ps) : ∃ k,k < ps.length ∧ ps.getD k 0 = j := by
 obtain ⟨k,hk,e⟩ := List.mem_iff_getElem.1 hj
 exact ⟨k,hk,by rw [List.getD_eq_getElem?_getD,List.getElem?_eq_getElem hk];exact e⟩
theorem filter_le (ps : List Nat) : ∀ N : Nat,((List.range N).filter fun c => decide (c ∈ ps)).length ≤ ps.length := by
 intro N
 induction ps with
 | nil => simp
 | cons a l ih =>
  have h1 : ∀ N : Nat,((List.range N).filter fun c => decide (c ∈ a :: l)).length ≤ ((List.range N).filter fun c => decide (c ∈ l)).length + (if a < N then 1 else 0) := by
   intro N
   induction N with
   | zero => simp
   | succ N ihN =>
    rw [List.range_succ,List.filter_append,List.filter_append,List.length_append,List.length_append]
    have e1 : ∀ (b : Bool),(List.filter (fun c => decide (c ∈ l)) [N]).length = if N ∈ l then 1 else 0 := fun _ => by by_cases hN : N ∈ l <;> simp [hN]
    have e2 : (List.filter (fun c => decide (c ∈ a :: l)) [N]).length = if N = a ∨ N ∈ l then 1 else 0 := by by_cases hN : N ∈ l <;> by_cases ha : N = a <;> simp [hN,ha]
    rw [e1 true,e2]
    by_cases hN : N ∈ l
    ·rw [if_pos (.inr hN),if_pos hN]
     by_cases ha : a < N
     ·rw [if_pos ha] at ihN;rw [if_pos (by omega)];omega
     ·rw [if_neg ha] at ihN;split <;> omega
    ·by_cases ha : N = a
     ·subst ha
      rw [if_pos (.inl rfl),if_neg hN,if_pos (by omega)]
      rw [if_neg (by omega)] at ihN
      omega
     ·rw [if_neg (by rintro (h | h);exact ha h;exact hN h),if_neg hN]
      by_cases ha2 : a < N
      ·rw [if_pos ha2] at ihN;rw [if_pos (by omega)];omega
      ·rw [if_neg ha2] at ihN;rw [if_neg (by omega)];omega
  have := h1 N
  simp only [List.length_cons]
  split at this <;> omega
theorem free_col {ps : List Nat} {N : Nat} (h : ps.length < N) : ∃ c,c < N ∧ c ∉ ps := by
 refine Classical.byContradiction fun hn => ?_
 have hall : ∀ c,c < N → c ∈ ps := fun c hc => Classical.byContradiction fun h => hn ⟨c,hc,h⟩
 have h1 := filter_le ps N
 rw [List.filter_eq_self.2 (fun c hc => by simpa using hall c (List.mem_range.1 hc)),List.length_range] at h1
 omega
theorem Red.full {N L : Nat} {M0 M : Nat → Nat → Int} {ps : List Nat} (h : Red N L M0 M N ps) (hL : N ≤ L) (hk : ∀ z : Nat → Int,(∀ j,N ≤ j → z j = 0) → Gs.ker N L M0 z → ∀ i,i < N → cg (z i) 0) : ps.length = N := by
 refine Classical.byContradiction fun hne => ?_
 have hlt : ps.length < N := by have := h.len;omega
 obtain ⟨c,hc,hcp⟩ := free_col hlt
 obtain ⟨z,hz⟩ : ∃ z : Nat → Int,z = fun j => if j = c then 1 else if j ∈ ps then -(M (ps.idxOf j) c) else 0 := ⟨_,rfl⟩
 have hzc : z c = 1 := by rw [hz];simp
 have hidx : ∀ k,k < ps.length → ps.idxOf (ps.getD k 0) = k := fun k hk => by
  have hm : ps.getD k 0 ∈ ps := by rw [List.getD_eq_getElem?_getD,List.getElem?_eq_getElem hk];exact List.getElem_mem hk
  have h1 := List.idxOf_lt_length_iff.2 hm
  have h2 : ps.getD (ps.idxOf (ps.getD k 0)) 0 = ps.getD k 0 := by rw [List.getD_eq_getElem?_getD,List.getElem?_eq_getElem h1];simp
  rcases Nat.lt_trichotomy (ps.idxOf (ps.getD k 0)) k with h3 | h3 | h3
  ·have := h.inc _ _ h3 hk;omega
  ·exact h3
  ·have := h.inc _ _ h3 h1;omega
 have hcne : ∀ k,k < ps.length → ps.getD k 0 ≠ c := fun k hk e => hcp (by rw [← e,List.getD_eq_getElem?_getD,List.getElem?_eq_getElem hk];exact List.getElem_mem hk)
 have hkz : Gs.ker N L M z := fun i hi => by
  unfold dot
  rcases Nat.lt_or_ge i ps.length with h1 | h1
  ·have hp := h.lt i h1
   rw [sm_two (a := c) (b := ps.getD i 0) (by omega) (by omega) (hcne i h1).symm ?_]
   ·have hpm : ps.getD i 0 ∈ ps := by rw [List.getD_eq_getElem?_getD,List.getElem?_eq_getElem h1];exact List.getElem_mem h1
    rw [hzc,h.one i h1]
    have : z (ps.getD i 0) = -(M i c) := by
     rw [hz]
     show (if ps.getD i 0 = c then (1 : Int) else if ps.getD i 0 ∈ ps then -(M (ps.idxOf (ps.getD i 0)) c) else 0) = _
     rw [if_neg (hcne i h1),if_pos hpm,hidx i h1]
    rw [this,show M i c * 1 + 1 * -(M i c) = 0 by omega]
    exact cg_refl _
   ·intro j hj h2 h3
    by_cases hjp : j ∈ ps
    ·obtain ⟨q,hq,e⟩ := h.idx hjp
     have hqi : i ≠ q := fun e2 => h3 (by rw [← e,← e2])
     rw [← e,h.oth q i hq hi hqi,Int.zero_mul]
    ·have : z j = 0 := by rw [hz];simp [h2,hjp]
     rw [this,Int.mul_zero]
  ·rw [sm_zero]
   ·exact cg_refl _
   ·intro j hj
    by_cases hjN : j < N
    ·rw [h.zer i j h1 hi hjN,Int.zero_mul]
    ·have hjp : j ∉ ps := fun hm => by obtain ⟨q,hq,e⟩ := h.idx hm;have := h.lt q hq;omega
     have : z j = 0 := by rw [hz];simp [hjp];omega
     rw [this,Int.mul_zero]
 have h1 := hk z (fun j hj => by
  have hjp : j ∉ ps := fun hm => by obtain ⟨q,hq,e⟩ := h.idx hm;have := h.lt q hq;omega
  rw [hz];simp [hjp];omega) ((h.krn z).1 hkz) c hc
 rw [hzc] at h1
 have h2 : (1 : Int) % 1073741789 = 0 % 1073741789 := h1
 omega
def e0 (j : Nat) : Int := if j = 0 then 1 else 0
def sep (M : Nat → Nat → Int) (tg : Nat → Int) (ps : List Nat) (c k : Nat) : Int := tg c + sm k fun q => -(M q c * tg (ps.getD q 0))
theorem Red.sep {n N : Nat} {M0 M : Nat → Nat → Int} {ps : List Nat} (h : Red n N M0 M N ps) (hN : 0 < N) {z : Nat → Int} (hz : Gs.ker n N M0 z) (hz0 : ¬ cg (z 0) 0) : ∃ c,c < N ∧ c ∉ ps ∧ ¬ cg (Gs.sep M e0 ps c ps.length) 0 := by
 refine Classical.byContradiction fun hno => ?_
 have hall : ∀ c,c < N → c ∉ ps → cg (Gs.sep M e0 ps c ps.length) 0 := fun c h1 h2 => Classical.byContradiction fun h3 => hno ⟨c,h1,h2,h3⟩
 by_cases h0 : 0 ∈ ps
 ·obtain ⟨k,hk,e⟩ := h.idx h0
  have hne : ∀ q,q < ps.length → q ≠ k → ps.getD q 0 ≠ 0 := fun q hq hqk e2 => by
   rcases Nat.lt_trichotomy q k with h1 | h1 | h1
   ·have := h.inc _ _ h1 hk;omega
   ·exact hqk h1
   ·have := h.inc _ _ h1 hq;omega
  have hkn : k < n := by have := h.len;omega
  have hfree : ∀ c,c < N → c ∉ ps → cg (M k c) 0 := fun c h1 h2 => by
   have h3 := hall c h1 h2
   unfold Gs.sep at h3
   rw [sm_one (a := k) hk (fun j hj hjk => by unfold e0;rw [if_neg (hne j hj hjk)];simp),e] at h3
   have h4 : e0 c = 0 := by unfold e0;rw [if_neg (fun e => h2 (by rw [e];exact h0))]
   rw [h4] at h3
   simp [e0] at h3
   have := cg_neg h3
   simpa using this
  have h5 := (h.krn z).2 hz k hkn
  unfold dot at h5
  have h6 : cg (sm N fun j => M k j * z j) (sm N fun j => e0 j * z j) := sm_cg fun j hj => by
   refine cg_mul ?_ (cg_refl _)
   by_cases hjp : j ∈ ps
   ·obtain ⟨q,hq,e2⟩ := h.idx hjp
    by_cases hqk : q = k
    ·subst hqk
     rw [← e2,h.one q hq,e]
     exact cg_refl _
    ·rw [← e2,h.oth q k hq hkn (fun e => hqk e.symm)]
     unfold e0
     rw [if_neg (hne q hq hqk)]
     exact cg_refl _
   ·unfold e0
    rw [if_neg (fun e => hjp (by rw [e];exact h0))]
    exact hfree j hj hjp
  rw [sm_one (a := 0) (f := fun j => e0 j * z j) hN (fun j hj hne => by unfold e0;rw [if_neg hne];simp)] at h6
  apply hz0
  have h7 := cg_trans (cg_symm h6) h5
  simpa [e0] using h7
 ·have h3 := hall 0 hN h0
  unfold Gs.sep at h3
  rw [sm_zero (fun q hq => by
   unfold e0
   rw [if_neg (fun e => h0 (by rw [← e,List.getD_eq_getElem?_getD,List.getElem?_eq_getElem hq];exact List.getElem_mem hq))]
   simp)] at h3
  have h4 : ((1 : Int) + 0) % 1073741789 = 0 % 1073741789 := h3
  omega
theorem ev_sm : ∀ (cs : List Int) (x : Int) (N : Nat),cs.length ≤ N → ev cs x = sm N fun j => cs.getD j 0 * x ^ j := by
 intro cs
 induction cs with
 | nil => intro x N _;rw [sm_zero];rfl;intro j _;simp
 | cons a l ih =>
  intro x N hN
  obtain ⟨N',rfl⟩ : ∃ N',N = N' + 1 := ⟨N - 1,by simp at hN;omega⟩
  have hs : ∀ (f : Nat → Int) (n : Nat),sm (n + 1) f = f 0 + sm n fun j => f (j + 1) := by
   intro f n
   induction n with
   | zero => simp [sm]
   | succ n ihn =>
    show sm (n + 1) f + f (n + 1) = _
    rw [ihn]
    show _ = f 0 + (sm n (fun j => f (j + 1)) + f (n + 1))
    omega
  rw [hs]
  show a + x * ev l x = _
  rw [ih x N' (by simp at hN;omega),← sm_mul]
  simp only [Int.pow_zero,Int.mul_one]
  congr 1
  refine sm_eq fun j _ => ?_
  rw [Int.pow_succ]
  show x * (l.getD j 0 * x ^ j) = l.getD j 0 * (x ^ j * x)
  grind
def pwr (x : Int) (j : Nat) : Int := x ^ j % 1073741789
theorem dot_pwr {cs : List Int} {N : Nat} (h : cs.length ≤ N) (x : Int) : cg (dot N (pwr x) fun j => cs.getD j 0) (ev cs x) := by
 rw [ev_sm cs x N h]
 refine sm_cg fun j _ => ?_
 rw [Int.mul_comm]
 exact cg_mul (cg_refl _) (cg_mod _)
theorem not_cg {a b : Int} (h0 : 0 ≤ a) (h1 : a < 1000) (h2 : 0 ≤ b) (h3 : b < 1000) (hne : a ≠ b) : ¬ cg (a - b) 0 := by
 intro h
 have h' : (a - b) % 1073741789 = 0 % 1073741789 := h
 omega
theorem pwr_sep (xs : List Int) (N : Nat) (hN : xs.length < N) (hx : ∀ x ∈ xs,1 ≤ x ∧ x < 1000) : ∃ z : Nat → Int,(∀ x ∈ xs,cg (dot N (pwr x) z) 0) ∧ ¬ cg (z 0) 0 := by
 obtain ⟨cs,hl,hc⟩ := prod_poly (xs.map fun x => (x,0))
 rw [List.length_map] at hl
 have hm : ∀ x,prodL ((xs.map fun x => ((x,0) : Pt)).map fun q => x - q.1) = prodL (xs.map fun y => x - y) := fun x => by rw [List.map_map];rfl
 refine ⟨fun j => cs.getD j 0,fun x hxm => ?_,fun h => ?_⟩
 ·refine cg_trans (dot_pwr (by omega) x) (cg_trans (cg_symm (hc x)) ?_)
  show cg (prodL _) 0
  rw [hm]
  exact prodL_zero (List.mem_map.2 ⟨x,hxm,rfl⟩) (by rw [Int.sub_self];exact cg_refl _)
 ·have h1 := hc 0
  have h2 : ev cs 0 = cs.getD 0 0 := by cases cs with
   | nil => rfl
   | cons a l => simp [ev]
  rw [h2] at h1
  have h3 := cg_trans h1 h
  revert h3
  show ¬ cg (prodL _) 0
  rw [hm]
  refine prodL_ne fun a ha => ?_
  obtain ⟨y,hy,rfl⟩ := List.mem_map.1 ha
  have := hx y hy
  exact fun h => not_cg (a := y) (b := 0) (by omega) (by omega) (by omega) (by omega) (by omega) (by have := cg_neg h;simpa using this)
theorem pwr_free (xs : List Int) (N : Nat) (hN : xs.length = N) (hx : ∀ x ∈ xs,1 ≤ x ∧ x < 1000) (hd : ∀ i k,i < N → k < N → i ≠ k → xs.getD i 0 ≠ xs.getD k 0) (z : Nat → Int)
  (hz : ∀ j,j < N → cg (sm N fun i => pwr (xs.getD i 0) j * z i) 0) : ∀ i,i < N → cg (z i) 0 := by
 intro i hi
 obtain ⟨os,hos⟩ : ∃ os,os = ((List.range N).filter fun k => decide (k ≠ i)).map fun k => xs.getD k 0 := ⟨_,rfl⟩
 have hlen : os.length ≤ N - 1 := by
  rw [hos,List.length_map]
  have key : ∀ N : Nat,i < N → ((List.range N).filter fun k => decide (k ≠ i)).length ≤ N - 1 := by
   intro N
   induction N with
   | zero => intro h;omega
   | succ N ih =>
    intro h
    rw [List.range_succ,List.filter_append,List.length_append]
    by_cases e : i = N
    ·subst e
     have h1 := List.length_filter_le (fun k => decide (k ≠ i)) (List.range i)
     rw [List.length_range] at h1
     have h2 : (List.filter (fun k => decide (k ≠ i)) [i]).length = 0 := by simp
     omega
    ·have h1 := ih (by omega)
     have h2 := List.length_filter_le (fun k => decide (k ≠ i)) [N]
     simp only [List.length_singleton] at h2
     omega
  exact key N hi
 obtain ⟨cs,hl,hc⟩ := prod_poly (os.map fun x => (x,0))
 rw [List.length_map] at hl
 have hm : ∀ x,prodL ((os.map fun x => ((x,0) : Pt)).map fun q => x - q.1) = prodL (os.map fun y => x - y) := fun x => by rw [List.map_map];rfl
 have hcl : cs.length ≤ N := by omega
 have h1 : cg (sm N fun j => cs.getD j 0 * sm N fun k => pwr (xs.getD k 0) j * z k) 0 := by
  have : cg (sm N fun j => cs.getD j 0 * sm N fun k => pwr (xs.getD k 0) j * z k) (sm N fun _ => 0) := sm_cg fun j hj => by
   have := cg_mul (cg_refl (cs.getD j 0)) (hz j hj)
   rwa [Int.mul_zero] at this
  rwa [sm_zero (f := fun _ => 0) fun _ _ => rfl] at this
 have h2 : (sm N fun j => cs.getD j 0 * sm N fun k => pwr (xs.getD k 0) j * z k) = sm N fun k => z k * dot N (pwr (xs.getD k 0)) fun j => cs.getD j 0 := by
  have : (sm N fun j => cs.getD j 0 * sm N fun k => pwr (xs.getD k 0) j * z k) = sm N fun j => sm N fun k => cs.getD j 0 * (pwr (xs.getD k 0) j * z k) := sm_eq fun j _ => (sm_mul _ _ _).symm
  rw [this,sm_swap (fun j k => cs.getD j 0 * (pwr (xs.getD k 0) j * z k))]
  refine sm_eq fun k _ => ?_
  unfold dot
  rw [← sm_mul]
  exact sm_eq fun j _ => by grind
 rw [h2] at h1
 have h3 : cg (sm N fun k => z k * dot N (pwr (xs.getD k 0)) fun j => cs.getD j 0) (sm N fun k => if k = i then z i * prodL (os.map fun y => xs.getD i 0 - y) else 0) := sm_cg fun k hk => by
  have h4 : cg (dot N (pwr (xs.getD k 0)) fun j => cs.getD j 0) (prodL (os.map fun y => xs.getD k 0 - y)) := by
   refine cg_trans (dot_pwr hcl _) (cg_trans (cg_symm (hc _)) ?_)
   show cg (prodL _) _
   rw [hm]
   exact cg_refl _
  by_cases e : k = i
  ·subst e
   rw [if_pos rfl]
   exact cg_mul (cg_refl _) h4
  ·rw [if_neg e]
   have h5 : cg (prodL (os.map fun y => xs.getD k 0 - y)) 0 := prodL_zero (List.mem_map.2 ⟨xs.getD k 0,by rw [hos];exact List.mem_map.2 ⟨k,List.mem_filter.2 ⟨List.mem_range.2 hk,by simpa using e⟩,rfl⟩,rfl⟩) (by rw [Int.sub_self];exact cg_refl _)
   have := cg_mul (cg_refl (z k)) (cg_trans h4 h5)
   rwa [Int.mul_zero] at this
 rw [sm_one (a := i) (f := fun k => if k = i then z i * prodL (os.map fun y => xs.getD i 0 - y) else 0) hi (fun j _ hne => if_neg hne),if_pos rfl] at h3
 have h6 := cg_trans (cg_symm h3) h1
 rcases (mul_zero_iff (a := z i) (b := prodL (os.map fun y => xs.getD i 0 - y))).1 h6 with h7 | h7
 ·exact h7
 ·exfalso
  revert h7
  show ¬ cg (prodL _) 0
  refine prodL_ne fun a ha => ?_
  obtain ⟨y,hy,rfl⟩ := List.mem_map.1 ha
  rw [hos] at hy
  obtain ⟨k,hk,rfl⟩ := List.mem_map.1 hy
  have hk2 := List.mem_filter.1 hk
  have hkN := List.mem_range.1 hk2.1
  have hki : k ≠ i := by simpa using hk2.2
  have mem : ∀ q,q < N → xs.getD q 0 ∈ xs := fun q hq => by rw [List.getD_eq_getElem?_getD,List.getElem?_eq_getElem (by omega)];exact List.getElem_mem _
  have a1 := hx _ (mem i hi)
  have a2 := hx _ (mem k hkN)
  exact not_cg (by omega) (by omega) (by omega) (by omega) (hd i k hi hkN (fun e => hki e.symm))
end Gs
end Go.Proofs.YtjcpjhlclpdpjaaGreat
