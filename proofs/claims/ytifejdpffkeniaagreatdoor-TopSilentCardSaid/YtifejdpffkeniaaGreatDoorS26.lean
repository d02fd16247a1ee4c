import Derived.Test.YtifejdpffkeniaaGreatDoorS25
set_option linter.unusedVariables false
set_option maxRecDepth 100000
set_option maxHeartbeats 40000000
namespace Go.Proofs.YtifejdpffkeniaaGreatDoor
open Go.RowKit
theorem w64_in (n : Int) (h : -9223372036854775808 ≤ n ∧ n ≤ 9223372036854775807) : wrap64 n = n := by unfold wrap64;omega
theorem or_bd {x y : Int} {n : Nat} (hn : n ≤ 63) (h1 : 0 ≤ x) (h2 : x < 2 ^ n) (h3 : 0 ≤ y) (h4 : y < 2 ^ n) : 0 ≤ bits .or .i64 x y ∧ bits .or .i64 x y < 2 ^ n := by
 obtain ⟨a,rfl⟩ := Int.eq_ofNat_of_zero_le h1;obtain ⟨b,rfl⟩ := Int.eq_ofNat_of_zero_le h3;have ha : a < 2 ^ n := by exact_mod_cast h2
 have hb : b < 2 ^ n := by exact_mod_cast h4
 have hle : 2 ^ n ≤ 2 ^ 63 := Nat.pow_le_pow_right (by decide) hn;have ho : a ||| b < 2 ^ n := Nat.or_lt_two_pow ha hb
 have e : bits .or .i64 (a : Int) (b : Int) = ((a ||| b : Nat) : Int) := by
  have hk : IntKind.i64.bits = 64 := rfl;have h64 : (2 : Nat) ^ 63 < 2 ^ 64 := by decide
  have q : (BitVec.ofInt IntKind.i64.bits (a : Int) ||| BitVec.ofInt IntKind.i64.bits (b : Int)).toNat = a ||| b := by
   rw [BitVec.toNat_or,BitVec.ofInt_natCast,BitVec.ofInt_natCast,BitVec.toNat_ofNat,BitVec.toNat_ofNat,hk,Nat.mod_eq_of_lt (by omega),Nat.mod_eq_of_lt (by omega)]
  show IntKind.i64.wrap ((BitVec.ofInt IntKind.i64.bits (a : Int) ||| BitVec.ofInt IntKind.i64.bits (b : Int)).toNat : Nat) = _;rw [q];have hm : (a ||| b) < 9223372036854775808 := by omega
  generalize a ||| b = m at hm;rw [IntKind.wrap_i64];omega
 rw [e];exact ⟨by omega,by exact_mod_cast ho⟩
namespace Sh
theorem num_bd (D : List Int) (hD : ∀ i,0 ≤ D.getD i 0 ∧ D.getD i 0 < 256) (h0 : D.getD 0 0 < 128) : ∀ k,k ≤ 7 → 0 ≤ num D (k + 1) ∧ num D (k + 1) < 2 ^ (8 * k + 7)
 | 0,_ => by
  show 0 ≤ bits .or .i64 (wrap64 (0 * 256)) (D.getD 0 0) ∧ bits .or .i64 (wrap64 (0 * 256)) (D.getD 0 0) < 2 ^ 7;have e7 : (2 : Int) ^ 7 = 128 := by decide
  rw [w64_in _ (by decide)];exact or_bd (by decide) (by decide) (by decide) (hD 0).1 (by rw [e7];exact h0)
 | k + 1,h => by
  obtain ⟨h1,h2⟩ := num_bd D hD h0 k (by omega);have e1 : (2 : Int) ^ (8 * (k + 1) + 7) = 2 ^ (8 * k + 7) * 256 := by rw [show 8 * (k + 1) + 7 = 8 * k + 7 + 8 by omega,Int.pow_add];rfl
  have hle : (2 : Nat) ^ (8 * (k + 1) + 7) ≤ 2 ^ 63 := Nat.pow_le_pow_right (by decide) (by omega)
  have hle' : (2 : Int) ^ (8 * (k + 1) + 7) ≤ 9223372036854775808 := by
   have : ((2 ^ (8 * (k + 1) + 7) : Nat) : Int) ≤ ((2 ^ 63 : Nat) : Int) := by exact_mod_cast hle
   simpa using this
  have hp : (1 : Int) ≤ 2 ^ (8 * k + 7) := Int.pow_pos (n := 2) (m := 8 * k + 7) (by decide);show 0 ≤ bits .or .i64 (wrap64 (num D (k + 1) * 256)) (D.getD (k + 1) 0) ∧ bits .or .i64 (wrap64 (num D (k + 1) * 256)) (D.getD (k + 1) 0) < 2 ^ (8 * (k + 1) + 7);rw [w64_in _ (by omega)];exact or_bd (by omega) (by omega) (by omega) (hD _).1 (by have := (hD (k + 1)).2;omega)
theorem hash_bd (c : Cst) (t bs : List Int) : 0 ≤ hash c t bs ∧ hash c t bs < 1073741789 := by
 have hb : ∀ i,0 ≤ (cut7 (tagged c t bs)).getD i 0 ∧ (cut7 (tagged c t bs)).getD i 0 < 256 := by
  intro i
  by_cases hi : i < (cut7 (tagged c t bs)).length
  ·rw [List.getD_eq_getElem?_getD,List.getElem?_eq_getElem hi]
   exact cut7_bytes (tagged_bytes c t bs) _ (List.getElem_mem hi)
  ·rw [List.getD_eq_getElem?_getD,List.getElem?_eq_none (by omega)]
   exact ⟨by decide,by decide⟩
 have h0 : (cut7 (tagged c t bs)).getD 0 0 < 128 := by
  unfold cut7;have hl : 0 < (tagged c t bs).length := by rw [tagged_length];decide
  rw [List.getD_eq_getElem?_getD,List.getElem?_set_self hl];show bits .and .u8 ((tagged c t bs).getD 0 0) 127 < 128;generalize (tagged c t bs).getD 0 0 = x
  have q : (BitVec.ofInt IntKind.u8.bits x &&& BitVec.ofInt IntKind.u8.bits 127).toNat < 128 := by
   rw [BitVec.toNat_and];exact Nat.lt_of_le_of_lt Nat.and_le_right (by decide)
  show IntKind.u8.wrap ((BitVec.ofInt IntKind.u8.bits x &&& BitVec.ofInt IntKind.u8.bits 127).toNat : Nat) < 128;generalize (BitVec.ofInt IntKind.u8.bits x &&& BitVec.ofInt IntKind.u8.bits 127).toNat = m at q;rw [show IntKind.u8.wrap (m : Int) = (m : Int) % 256 by simp [IntKind.wrap,IntKind.bits,IntKind.signed]];omega
 have h := num_bd _ hb h0 7 (by decide);have hd : c.d = 7 + 1 := c.hd;unfold hash;rw [hd];rw [Int.tmod_eq_emod_of_nonneg h.1];exact ⟨Int.emod_nonneg _ (by decide),Int.emod_lt_of_pos _ (by decide)⟩
end Sh
theorem chv_rng (K : Sh.Cst) (e : We) : 0 ≤ chv K e ∧ chv K e < 1073741789 := Sh.hash_bd _ _ _
theorem pw_of_int {z : Int} {n : Nat} (h0 : 0 ≤ z) (h : Fm.cg z (n : Int)) : Gm.pw z.toNat = Gm.pw n := pw_of_cg (by rw [Int.toNat_of_nonneg h0];exact h)
def s1 (us : List Int) (f : Nat → Int) : List Nat → Int
 | [] => 0
 | i :: l => us.getD i 0 * f i + s1 us f l
theorem s1_app (us : List Int) (f : Nat → Int) (m : List Nat) : ∀ l,s1 us f (l ++ m) = s1 us f l + s1 us f m
 | [] => by show _ = 0 + _;rw [Int.zero_add];rfl
 | i :: l => by show _ + s1 us f (l ++ m) = (_ + _) + _;rw [s1_app us f m l,Int.add_assoc]
theorem wsum_cg' (us : List Int) (f : Nat → Int) : ∀ (l : List Nat) (a : Int),Fm.cg (l.foldl (fun a i => Fm.ad a (Fm.ml (us.getD i 0) (f i))) a) (a + s1 us f l)
 | [],a => by show Fm.cg a (a + 0);rw [Int.add_zero];exact Fm.cg_refl _
 | i :: l,a => by
  show Fm.cg (l.foldl _ (Fm.ad a (Fm.ml (us.getD i 0) (f i)))) (a + (us.getD i 0 * f i + s1 us f l));refine Fm.cg_trans (wsum_cg' us f l _) ?_;rw [← Int.add_assoc];exact Fm.cg_add (Fm.cg_trans (Fm.cg_ad _ _) (Fm.cg_add (Fm.cg_refl _) (Fm.cg_ml _ _))) (Fm.cg_refl _)
theorem wsum_cg (us : List Int) (f : Nat → Int) (l : List Nat) : Fm.cg (wsum us f l) (s1 us f l) := by
 have := wsum_cg' us f l 0
 rwa [Int.zero_add] at this
theorem rws_cg (us : List Int) (f : Nat → Int) (hf : ∀ i,0 ≤ f i) (ch : Int) (L : List Nat) : ∀ k,k ≤ L.length → Fm.cg (rws us f ch L k : Int) (ch * s1 us f (L.take k))
 | 0,_ => by rw [List.take_zero];show Fm.cg 0 (ch * 0);rw [Int.mul_zero];exact Fm.cg_refl _
 | k + 1,hk => by
  have ih := rws_cg us f hf ch L k (by omega);have e : L.getD k 0 = L[k] := by rw [List.getD_eq_getElem?_getD,List.getElem?_eq_getElem (by omega)];rfl
  rw [List.take_add_one,List.getElem?_eq_getElem (by omega),s1_app,Int.mul_add];show Fm.cg ((rws us f ch L k + rwe us f ch (L.getD k 0) : Nat) : Int) _;rw [Int.natCast_add];refine Fm.cg_add ih ?_;unfold rwe;rw [e,Int.natCast_mul,Int.toNat_of_nonneg (hf _),Int.toNat_of_nonneg (Fm.ml_lo _ _)];show Fm.cg _ (ch * (us.getD L[k] 0 * f L[k] + 0));rw [Int.add_zero,show ch * (us.getD L[k] 0 * f L[k]) = f L[k] * (us.getD L[k] 0 * ch) by generalize us.getD L[k] 0 = a;generalize f L[k] = b;rw [Int.mul_left_comm b,← Int.mul_assoc a,Int.mul_comm ch,Int.mul_comm a b,Int.mul_assoc b]];exact Fm.cg_mul (Fm.cg_refl _) (Fm.cg_ml _ _)
theorem shr_rng (ds : List (List Int)) (xs : List Int) (i : Nat) : 0 ≤ shr ds xs i ∧ shr ds xs i < 1073741789 := tm_rng _ _ _
def zi (K : Sh.Cst) (e : We) (us : List Int) (p : Pr) : Int := (nze K e.c0 e.tx e.ps p : Int) + chv K e * s1 us (shr e.ky.ds e.ky.xs) (sel e.ky.P [p.k] e.ky.P.length)
theorem nze_cg (K : Sh.Cst) (c0 : Int) (tx : List Int) (ps : List Pr) (p : Pr) : Fm.cg (nze K c0 tx ps p : Int) ((p.d : Int) + (p.f : Int) * bnd K c0 tx ps p.k) := by
 unfold nze;rw [Int.natCast_add,Int.natCast_mul,Int.toNat_of_nonneg (Int.emod_nonneg _ (by decide))];exact Fm.cg_add (Fm.cg_refl _) (Fm.cg_mul (Fm.cg_refl _) (Fm.cg_mod _))
theorem mkz_cg (K : Sh.Cst) (e : We) (us : List Int) (p : Pr) : Fm.cg (mkz K e us p) (zi K e us p) := by
 refine Fm.cg_trans (Fm.cg_ad _ _) (Fm.cg_add ?_ (Fm.cg_trans (Fm.cg_ml _ _) (Fm.cg_mul (Fm.cg_refl _) (wsum_cg _ _ _))));exact Fm.cg_trans (Fm.cg_ad _ _) (Fm.cg_symm (Fm.cg_trans (nze_cg _ _ _ _ _) (Fm.cg_add (Fm.cg_refl _) (Fm.cg_symm (Fm.cg_ml _ _)))))
theorem mkz_rng (K : Sh.Cst) (e : We) (us : List Int) (p : Pr) : 0 ≤ mkz K e us p ∧ mkz K e us p < 1073741789 := ⟨Fm.ad_lo _ _,Fm.ad_hi _ _⟩
theorem wante_cg (K : Sh.Cst) (e : We) (us : List Int) (p : Pr) : Fm.cg (wante K e us p : Int) (zi K e us p) := by
 unfold wante zi;rw [Int.natCast_add];refine Fm.cg_add (Fm.cg_refl _) ?_;have := rws_cg us (shr e.ky.ds e.ky.xs) (fun i => (shr_rng _ _ _).1) (chv K e) (sel e.ky.P [p.k] e.ky.P.length) _ (Nat.le_refl _)
 rwa [List.take_length] at this
theorem blame_pw (K : Sh.Cst) (e : We) (us : List Int) (p : Pr) : Gm.pw (mkz K e us p).toNat = Gm.pw (wante K e us p) :=
 pw_of_int (mkz_rng K e us p).1 (Fm.cg_trans (mkz_cg K e us p) (Fm.cg_symm (wante_cg K e us p)))
theorem sel_one (P : List Int) (k : Int) (n : Nat) : sel P [k] (n + 1) = sel P [k] n ++ (if P.getD n 0 = k then [n] else []) := by
 unfold sel;rw [List.range_succ,List.filter_append]
 congr 1
 by_cases h : P.getD n 0 = k
 ·rw [if_pos h,List.filter_cons_of_pos (by simpa using h)];rfl
 ·rw [if_neg h,List.filter_cons_of_neg (by simpa using h)];rfl
def ksum (us : List Int) (f : Nat → Int) (P : List Int) (n : Nat) : List Int → Int
 | [] => 0
 | k :: ks => s1 us f (sel P [k] n) + ksum us f P n ks
theorem ksum_zero (us : List Int) (f : Nat → Int) (P : List Int) : ∀ ks,ksum us f P 0 ks = 0
 | [] => rfl
 | k :: ks => by show s1 us f (sel P [k] 0) + _ = 0;rw [ksum_zero us f P ks];rfl
theorem ksum_out (us : List Int) (f : Nat → Int) (P : List Int) (n : Nat) : ∀ ks,¬ P.getD n 0 ∈ ks → ksum us f P (n + 1) ks = ksum us f P n ks
 | [],_ => rfl
 | k :: ks,h => by
  show s1 us f (sel P [k] (n + 1)) + ksum us f P (n + 1) ks = s1 us f (sel P [k] n) + ksum us f P n ks;rw [ksum_out us f P n ks fun h' => h (List.mem_cons_of_mem _ h'),sel_one,if_neg fun e => h (by rw [e];exact List.mem_cons_self),List.append_nil]
theorem ksum_in (us : List Int) (f : Nat → Int) (P : List Int) (n : Nat) : ∀ ks,ks.Pairwise (· < ·) → P.getD n 0 ∈ ks → ksum us f P (n + 1) ks = ksum us f P n ks + us.getD n 0 * f n
 | [],_,h => by cases h
 | k :: ks,hp,h => by
  show s1 us f (sel P [k] (n + 1)) + ksum us f P (n + 1) ks = (s1 us f (sel P [k] n) + ksum us f P n ks) + us.getD n 0 * f n;have hp' := List.pairwise_cons.1 hp
  by_cases e : P.getD n 0 = k
  ·have hn : ¬ P.getD n 0 ∈ ks := fun h' => by have := hp'.1 _ h';omega
   rw [ksum_out us f P n ks hn,sel_one,if_pos e,s1_app];show (s1 us f (sel P [k] n) + (us.getD n 0 * f n + 0)) + _ = _;omega
  ·have h' : P.getD n 0 ∈ ks := by
    rcases List.mem_cons.1 h with h1 | h1
    ·exact absurd h1 e
    ·exact h1
   rw [ksum_in us f P n ks hp'.2 h',sel_one,if_neg e,List.append_nil];omega
theorem ksum_all (us : List Int) (f : Nat → Int) (P ks : List Int) (hp : ks.Pairwise (· < ·)) : ∀ n,(∀ i,i < n → ¬ P.getD i 0 ∈ ks → us.getD i 0 = 0) → ksum us f P n ks = Gs.sm n fun i => f i * us.getD i 0
 | 0,_ => by rw [ksum_zero];exact (Gs.sm_zero fun j hj => absurd hj (by omega)).symm
 | n + 1,h => by
  have ih := ksum_all us f P ks hp n fun i hi => h i (by omega);show _ = Gs.sm n _ + f n * us.getD n 0
  by_cases e : P.getD n 0 ∈ ks
  ·rw [ksum_in us f P n ks hp e,ih,Int.mul_comm (f n)]
  ·rw [ksum_out us f P n ks e,ih,h n (by omega) e,Int.mul_zero,Int.add_zero]
theorem secret_cg (e : Ky) {us L : List Int} (hacc : AccR e.N e.ds e.P L true us) (hl : e.ds.length = e.P.length) (hx : e.xs.length = e.N) (h1 : 1 ≤ e.N) :
  Fm.cg (Gs.sm e.P.length fun i => shr e.ds e.xs i * us.getD i 0) (e.xs.getD 0 0) := by
 obtain ⟨_,_,_,h4⟩ := hacc.law hl;refine Fm.cg_trans (b := Gs.sm e.P.length fun i => Gs.sm e.N fun k => e.xs.getD k 0 * ((e.ds.getD i []).getD k 0 * us.getD i 0)) (Gs.sm_cg fun i hi => ?_) ?_
 ·have h := tm_cg (e.ds.getD i []) e.xs e.xs.length
  rw [hx] at h;unfold shr;rw [hx];refine Fm.cg_trans (Fm.cg_mul h (Fm.cg_refl _)) ?_;rw [Int.mul_comm,← Gs.sm_mul]
  rw [show (Gs.sm e.N fun j => us.getD i 0 * ((e.ds.getD i []).getD j 0 * e.xs.getD j 0)) = Gs.sm e.N fun k => e.xs.getD k 0 * ((e.ds.getD i []).getD k 0 * us.getD i 0) from Gs.sm_eq fun j _ => by
   generalize us.getD i 0 = a;generalize (e.ds.getD i []).getD j 0 = b;generalize e.xs.getD j 0 = c
   rw [Int.mul_comm a,Int.mul_comm b c,Int.mul_assoc]]
  exact Fm.cg_refl _
 ·rw [Gs.sm_swap]
  refine Fm.cg_trans (b := Gs.sm e.N fun k => e.xs.getD k 0 * (tgt e.N).getD k 0) (Gs.sm_cg fun k hk => ?_) ?_
  ·rw [Gs.sm_mul]
   exact Fm.cg_mul (Fm.cg_refl _) (h4 k hk)
  ·rw [Gs.sm_one (a := 0) h1 fun j hj hn => ?_]
   ·show Fm.cg (e.xs.getD 0 0 * 1) _
    rw [Int.mul_one];exact Fm.cg_refl _
   ·obtain ⟨m,rfl⟩ : ∃ m,j = m + 1 := ⟨j - 1,by omega⟩
    show e.xs.getD (m + 1) 0 * ((List.replicate (e.N - 1) (0 : Int)).getD m 0) = 0;rw [show (List.replicate (e.N - 1) (0 : Int)).getD m 0 = 0 by rw [List.getD_eq_getElem?_getD,List.getElem?_replicate];split <;> rfl];exact Int.mul_zero _
theorem acc_pos {N : Nat} {ds : List (List Int)} {P L us : List Int} (h : AccR N ds P L true us) (hl : ds.length = P.length) (hN : 1 ≤ N) : 0 < P.length := by
 rcases Nat.eq_zero_or_pos P.length with e | e
 ·exfalso
  have h4 := (h.law hl).2.2.2 0 hN;rw [e] at h4;change Fm.cg 0 1 at h4;unfold Fm.cg at h4;exact absurd h4 (by decide)
 ·exact e
def zsum (K : Sh.Cst) (e : We) (us : List Int) : Nat → Int
 | 0 => 0
 | j + 1 => zsum K e us j + zi K e us (e.ps.getD j default)
theorem fs_cg (K : Sh.Cst) (e : We) (us : List Int) (zs : List Int) : ∀ n,(∀ j,j < n → zs.getD j 0 = mkz K e us (e.ps.getD j default)) → Fm.cg (fs zs n) (zsum K e us n)
 | 0,_ => Fm.cg_refl _
 | n + 1,h => by
  refine Fm.cg_trans (Fm.cg_ad _ _) (Fm.cg_add (fs_cg K e us zs n fun j hj => h j (by omega)) ?_);rw [h n (by omega)];exact mkz_cg _ _ _ _
def ksn (us : List Int) (f : Nat → Int) (P : List Int) (n : Nat) (ps : List Pr) : Nat → Int
 | 0 => 0
 | j + 1 => ksn us f P n ps j + s1 us f (sel P [(ps.getD j default).k] n)
theorem ksum_snoc (us : List Int) (f : Nat → Int) (P : List Int) (n : Nat) (k : Int) : ∀ ks,ksum us f P n (ks ++ [k]) = ksum us f P n ks + s1 us f (sel P [k] n)
 | [] => by show _ + 0 = 0 + _;omega
 | q :: ks => by show _ + ksum us f P n (ks ++ [k]) = (_ + _) + _;rw [ksum_snoc us f P n k ks,Int.add_assoc]
theorem ksn_eq (us : List Int) (f : Nat → Int) (P : List Int) (n : Nat) (ps : List Pr) : ∀ j,j ≤ ps.length → ksn us f P n ps j = ksum us f P n ((ps.take j).map Pr.k)
 | 0,_ => rfl
 | j + 1,h => by
  show ksn us f P n ps j + _ = _;rw [ksn_eq us f P n ps j (by omega),List.take_add_one,List.getElem?_eq_getElem (by omega),List.map_append];have e : ps.getD j default = ps[j] := by rw [List.getD_eq_getElem?_getD,List.getElem?_eq_getElem (by omega)];rfl
  rw [e];exact (ksum_snoc us f P n ps[j].k _).symm
theorem zsum_eq (K : Sh.Cst) (e : We) (us : List Int) : ∀ n,zsum K e us n = (pte K e.c0 e.tx e.ps n : Int) + chv K e * ksn us (shr e.ky.ds e.ky.xs) e.ky.P e.ky.P.length e.ps n
 | 0 => by show 0 = ((0 : Nat) : Int) + chv K e * 0;rw [Int.mul_zero];rfl
 | n + 1 => by
  show zsum K e us n + ((nze K e.c0 e.tx e.ps (e.ps.getD n default) : Int) + chv K e * s1 us _ _) = ((pte K e.c0 e.tx e.ps n + nze K e.c0 e.tx e.ps (e.ps.getD n default) : Nat) : Int) + chv K e * (ksn us _ _ _ _ n + s1 us _ _);rw [zsum_eq K e us n,Int.natCast_add,Int.mul_add];omega
theorem sig_pw (K : Sh.Cst) (e : We) (us zs : List Int) (hacc : AccR e.ky.N e.ky.ds e.ky.P (e.ps.map Pr.k) true us) (hl : e.ky.ds.length = e.ky.P.length) (hx : e.ky.xs.length = e.ky.N) (h1 : 1 ≤ e.ky.N)
  (hp : (e.ps.map Pr.k).Pairwise (· < ·)) (hx0 : 0 ≤ e.ky.xs.getD 0 0) (hz : ∀ j,j < e.ps.length → zs.getD j 0 = mkz K e us (e.ps.getD j default)) :
  Gm.pw ((fs zs e.ps.length).toNat + (e.ky.xs.getD 0 0).toNat * (-(chv K e) % 1073741789).toNat) = Gm.pw (pte K e.c0 e.tx e.ps e.ps.length) := by
 refine pw_of_cg ?_;rw [Int.natCast_add,Int.natCast_mul,Int.toNat_of_nonneg (fs_rng _ _).1,Int.toNat_of_nonneg hx0,Int.toNat_of_nonneg (Int.emod_nonneg _ (by decide))];have g1 := fs_cg K e us zs e.ps.length hz;rw [zsum_eq,ksn_eq _ _ _ _ _ _ (Nat.le_refl _),List.take_length,ksum_all _ _ _ _ hp _ (hacc.law hl).2.2.1] at g1;have g2 := secret_cg e.ky hacc hl hx h1;have g3 : Fm.cg (fs zs e.ps.length) ((pte K e.c0 e.tx e.ps e.ps.length : Int) + chv K e * e.ky.xs.getD 0 0) := Fm.cg_trans g1 (Fm.cg_add (Fm.cg_refl _) (Fm.cg_mul (Fm.cg_refl _) g2));have g4 : Fm.cg (e.ky.xs.getD 0 0 * (-(chv K e) % 1073741789)) (e.ky.xs.getD 0 0 * -(chv K e)) := Fm.cg_mul (Fm.cg_refl _) (Fm.cg_mod _);refine Fm.cg_trans (Fm.cg_add g3 g4) ?_;rw [Int.mul_neg,Int.mul_comm (e.ky.xs.getD 0 0)];rw [Int.add_assoc,Int.add_right_neg,Int.add_zero];exact Fm.cg_refl _
theorem sig_ch (K : Sh.Cst) (e : We) (us zs : List Int) (hacc : AccR e.ky.N e.ky.ds e.ky.P (e.ps.map Pr.k) true us) (hl : e.ky.ds.length = e.ky.P.length) (hx : e.ky.xs.length = e.ky.N) (h1 : 1 ≤ e.ky.N)
  (hp : (e.ps.map Pr.k).Pairwise (· < ·)) (hx0 : 0 ≤ e.ky.xs.getD 0 0) (hz : ∀ j,j < e.ps.length → zs.getD j 0 = mkz K e us (e.ps.getD j default)) :
  chv K e = chl K (Gm.pw ((fs zs e.ps.length).toNat + (e.ky.xs.getD 0 0).toNat * (-(chv K e) % 1073741789).toNat) : Int) (Gm.pw (e.ky.xs.getD 0 0).toNat : Int) e.tx := by
 rw [sig_pw K e us zs hacc hl hx h1 hp hx0 hz]
 rfl
abbrev Inp.N (e : Inp) : Nat := Ncol e.rs
theorem Inp.n1 {e : Inp} (h : e.fit) : 1 ≤ e.N ∧ e.N ≤ 16 := by
 refine ⟨?_,h.prg.2.2⟩;unfold Inp.N Ncol
 split
 ·exact Nat.le_refl _
 ·exact (h.prg.2.1.row 0 (by omega)).1
theorem Inp.plen {e : Inp} (h : e.fit) : e.rs.length = e.ow.d.length ∧ e.ow.d.length ≤ 16 := ⟨h.prg.2.1.ow,by have := h.prg.2.1.ow;have := h.prg.1;omega⟩
theorem Inp.own {e : Inp} (h : e.fit) : ∀ p ∈ e.ow.d,0 ≤ p ∧ p < 64 := all_of fun j hj => (h.prg.2.1.row j (by have := h.prg.2.1.ow;omega)).2.2.1
theorem Inp.e0 {e : Inp} (h : e.fit) : e.ow.d = [] → e.N = 1 := fun hp => by
 have h1 := h.prg.2.1.ow;rw [hp] at h1;unfold Inp.N Ncol;rw [if_pos (show e.rs.length = 0 from h1)]
theorem Inp.ok.prgok {e : Inp} {W : World} {B : Nat} (h : e.ok W B) (hf : e.fit) : Prg W B e.N e.ow.d e.RA e.rc e.ow.A e.ow.c e.rs := by
 refine ⟨h.rd,hf.prg.2.1.ow,fun r hr => ?_,h.ow.1⟩;obtain ⟨i,hi,rfl⟩ := List.mem_iff_getElem.1 hr;have e1 : e.rs[i] = e.rs.getD i r0 := by rw [List.getD_eq_getElem?_getD,List.getElem?_eq_getElem hi];rfl
 rw [e1];obtain ⟨_,h2,_,h4⟩ := hf.prg.2.1.row i hi;refine ⟨?_,fun x hx => (h4 x hx).1,fun x hx => (h4 x hx).2⟩;rw [h2];unfold Inp.N Ncol;rw [if_neg (by omega)]
def Inp.ky (e : Inp) (CA : Option Addr) (cc : Nat) : Ky := ⟨e.N,e.ow.d,e.RA,e.rc,e.ow.A,e.ow.c,e.rs,e.x0 :: e.R.d,CA,cc⟩
theorem Inp.xrng {e : Inp} (hf : e.fit) : ∀ x ∈ e.x0 :: e.R.d,0 ≤ x ∧ x < 1073741789 := by
 intro x hx
 rcases List.mem_cons.1 hx with rfl | hx
 ·have := hf.x0;omega
 ·exact hf.rr x hx
theorem Inp.ok.kyok {e : Inp} {W : World} {B : Nat} (h : e.ok W B) (hf : e.fit) {CA : Option Addr} {cc : Nat} (hc : Rd W B 1 CA e.N (ivs (cms (e.x0 :: e.R.d) e.N))) : (e.ky CA cc).ok W B :=
 ⟨h.prgok hf,Inp.e0 hf,Inp.own hf,(Inp.n1 hf).1,by show e.N ≤ 60;have := (Inp.n1 hf).2;omega,by show e.ow.d.length ≤ 60;have := (Inp.plen hf).2;omega,by show (e.x0 :: e.R.d).length = e.N;rw [List.length_cons];exact hf.rl,Inp.xrng hf,hc⟩
def prp (K : Sh.Cst) (e : Inp) (t i : Nat) : Pr := ⟨e.L.d.getD i 0,(t : Int),(nz K (e.L.d.getD i 0) (e.sd.d.getD i 0) (t : Int) 0).toNat,(nz K (e.L.d.getD i 0) (e.sd.d.getD i 0) (t : Int) 1).toNat⟩
def prT (K : Sh.Cst) (e : Inp) (t n : Nat) : List Pr := (List.range n).map (prp K e t)
theorem prT_len (K : Sh.Cst) (e : Inp) (t n : Nat) : (prT K e t n).length = n := by simp [prT]
theorem prT_get (K : Sh.Cst) (e : Inp) {t n i : Nat} (h : i < n) : (prT K e t n).getD i default = prp K e t i ∧ (prT K e t n)[i]? = some (prp K e t i) := by
 have h2 : (prT K e t n)[i]? = some (prp K e t i) := by unfold prT;rw [List.getElem?_map,List.getElem?_range h];rfl
 exact ⟨by rw [List.getD_eq_getElem?_getD,h2];rfl,h2⟩
theorem prT_next (K : Sh.Cst) (e : Inp) (t n : Nat) : (prT K e t (n + 1)).flatMap Pr.cells = (prT K e t n).flatMap Pr.cells ++ (prp K e t n).cells := by
 unfold prT;rw [List.range_succ,List.map_append,List.flatMap_append];simp
theorem prT_k (K : Sh.Cst) (e : Inp) (t : Nat) : (prT K e t e.L.d.length).map Pr.k = e.L.d := by
 refine List.ext_getElem? fun i => ?_
 by_cases hi : i < e.L.d.length
 ·rw [List.getElem?_map,(prT_get K e hi).2,List.getElem?_eq_getElem hi]
  show some (e.L.d.getD i 0) = _;rw [List.getD_eq_getElem?_getD,List.getElem?_eq_getElem hi];rfl
 ·rw [List.getElem?_eq_none (by rw [List.length_map,prT_len];omega),List.getElem?_eq_none (by omega)]
theorem L_rng {e : Inp} (hf : e.fit) {i : Nat} (hi : i < e.L.d.length) : 0 ≤ e.L.d.getD i 0 ∧ e.L.d.getD i 0 < 64 := ⟨(hf.ppl.last hi).2.1,(hf.ppl.last hi).2.2.1⟩
theorem prT_ok (K : Sh.Cst) {e : Inp} (hf : e.fit) {t : Nat} (ht : t < 2) : ∀ p ∈ prT K e t e.L.d.length,p.ok := by
 intro p hp;obtain ⟨i,hi,rfl⟩ := List.mem_map.1 hp;have h1 := L_rng hf (List.mem_range.1 hi);exact ⟨h1.1,h1.2,by show (0 : Int) ≤ (t : Int);omega,by show (t : Int) < 4096;omega⟩
theorem prp_rng (K : Sh.Cst) (e : Inp) (t i : Nat) : (prp K e t i).d < 1073741789 ∧ (prp K e t i).f < 1073741789 ∧ ((prp K e t i).d : Int) = nz K (e.L.d.getD i 0) (e.sd.d.getD i 0) (t : Int) 0 ∧ ((prp K e t i).f : Int) = nz K (e.L.d.getD i 0) (e.sd.d.getD i 0) (t : Int) 1 := by
 have h1 := nz_rng K (e.L.d.getD i 0) (e.sd.d.getD i 0) (t : Int) 0;have h2 := nz_rng K (e.L.d.getD i 0) (e.sd.d.getD i 0) (t : Int) 1;unfold prp;dsimp only;omega
def Inp.we (K : Sh.Cst) (e : Inp) (t : Nat) (CA : Option Addr) (cc : Nat) (tx : List Int) (TA : Option Addr) (tc : Nat) (PA : Option Addr) (pc : Nat) : We := ⟨e.ky CA cc,tx,TA,tc,prT K e t e.L.d.length,PA,pc⟩
theorem Inp.ok.weok {K : Sh.Cst} {e : Inp} {W : World} {B t : Nat} (h : e.ok W B) (hf : e.fit) (ht : t < 2) {CA TA PA : Option Addr} {cc tc pc : Nat} {tx : List Int} (hc : Rd W B 1 CA e.N (ivs (cms (e.x0 :: e.R.d) e.N)))
  (htx : Rd W B 1 TA tx.length (tx.map (Value.int .u8))) (htl : tx.length ≤ 2000) (hp : Rd W B 4 PA e.L.d.length ((prT K e t e.L.d.length).flatMap Pr.cells)) (hL : Laid W) : (e.we K t CA cc tx TA tc PA pc).ok W B :=
 ⟨h.kyok hf hc,htx,htl,by show Rd W B 4 PA (prT K e t e.L.d.length).length _;rw [prT_len];exact hp,prT_ok K hf ht,by show ((prT K e t e.L.d.length).map Pr.k).Pairwise (· < ·);rw [prT_k];exact hf.ppl.inc,by show 1 ≤ (prT K e t e.L.d.length).length;rw [prT_len];exact hf.l0,by show (prT K e t e.L.d.length).length ≤ 64;rw [prT_len];have := hf.l6;omega,hL⟩
def lft : Nat → List Int
 | 0 => [0,1]
 | 1 => [1]
 | _ => []
structure Bq where
 k : Int
 sd : Int
 A : Option Addr
 n : Nat
 c : Nat
def b0 : Bq := ⟨0,0,none,0,0⟩
def Bq.cells (b : Bq) : List Value := [.int .i64 b.k,.int .i64 b.sd,.int .i64 2,.slice b.A b.n b.c]
structure Bq.ok (e : Inp) (t j : Nat) (W : World) (b : Bq) : Prop where
 k : b.k = e.L.d.getD j 0
 sd : b.sd = e.sd.d.getD j 0
 n : b.n = (lft t).length
 rd : Rd W W.heap.size 1 b.A b.n (ivs (lft t))
 c : b.n ≤ b.c
 m : b.c ≤ maxLen
def Bq.off (b : Bq) (bl : Nat → Prop) : Prop := 0 < b.n → ∃ g o,b.A = some ⟨g,o,none⟩ ∧ ¬ bl g
theorem Bq.ok.next {e : Inp} {t j : Nat} {W W' : World} {b : Bq} (h : b.ok e t j W) (hb : Below W.heap.size W W') : b.ok e t j W' := ⟨h.k,h.sd,h.n,(h.rd.below hb).more hb.size,h.c,h.m⟩
theorem Bq.ok.tch {e : Inp} {t j : Nat} {W W' : World} {b : Bq} {ex : Nat → Prop} (h : b.ok e t j W) (ho : b.off ex) (ht : Tch ex W W') : b.ok e t j W' := by
 refine ⟨h.k,h.sd,h.n,⟨h.rd.1,fun hn => ?_⟩,h.c,h.m⟩;obtain ⟨g,o,e1,hg,hc⟩ := h.rd.2 hn;obtain ⟨g',o',e2,hx⟩ := ho hn;have e3 := e1.symm.trans e2
 injection e3 with e3
 injection e3 with e3 e4 _
 subst e3 e4;exact ⟨g,o,e1,Nat.lt_of_lt_of_le hg ht.size,fun i u hu => (ht.cell (p := ⟨g,o + i,none⟩) hg hx).trans (hc i u hu)⟩
theorem own_row4 {w : World} {s z n : Nat} {e : TypeId} {A : Option Addr} {c : Nat} {L : List Value} (h : w.ownsRow s e z (.slice A n c) n L) (hn : 0 < n) : ∃ g rest,A = some ⟨g,0,none⟩ ∧ Row w g e (L ++ rest) ∧ s ≤ g := by
 rcases h.2 with ⟨e1,e2⟩ | ⟨g,cap,cur,e1,e2,e3,e4,e5,e6,e7⟩
 ·omega
 ·injection e1 with e1 e8 e9
  subst e9;refine ⟨g,cur.toList.drop (n * z),e1,?_,e2⟩;show w.heap[g]? = _;rw [e3,← e7,List.take_append_drop]
structure LS (K : Sh.Cst) (e : Inp) (z g27 : Nat) (w1 W : World) (kb k0 k1 : Nat) (BL : List Bq) (bv p0 p1 q0 q1 : Value) : Prop where
 tch : Tch (fun i => i = g27) w1 W
 len : BL.length = kb
 ownb : W.ownsRow z 50 4 bv kb (BL.flatMap Bq.cells)
 own0 : W.ownsRow z 56 4 p0 k0 ((prT K e 0 k0).flatMap Pr.cells)
 own1 : W.ownsRow z 56 4 p1 k1 ((prT K e 1 k1).flatMap Pr.cells)
 d01 : ∀ g,p0.ownBlock = some g → p1.ownBlock ≠ some g
 db0 : ∀ g,bv.ownBlock = some g → p0.ownBlock ≠ some g
 db1 : ∀ g,bv.ownBlock = some g → p1.ownBlock ≠ some g
 bk : ∀ j,j < kb → (BL.getD j b0).ok e 0 j W ∧ (BL.getD j b0).off (fun g => bv.ownBlock = some g ∨ p0.ownBlock = some g ∨ p1.ownBlock = some g ∨ g = g27)
 box : Row W g27 48 [q0,q1]
 lt : g27 < z
 zs : w1.heap.size = z
section
variable {K : Sh.Cst} {e : Inp} {z g27 : Nat} {w1 W W' : World} {kb k0 k1 : Nat} {BL : List Bq} {bv p0 p1 q0 q1 : Value}
theorem LS.next (h : LS K e z g27 w1 W kb k0 k1 BL bv p0 p1 q0 q1) (hb : Below W.heap.size W W') : LS K e z g27 w1 W' kb k0 k1 BL bv p0 p1 q0 q1 :=
 ⟨h.tch.next hb,h.len,own_belowU h.ownb hb (fun g hg => (h.ownb.lt g hg).2),own_belowU h.own0 hb (fun g hg => (h.own0.lt g hg).2),own_belowU h.own1 hb (fun g hg => (h.own1.lt g hg).2),h.d01,h.db0,h.db1,
  fun j hj => ⟨(h.bk j hj).1.next hb,(h.bk j hj).2⟩,h.box.below hb h.box.lt,h.lt,h.zs⟩
theorem off_mono {b : Bq} {p q : Nat → Prop} (h : b.off p) (hpq : ∀ g o,b.A = some ⟨g,o,none⟩ → q g → p g) : b.off q := fun hn => by
 obtain ⟨g,o,e1,hx⟩ := h hn;exact ⟨g,o,e1,fun hq => hx (hpq g o e1 hq)⟩
theorem Bq.ok.lt {e : Inp} {t j : Nat} {W : World} {b : Bq} (h : b.ok e t j W) (hn : 0 < b.n) {g o : Nat} (hA : b.A = some ⟨g,o,none⟩) : g < W.heap.size := by
 obtain ⟨g',o',e1,hg,_⟩ := h.rd.2 hn;have e3 := e1.symm.trans hA
 injection e3 with e3
 injection e3 with e3 e4 _
 rw [← e3];exact hg
theorem blk_new {v v' u : Value} {n : Nat} (hr : v'.ownBlock = v.ownBlock ∨ v'.ownBlock = some n) (hd : ∀ g,v.ownBlock = some g → u.ownBlock ≠ some g) (hu : ∀ g,u.ownBlock = some g → g < n) : ∀ g,v'.ownBlock = some g → u.ownBlock ≠ some g := by
 intro g hg hu'
 rcases hr with hr | hr
 ·exact hd g (hr ▸ hg) hu'
 ·rw [hr] at hg;cases hg;exact absurd (hu _ hu') (by omega)
theorem blk_new' {v v' u : Value} {n : Nat} (hr : v'.ownBlock = v.ownBlock ∨ v'.ownBlock = some n) (hd : ∀ g,u.ownBlock = some g → v.ownBlock ≠ some g) (hu : ∀ g,u.ownBlock = some g → g < n) : ∀ g,u.ownBlock = some g → v'.ownBlock ≠ some g := by
 intro g hg hv;exact blk_new hr (fun g h1 h2 => hd g h2 h1) hu g hv hg
theorem own_off {B n k : Nat} {ty : TypeId} {v u : Value} {xs : List Value} {w w' : World} (h : w.ownsRow B ty n u k xs) (hg : w.grownBy w' v.ownBlock) (hd : ∀ g,v.ownBlock = some g → u.ownBlock ≠ some g) : w'.ownsRow B ty n u k xs := by
 refine h.kept hg ?_
 cases ho : u.ownBlock with
 | none => exact .inl rfl
 | some g => exact .inr fun e => hd g e.symm ho
theorem LS.appb (h : LS K e z g27 w1 W kb k0 k1 BL bv p0 p1 q0 q1) {b : Bq} {bv' : Value} (ho : W'.ownsRow z 50 4 bv' (kb + 1) (BL.flatMap Bq.cells ++ b.cells)) (hg : W.grownBy W' bv.ownBlock)
  (hr : bv'.ownBlock = bv.ownBlock ∨ bv'.ownBlock = some W.heap.size) (hb : b.ok e 0 kb W) (hf : b.off (fun g => bv.ownBlock = some g ∨ p0.ownBlock = some g ∨ p1.ownBlock = some g ∨ g = g27)) : LS K e z g27 w1 W' (kb + 1) k0 k1 (BL ++ [b]) bv' p0 p1 q0 q1 := by
 have hz : ∀ g,bv.ownBlock = some g → w1.heap.size ≤ g := fun g hg' => by rw [h.zs];exact (h.ownb.lt g hg').1
 have hT : Tch (fun g => bv.ownBlock = some g) W W' := (Tch.refl _ _).grown hg fun g hg' => .inr hg'
 have key : ∀ (c : Bq) (j : Nat),c.ok e 0 j W → c.off (fun g => bv.ownBlock = some g ∨ p0.ownBlock = some g ∨ p1.ownBlock = some g ∨ g = g27) → c.ok e 0 j W' ∧ c.off (fun g => bv'.ownBlock = some g ∨ p0.ownBlock = some g ∨ p1.ownBlock = some g ∨ g = g27) := fun c j h1 h2 => by
  refine ⟨h1.tch (off_mono h2 fun g o _ hq => .inl hq) hT,fun hn => ?_⟩;obtain ⟨g,o,e1,hx⟩ := h2 hn;refine ⟨g,o,e1,fun hq => hx ?_⟩
  rcases hq with hq | hq
  ·rcases hr with hr | hr
   ·exact .inl (hr ▸ hq)
   ·rw [hr] at hq;cases hq;exact absurd (h1.lt hn e1) (by omega)
  ·exact .inr hq
 refine ⟨h.tch.grown hg fun g hg' => .inl (hz g hg'),by rw [List.length_append,h.len];rfl,?_,own_off h.own0 hg h.db0,own_off h.own1 hg h.db1,h.d01,blk_new hr h.db0 (fun g hg => (h.own0.lt g hg).2),blk_new hr h.db1 (fun g hg => (h.own1.lt g hg).2),fun j hj => ?_,h.box.grown hg (fun e1 => by have := (h.ownb.lt _ e1.symm).1;have := h.lt;omega),h.lt,h.zs⟩
 ·rw [List.flatMap_append];simpa using ho
 ·by_cases ej : j = kb
  ·subst ej
   have e1 : (BL ++ [b]).getD j b0 = b := by rw [List.getD_eq_getElem?_getD,List.getElem?_append_right (by rw [h.len];exact Nat.le_refl _),h.len,Nat.sub_self];rfl
   rw [e1];exact key b j hb hf
  ·have e1 : (BL ++ [b]).getD j b0 = BL.getD j b0 := by rw [List.getD_eq_getElem?_getD,List.getElem?_append_left (by have := h.len;omega),← List.getD_eq_getElem?_getD]
   rw [e1];exact key _ j (h.bk j (by omega)).1 (h.bk j (by omega)).2
theorem LS.app0 (h : LS K e z g27 w1 W kb k0 k1 BL bv p0 p1 q0 q1) {v' : Value} (ho : W'.ownsRow z 56 4 v' (k0 + 1) ((prT K e 0 k0).flatMap Pr.cells ++ (prp K e 0 k0).cells)) (hg : W.grownBy W' p0.ownBlock)
  (hr : v'.ownBlock = p0.ownBlock ∨ v'.ownBlock = some W.heap.size) : LS K e z g27 w1 W' kb (k0 + 1) k1 BL bv v' p1 q0 q1 := by
 have hz : ∀ g,p0.ownBlock = some g → w1.heap.size ≤ g := fun g hg' => by rw [h.zs];exact (h.own0.lt g hg').1
 have hT : Tch (fun g => p0.ownBlock = some g) W W' := (Tch.refl _ _).grown hg fun g hg' => .inr hg';refine ⟨h.tch.grown hg fun g hg' => .inl (hz g hg'),h.len,own_off h.ownb hg (fun g h1 h2 => h.db0 g h2 h1),by rw [prT_next];exact ho,own_off h.own1 hg h.d01,blk_new hr h.d01 (fun g hg => (h.own1.lt g hg).2),blk_new' hr h.db0 (fun g hg => (h.ownb.lt g hg).2),h.db1,fun j hj => ?_,h.box.grown hg (fun e1 => by have := (h.own0.lt _ e1.symm).1;have := h.lt;omega),h.lt,h.zs⟩;obtain ⟨h1,h2⟩ := h.bk j hj;refine ⟨h1.tch (off_mono h2 fun g o _ hq => .inr (.inl hq)) hT,fun hn => ?_⟩;obtain ⟨g,o,e1,hx⟩ := h2 hn;refine ⟨g,o,e1,fun hq => hx ?_⟩
 rcases hq with hq | hq | hq
 ·exact .inl hq
 ·rcases hr with hr | hr
  ·exact .inr (.inl (hr ▸ hq))
  ·rw [hr] at hq;cases hq;exact absurd (h1.lt hn e1) (by omega)
 ·exact .inr (.inr hq)
theorem LS.app1 (h : LS K e z g27 w1 W kb k0 k1 BL bv p0 p1 q0 q1) {v' : Value} (ho : W'.ownsRow z 56 4 v' (k1 + 1) ((prT K e 1 k1).flatMap Pr.cells ++ (prp K e 1 k1).cells)) (hg : W.grownBy W' p1.ownBlock)
  (hr : v'.ownBlock = p1.ownBlock ∨ v'.ownBlock = some W.heap.size) : LS K e z g27 w1 W' kb k0 (k1 + 1) BL bv p0 v' q0 q1 := by
 have hz : ∀ g,p1.ownBlock = some g → w1.heap.size ≤ g := fun g hg' => by rw [h.zs];exact (h.own1.lt g hg').1
 have hT : Tch (fun g => p1.ownBlock = some g) W W' := (Tch.refl _ _).grown hg fun g hg' => .inr hg';refine ⟨h.tch.grown hg fun g hg' => .inl (hz g hg'),h.len,own_off h.ownb hg (fun g h1 h2 => h.db1 g h2 h1),own_off h.own0 hg (fun g h1 h2 => h.d01 g h2 h1),by rw [prT_next];exact ho,blk_new' hr h.d01 (fun g hg => (h.own0.lt g hg).2),h.db0,blk_new' hr h.db1 (fun g hg => (h.ownb.lt g hg).2),fun j hj => ?_,h.box.grown hg (fun e1 => by have := (h.own1.lt _ e1.symm).1;have := h.lt;omega),h.lt,h.zs⟩;obtain ⟨h1,h2⟩ := h.bk j hj;refine ⟨h1.tch (off_mono h2 fun g o _ hq => .inr (.inr (.inl hq))) hT,fun hn => ?_⟩;obtain ⟨g,o,e1,hx⟩ := h2 hn;refine ⟨g,o,e1,fun hq => hx ?_⟩
 rcases hq with hq | hq | hq | hq
 ·exact .inl hq
 ·exact .inr (.inl hq)
 ·rcases hr with hr | hr
  ·exact .inr (.inr (.inl (hr ▸ hq)))
  ·rw [hr] at hq;cases hq;exact absurd (h1.lt hn e1) (by omega)
 ·exact .inr (.inr (.inr hq))
theorem LS.put (h : LS K e z g27 w1 W kb k0 k1 BL bv p0 p1 q0 q1) (i : Nat) (v : Value) {r0 r1 : Value} (hq : [q0,q1].set i v = [r0,r1]) : LS K e z g27 w1 (W.setCell ⟨g27,i,none⟩ v) kb k0 k1 BL bv p0 p1 r0 r1 := by
 have hT : Tch (fun g => g = g27) W (W.setCell ⟨g27,i,none⟩ v) := (Tch.refl (fun g => g = g27) W).set (p := ⟨g27,i,none⟩) (.inr rfl) v;have hlt := h.lt;refine ⟨h.tch.set (.inr rfl) _,h.len,own_setC h.ownb (by show g27 < z;exact hlt) _,own_setC h.own0 (by show g27 < z;exact hlt) _,own_setC h.own1 (by show g27 < z;exact hlt) _,h.d01,h.db0,h.db1,fun j hj => ⟨(h.bk j hj).1.tch (off_mono (h.bk j hj).2 fun g o _ hq => .inr (.inr (.inr hq))) hT,(h.bk j hj).2⟩,?_,h.lt,h.zs⟩;rw [← hq];exact h.box.put i v
end
theorem flat_put (b : Bq) (rest : List Value) : ∀ (BL : List Bq) (i : Nat),i < BL.length → (((((BL.flatMap Bq.cells ++ rest).set (i * 4) (.int .i64 b.k)).set (i * 4 + 1) (.int .i64 b.sd)).set (i * 4 + 2) (.int .i64 2)).set (i * 4 + 3) (.slice b.A b.n b.c)) = (BL.set i b).flatMap Bq.cells ++ rest
 | [],i,h => absurd h (by simp)
 | y :: BL,0,_ => rfl
 | y :: BL,i + 1,h => by
  have ih := flat_put b rest BL i (by simpa using h);rw [show (i + 1) * 4 = i * 4 + 4 by omega];show y.cells ++ (((((BL.flatMap Bq.cells ++ rest).set (i * 4) _).set (i * 4 + 1) _).set (i * 4 + 2) _).set (i * 4 + 3) _) = y.cells ++ ((BL.set i b).flatMap Bq.cells ++ rest);rw [ih]
structure DS (e : Inp) (gB zt : Nat) (rest : List Value) (w1 W : World) (t i m : Nat) (BL : List Bq) (pv : Value) (zs : List Int) : Prop where
 tch : Tch (fun g => g = gB) w1 W
 len : BL.length = e.L.d.length
 row : Row W gB 50 (BL.flatMap Bq.cells ++ rest)
 bk : ∀ j,j < e.L.d.length → (BL.getD j b0).ok e (if j < i then t + 1 else t) j W ∧ (BL.getD j b0).off (fun g => g = gB ∨ pv.ownBlock = some g)
 own : W.ownsRow zt 3 1 pv m (ivs zs)
 lt : gB < w1.heap.size
 zl : w1.heap.size ≤ zt
 zW : zt ≤ W.heap.size
section
variable {e : Inp} {gB zt : Nat} {rest : List Value} {w1 W W' : World} {t i m : Nat} {BL : List Bq} {pv : Value} {zs : List Int}
theorem DS.next (h : DS e gB zt rest w1 W t i m BL pv zs) (hb : Below W.heap.size W W') : DS e gB zt rest w1 W' t i m BL pv zs :=
 ⟨h.tch.next hb,h.len,h.row.below hb h.row.lt,fun j hj => ⟨(h.bk j hj).1.next hb,(h.bk j hj).2⟩,own_belowU h.own hb (fun g hg => (h.own.lt g hg).2),h.lt,h.zl,Nat.le_trans h.zW hb.size⟩
theorem DS.app (h : DS e gB zt rest w1 W t i m BL pv zs) {v' : Value} {z : Int} (ho : W'.ownsRow zt 3 1 v' (m + 1) (ivs zs ++ [.int .i64 z])) (hg : W.grownBy W' pv.ownBlock) (hr : v'.ownBlock = pv.ownBlock ∨ v'.ownBlock = some W.heap.size) :
  DS e gB zt rest w1 W' t i (m + 1) BL v' (zs ++ [z]) := by
 have hz : ∀ g,pv.ownBlock = some g → w1.heap.size ≤ g := fun g hg' => Nat.le_trans h.zl (h.own.lt g hg').1;have hT : Tch (fun g => pv.ownBlock = some g) W W' := (Tch.refl _ _).grown hg fun g hg' => .inr hg';refine ⟨h.tch.grown hg fun g hg' => .inl (hz g hg'),h.len,h.row.grown hg (fun e1 => by have := hz _ e1.symm;have := h.lt;omega),fun j hj => ?_,by unfold ivs;rw [List.map_append];exact ho,h.lt,h.zl,Nat.le_trans h.zW hg.size⟩;obtain ⟨h1,h2⟩ := h.bk j hj;refine ⟨h1.tch (off_mono h2 fun g o _ hq => .inr hq) hT,fun hn => ?_⟩;obtain ⟨g,o,e1,hx⟩ := h2 hn;refine ⟨g,o,e1,fun hq => hx ?_⟩
 rcases hq with hq | hq
 ·exact .inl hq
 ·rcases hr with hr | hr
  ·exact .inr (hr ▸ hq)
  ·rw [hr] at hq;cases hq;exact absurd (h1.lt hn e1) (by omega)
theorem DS.put (h : DS e gB zt rest w1 W t i m BL pv zs) {b : Bq} (hi : i < e.L.d.length) (hb : b.ok e (t + 1) i W) (hf : b.off (fun g => g = gB ∨ pv.ownBlock = some g)) :
  DS e gB zt rest w1 ((((W.setCell ⟨gB,i * 4,none⟩ (.int .i64 b.k)).setCell ⟨gB,i * 4 + 1,none⟩ (.int .i64 b.sd)).setCell ⟨gB,i * 4 + 2,none⟩ (.int .i64 2)).setCell ⟨gB,i * 4 + 3,none⟩ (.slice b.A b.n b.c)) t (i + 1) m (BL.set i b) pv zs := by
 have hlt := h.lt;have hzt := h.zl
 have hT0 : ∀ (a : World),Tch (fun g => g = gB) a W → Tch (fun g => g = gB) a ((((W.setCell ⟨gB,i * 4,none⟩ (.int .i64 b.k)).setCell ⟨gB,i * 4 + 1,none⟩ (.int .i64 b.sd)).setCell ⟨gB,i * 4 + 2,none⟩ (.int .i64 2)).setCell ⟨gB,i * 4 + 3,none⟩ (.slice b.A b.n b.c)) := fun a ha =>
  (((ha.set (.inr rfl) _).set (.inr rfl) _).set (.inr rfl) _).set (.inr rfl) _
 refine ⟨hT0 _ h.tch,by rw [List.length_set];exact h.len,?_,fun j hj => ?_,own_setC (own_setC (own_setC (own_setC h.own (by show gB < zt;omega) _) (by show gB < zt;omega) _) (by show gB < zt;omega) _) (by show gB < zt;omega) _,h.lt,h.zl,by simp only [World.size_setCell];exact h.zW⟩
 ·rw [← flat_put b rest BL i (by have := h.len;omega)]
  exact (((h.row.put _ _).put _ _).put _ _).put _ _
 ·by_cases ej : j = i
  ·subst ej
   have e1 : (BL.set j b).getD j b0 = b := by rw [List.getD_eq_getElem?_getD,List.getElem?_set_self (by have := h.len;omega)];rfl
   rw [e1,if_pos (by omega)];exact ⟨hb.tch (off_mono hf fun g o _ hq => .inl hq) (hT0 _ (Tch.refl _ _)),hf⟩
  ·have e1 : (BL.set i b).getD j b0 = BL.getD j b0 := by rw [List.getD_eq_getElem?_getD,List.getElem?_set_ne (fun e => ej e.symm),← List.getD_eq_getElem?_getD]
   rw [e1];obtain ⟨h1,h2⟩ := h.bk j hj
   have e2 : (if j < i + 1 then t + 1 else t) = if j < i then t + 1 else t := by
    by_cases h3 : j < i
    ·rw [if_pos h3,if_pos (by omega)]
    ·rw [if_neg h3,if_neg (by omega)]
   rw [e2];exact ⟨h1.tch (off_mono h2 fun g o _ hq => .inl hq) (hT0 _ (Tch.refl _ _)),h2⟩
theorem DS.doc (h : DS e gB zt rest w1 W t e.L.d.length m BL pv zs) : DS e gB W.heap.size rest w1 W (t + 1) 0 0 BL (.slice none 0 0) [] := by
 refine ⟨h.tch,h.len,h.row,fun j hj => ?_,⟨rfl,.inl ⟨rfl,rfl⟩⟩,h.lt,h.tch.size,Nat.le_refl _⟩;obtain ⟨h1,h2⟩ := h.bk j hj;rw [if_pos hj] at h1;rw [if_neg (by omega)];exact ⟨h1,off_mono h2 fun g o _ hq => by rcases hq with hq | hq;exact .inl hq;cases hq⟩
theorem DS.up (h : DS e gB zt rest w1 W t 0 0 BL (.slice none 0 0) []) (hb : Below W.heap.size W W') : DS e gB W'.heap.size rest w1 W' t 0 0 BL (.slice none 0 0) [] :=
 have h' := h.next hb
 ⟨h'.tch,h'.len,h'.row,h'.bk,⟨rfl,.inl ⟨rfl,rfl⟩⟩,h'.lt,h'.tch.size,Nat.le_refl _⟩
end
def Inp.doc (e : Inp) (t : Nat) : Doc := if t = 0 then e.d0 else e.d1
theorem Inp.docs_at {e : Inp} (h0 : e.d0.cells.length = 41) (h1 : e.d1.cells.length = 41) {t : Nat} (ht : t < 2) : (e.docs.drop (t * 41)).take 41 = (e.doc t).cells := by
 match t,ht with
 | 0,_ => unfold Inp.docs;rw [Nat.zero_mul,List.drop_zero];exact List.take_left' h0
 | 1,_ => unfold Inp.docs;rw [Nat.one_mul,List.drop_left' h0];exact List.take_of_length_le (by omega)
theorem Inp.doc_len {e : Inp} (h0 : e.d0.cells.length = 41) (h1 : e.d1.cells.length = 41) (t : Nat) : (e.doc t).cells.length = 41 := by
 unfold Inp.doc;split
 ·exact h0
 ·exact h1
theorem Inp.ok.doc {e : Inp} {W : World} {B : Nat} (h : e.ok W B) (t : Nat) : (e.doc t).ok W B := by
 unfold Inp.doc;split
 ·exact h.d0
 ·exact h.d1
theorem Inp.fit.doc {e : Inp} (h : e.fit) (t : Nat) : (e.doc t).right := by
 unfold Inp.doc;split
 ·exact h.r0
 ·exact h.r1
theorem doc_one (d : Doc) : ∀ u ∈ d.cells,u.oneCell' = true := by
 intro u hu;unfold Doc.cells at hu
 rcases List.mem_append.1 hu with h | h
 ·simp only [List.mem_cons,List.not_mem_nil,or_false] at h
  rcases h with rfl | rfl | rfl | rfl | rfl | rfl | rfl | rfl | rfl <;> rfl
 ·obtain ⟨x,_,rfl⟩ := List.mem_map.1 h
  rfl
theorem run_index_doc {e : Inp} (h0 : e.d0.cells.length = 41) (h1 : e.d1.cells.length = 41) {t : Nat} (ht : t < 2) (W : World) :
  (Instr.index 30 (.agg e.docs.toArray) (.int .i64 (t : Int))).run Tryz.prog W = .ok (.agg (e.doc t).cells.toArray) W := by
 obtain ⟨ii,hii,hzz⟩ := Option.map_eq_some_iff.1 (show (Tryz.prog.info? 29).map (fun i => i.size) = some 41 by kernel_rfl);have h3 := Inp.docs_at h0 h1 ht;simp [Instr.index,asIntOf,run_underlying Tryz.underlying30,sizeOf,typeInfo,hii,hzz,part,ht,h3]
structure EV (K : Sh.Cst) (e : Inp) (g5 : Nat) (gp cp : Nat → Nat) (rr : Nat → List Value) (KC : List Value) (hA : Option Addr) (nr : Nat) (CA : Option Addr) (N q : Nat) (W : World) : Prop where
 key : Row W g5 45 KC
 box : Row W (g5 + 1) 48 [.slice (some ⟨gp 0,0,none⟩) q (cp 0),.slice (some ⟨gp 1,0,none⟩) q (cp 1)]
 pr : ∀ t,t < 2 → Row W (gp t) 56 ((prT K e t q).flatMap Pr.cells ++ rr t)
 inp : e.ok W g5
 sh : Rd W g5 2 hA nr (shc (e.rs.map RI.d) (e.x0 :: e.R.d) nr)
 cm : Rd W g5 1 CA N (ivs (cms (e.x0 :: e.R.d) N))
 laid : Laid W
section
variable {K : Sh.Cst} {e : Inp} {g5 : Nat} {gp cp : Nat → Nat} {rr : Nat → List Value} {KC : List Value} {hA : Option Addr} {nr : Nat} {CA : Option Addr} {N q : Nat} {W W' : World}
theorem EV.tch (h : EV K e g5 gp cp rr KC hA nr CA N q W) {gB : Nat} (ht : Tch (fun g => g = gB) W W') (h1 : g5 + 2 ≤ gB) (h2 : ∀ t,t < 2 → gp t ≠ gB) (hg : 2 ≤ g5) : EV K e g5 gp cp rr KC hA nr CA N q W' := by
 have hb : Below g5 W W' := ht.below (by have := h.key.lt;omega) (fun i hi => by omega);exact ⟨ht.row h.key (by omega),ht.row h.box (by omega),fun t h3 => ht.row (h.pr t h3) (h2 t h3),h.inp.below hb,h.sh.below hb,h.cm.below hb,h.laid.below hb hg⟩
theorem EV.next (h : EV K e g5 gp cp rr KC hA nr CA N q W) (hb : Below W.heap.size W W') (hg : 2 ≤ g5) : EV K e g5 gp cp rr KC hA nr CA N q W' := by
 have hlt := h.key.lt;have hb' : Below g5 W W' := hb.mono (by omega);exact ⟨h.key.below hb h.key.lt,h.box.below hb h.box.lt,fun t h3 => (h.pr t h3).below hb (h.pr t h3).lt,h.inp.below hb',h.sh.below hb',h.cm.below hb',h.laid.below hb' hg⟩
theorem prT_flen (K : Sh.Cst) (e : Inp) (t : Nat) : ∀ q,((prT K e t q).flatMap Pr.cells).length = q * 4
 | 0 => rfl
 | q + 1 => by rw [prT_next,List.length_append,prT_flen K e t q];show q * 4 + 4 = (q + 1) * 4;omega
theorem EV.rd (h : EV K e g5 gp cp rr KC hA nr CA N q W) {t : Nat} (ht : t < 2) : Rd W W.heap.size 4 (some ⟨gp t,0,none⟩) q ((prT K e t q).flatMap Pr.cells) := by
 refine ⟨prT_flen K e t q,fun _ => ⟨gp t,0,rfl,(h.pr t ht).lt,fun j u hu => ?_⟩⟩;rw [Nat.zero_add];refine (h.pr t ht).cell ?_;rw [List.getElem?_append_left (List.getElem?_eq_some_iff.1 hu).1];exact hu
theorem LS.ev {w1 w5 : World} {BL : List Bq} {BA A0 A1 : Option Addr} {bc c0 c1 : Nat} (h : LS K e (g5 + 2) (g5 + 1) w1 w5 q q q BL (.slice BA q bc) (.slice A0 q c0) (.slice A1 q c1) (.slice A0 q c0) (.slice A1 q c1)) (hq : 0 < q) (hqn : e.L.d.length = q) (hg : 2 ≤ g5)
  (hk : Row w1 g5 45 KC) (hi : e.ok w1 g5) (hs : Rd w1 g5 2 hA nr (shc (e.rs.map RI.d) (e.x0 :: e.R.d) nr)) (hc : Rd w1 g5 1 CA N (ivs (cms (e.x0 :: e.R.d) N))) (hL : Laid w1) :
  ∃ gB rest gp cp rr,BA = some ⟨gB,0,none⟩ ∧ EV K e g5 gp cp rr KC hA nr CA N q w5 ∧ g5 + 2 ≤ gB ∧ (∀ t,t < 2 → gp t ≠ gB) ∧ DS e gB w5.heap.size rest w5 w5 0 0 0 BL (.slice none 0 0) [] ∧ Below g5 w1 w5 := by
 have hb : Below g5 w1 w5 := h.tch.below (by have := h.zs;omega) (fun i hi => by omega);obtain ⟨gB,rest,rfl,hrB,hgB⟩ := own_row4 h.ownb hq;obtain ⟨g0,r0,rfl,hr0,hg0⟩ := own_row4 h.own0 hq;obtain ⟨g1,r1,rfl,hr1,hg1⟩ := own_row4 h.own1 hq;have n0 : g0 ≠ gB := fun e1 => h.db0 gB rfl (by rw [e1];rfl);have n1 : g1 ≠ gB := fun e1 => h.db1 gB rfl (by rw [e1];rfl);refine ⟨gB,rest,fun t => if t = 0 then g0 else g1,fun t => if t = 0 then c0 else c1,fun t => if t = 0 then r0 else r1,rfl,⟨h.tch.row hk (by omega),h.box,fun t ht => ?_,hi.below hb,hs.below hb,hc.below hb,hL.below hb hg⟩,hgB,fun t ht => ?_,⟨Tch.refl _ _,h.len.trans hqn.symm,hrB,fun j hj => ?_,⟨rfl,.inl ⟨rfl,rfl⟩⟩,hrB.lt,Nat.le_refl _,Nat.le_refl _⟩,hb⟩
 ·match t,ht with
  | 0,_ => exact hr0
  | 1,_ => exact hr1
 ·match t,ht with
  | 0,_ => exact n0
  | 1,_ => exact n1
 ·rw [if_neg (by omega)]
  obtain ⟨h1,h2⟩ := h.bk j (by omega);refine ⟨h1,off_mono h2 fun g o _ hq => ?_⟩
  rcases hq with hq | hq
  ·exact .inl (by rw [hq];rfl)
  ·cases hq
end
end Go.Proofs.YtifejdpffkeniaaGreatDoor
