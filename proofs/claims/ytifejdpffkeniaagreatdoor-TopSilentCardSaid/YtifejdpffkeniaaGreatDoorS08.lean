import Derived.Test.YtifejdpffkeniaaGreatDoorS07
import Derived.Test.YtifejdpffkeniaaGreatDoorS06
set_option linter.unusedVariables false
set_option maxRecDepth 100000
set_option maxHeartbeats 40000000
namespace Go.Proofs.YtifejdpffkeniaaGreatDoor
namespace Gs
open Fm
inductive Rr (n L : Nat) (M0 : Nat → Nat → Int) : Nat → List Nat → (Nat → Nat → Int) → Prop
 | start : Rr n L M0 0 [] M0
 | skip {c ps M} : Rr n L M0 c ps M → (∀ i,ps.length ≤ i → i < n → M i c = 0) → Rr n L M0 (c + 1) ps M
 | step {c ps M} (k : Nat) : Rr n L M0 c ps M → ps.length ≤ k → k < n → M k c ≠ 0 → (∀ i,ps.length ≤ i → i < k → M i c = 0) →
   Rr n L M0 (c + 1) (ps ++ [c]) (clrs (sclTo (swpM M ps.length k) ps.length c (inv (M k c)) L) ps.length c L n)
theorem Rr.det {n L : Nat} {M0 : Nat → Nat → Int} {c : Nat} {ps : List Nat} {M : Nat → Nat → Int} (h : Rr n L M0 c ps M) : ∀ {ps' M'},Rr n L M0 c ps' M' → ps = ps' ∧ M = M' := by
 induction h with
 | start =>
  intro ps' M' h'
  cases h'
  exact ⟨rfl,rfl⟩
 | skip h1 hz ih =>
  intro ps' M' h'
  cases h' with
  | skip h2 _ => exact ih h2
  | step k h2 a b d e =>
   obtain ⟨rfl,rfl⟩ := ih h2;exact absurd (hz k a b) d
 | step k h1 a b d e ih =>
  intro ps' M' h'
  cases h' with
  | skip h2 hz =>
   obtain ⟨rfl,rfl⟩ := ih h2;exact absurd (hz k a b) d
  | step k' h2 a' b' d' e' =>
   obtain ⟨rfl,rfl⟩ := ih h2
   have : k = k' := by
    rcases Nat.lt_trichotomy k k' with h | h | h
    ·exact absurd (e' k a h) d
    ·exact h
    ·exact absurd (e k' a' h) d'
   subst this;exact ⟨rfl,rfl⟩
structure Rex (n L : Nat) (M0 M : Nat → Nat → Int) (c : Nat) (ps : List Nat) : Prop where
 red : Red n L M0 M c ps
 rr : Rr n L M0 c ps M
section
variable {n L c k : Nat} {M0 M : Nat → Nat → Int} {ps : List Nat}
theorem Rex.start (h : ∀ i j,i < n → j < L → 0 ≤ M0 i j ∧ M0 i j < 1073741789) : Rex n L M0 M0 0 [] := ⟨Red.start h,.start⟩
theorem Rex.skip (h : Rex n L M0 M c ps) (hz : ∀ i,ps.length ≤ i → i < n → M i c = 0) : Rex n L M0 M (c + 1) ps := ⟨h.red.skip hz,.skip h.rr hz⟩
theorem Rex.step (h : Rex n L M0 M c ps) (hc : c < L) (hk1 : ps.length ≤ k) (hk : k < n) (ha : M k c ≠ 0) (hm : ∀ i,ps.length ≤ i → i < k → M i c = 0) :
  Rex n L M0 (clrs (sclTo (swpM M ps.length k) ps.length c (inv (M k c)) L) ps.length c L n) (c + 1) (ps ++ [c]) := ⟨h.red.step hc hk1 hk ha,.step k h.rr hk1 hk ha hm⟩
theorem Rex.len (h : Rex n L M0 M c ps) : ps.length ≤ n := h.red.len
theorem Rex.rng (h : Rex n L M0 M c ps) : ∀ i j,i < n → j < L → 0 ≤ M i j ∧ M i j < 1073741789 := h.red.rng
theorem Rex.lt (h : Rex n L M0 M c ps) : ∀ k,k < ps.length → ps.getD k 0 < c := h.red.lt
end
def turnD (ds : List (List Int)) (tg : List Int) (k j : Nat) : Int := if j < ds.length then (ds.getD j []).getD k 0 else tg.getD k 0
def ysTo (n : Nat) (ps : List Nat) (M : Nat → Nat → Int) : Nat → List Int
 | 0 => List.replicate n 0
 | k + 1 => (ysTo n ps M k).set (ps.getD k 0) (M k n)
theorem ysTo_len (n : Nat) (ps : List Nat) (M : Nat → Nat → Int) : ∀ k,(ysTo n ps M k).length = n
 | 0 => by simp [ysTo]
 | k + 1 => by simp [ysTo,ysTo_len n ps M k]
def Sol (C : Nat) (ds : List (List Int)) (tg : List Int) (b : Bool) (ys : List Int) : Prop :=
 ∃ ps M,Rex C (ds.length + 1) (turnD ds tg) M ds.length ps ∧ (b = true ↔ ∀ i,ps.length ≤ i → i < C → M i ds.length = 0) ∧ ys = ysTo ds.length ps M ps.length
theorem Sol.det {C : Nat} {ds : List (List Int)} {tg : List Int} {b b' : Bool} {ys ys' : List Int} (h : Sol C ds tg b ys) (h' : Sol C ds tg b' ys') : b = b' ∧ ys = ys' := by
 obtain ⟨ps,M,h1,e1,rfl⟩ := h;obtain ⟨ps',M',h2,e2,rfl⟩ := h';obtain ⟨rfl,rfl⟩ := h1.rr.det h2.rr;exact ⟨Bool.eq_iff_iff.2 (e1.trans e2.symm),rfl⟩
theorem getD_set_eq {l : List Int} {i : Nat} {v : Int} (h : i < l.length) : (l.set i v).getD i 0 = v := by
 rw [List.getD_eq_getElem?_getD,List.getElem?_set_self h];rfl
theorem getD_set_ne {l : List Int} {i j : Nat} {v : Int} (h : i ≠ j) : (l.set i v).getD j 0 = l.getD j 0 := by
 rw [List.getD_eq_getElem?_getD,List.getElem?_set_ne h,← List.getD_eq_getElem?_getD]
theorem ysTo_get {n L : Nat} {M0 M : Nat → Nat → Int} {C : Nat} {ps : List Nat} (h : Red C L M0 M n ps) : ∀ m,m ≤ ps.length → (∀ k,k < m → (ysTo n ps M m).getD (ps.getD k 0) 0 = M k n) ∧ (∀ j,(∀ k,k < m → ps.getD k 0 ≠ j) → (ysTo n ps M m).getD j 0 = 0) := by
 intro m
 induction m with
 | zero =>
  intro _;refine ⟨fun k hk => absurd hk (by omega),fun j _ => ?_⟩;simp only [ysTo];rw [List.getD_eq_getElem?_getD,List.getElem?_replicate]
  split <;> rfl
 | succ m ih =>
  intro hm;obtain ⟨i1,i2⟩ := ih (by omega);refine ⟨fun k hk => ?_,fun j hj => ?_⟩
  ·by_cases e : k = m
   ·subst e
    exact getD_set_eq (by rw [ysTo_len];exact h.lt k (by omega))
   ·have := h.inc k m (by omega) (by omega)
    show ((ysTo n ps M m).set _ _).getD _ 0 = _;rw [getD_set_ne (by omega)];exact i1 k (by omega)
  ·show ((ysTo n ps M m).set _ _).getD _ 0 = _
   rw [getD_set_ne (hj m (by omega))];exact i2 j fun k hk => hj k (by omega)
theorem ysTo_rng {n L : Nat} {M0 M : Nat → Nat → Int} {C : Nat} {ps : List Nat} (h : Red C L M0 M n ps) (hL : n < L) : ∀ m,m ≤ ps.length → ∀ y ∈ ysTo n ps M m,0 ≤ y ∧ y < 1073741789 := by
 intro m
 induction m with
 | zero => intro _ y hy;have := List.eq_of_mem_replicate hy;omega
 | succ m ih =>
  intro hm y hy
  rcases List.mem_or_eq_of_mem_set hy with h1 | h1
  ·exact ih (by omega) y h1
  ·subst h1;exact h.rng m n (by have := h.len;omega) hL
theorem Sol.law {C : Nat} {ds : List (List Int)} {tg : List Int} {ys : List Int} (h : Sol C ds tg true ys) : ys.length = ds.length ∧ (∀ y ∈ ys,0 ≤ y ∧ y < 1073741789) ∧ ∀ k,k < C → cg (sm ds.length fun j => (ds.getD j []).getD k 0 * ys.getD j 0) (tg.getD k 0) := by
 obtain ⟨ps,M,h1,hb,rfl⟩ := h;have hz : ∀ i,ps.length ≤ i → i < C → M i ds.length = 0 := hb.1 rfl;obtain ⟨n,hn⟩ : ∃ n,ds.length = n := ⟨_,rfl⟩;rw [hn] at h1 hz ⊢;have hR := h1.red;refine ⟨ysTo_len _ _ _ _,ysTo_rng hR (by omega) _ (Nat.le_refl _),?_⟩;obtain ⟨g1,g2⟩ := ysTo_get hR ps.length (Nat.le_refl _);obtain ⟨ys,hys⟩ : ∃ ys,ysTo n ps M ps.length = ys := ⟨_,rfl⟩;rw [hys] at g1 g2 ⊢
 let z : Nat → Int := fun j => if j < n then ys.getD j 0 else -1
 have hzn : z n = -1 := by simp [z]
 have hzl : ∀ j,j < n → z j = ys.getD j 0 := fun j hj => by simp [z,hj]
 have hker : ker C (n + 1) M z := by
  intro i hi;have e : dot (n + 1) (M i) z = sm n (fun j => M i j * z j) + M i n * z n := rfl;rw [e,hzn]
  by_cases hp : i < ps.length
  ·have : sm n (fun j => M i j * z j) = M i (ps.getD i 0) * z (ps.getD i 0) := by
    refine sm_one (hR.lt i hp) fun j hj hne => ?_;rw [hzl j hj]
    by_cases hjp : ∃ k,k < ps.length ∧ ps.getD k 0 = j
    ·obtain ⟨k,hk,rfl⟩ := hjp
     rw [hR.oth k i hk hi (fun e => hne (by rw [e])),Int.zero_mul]
    ·rw [g2 j (fun k hk e => hjp ⟨k,hk,e⟩),Int.mul_zero]
   rw [this,hR.one i hp,hzl _ (hR.lt i hp),g1 i hp];show cg (1 * M i n + M i n * -1) 0;rw [show 1 * M i n + M i n * -1 = 0 by omega]
   rfl
  ·have : sm n (fun j => M i j * z j) = 0 := sm_zero fun j hj => by rw [hR.zer i j (by omega) hi hj,Int.zero_mul]
   rw [this,hz i (by omega) hi];show cg (0 + 0 * -1) 0
   rfl
 have h0 := (hR.krn z).1 hker;intro k hk;have h2 := h0 k hk;have e : dot (n + 1) (turnD ds tg k) z = sm n (fun j => turnD ds tg k j * z j) + turnD ds tg k n * z n := rfl;rw [e,hzn] at h2
 have e2 : sm n (fun j => turnD ds tg k j * z j) = sm n fun j => (ds.getD j []).getD k 0 * ys.getD j 0 := sm_eq fun j hj => by
  unfold turnD;rw [hn,if_pos hj,hzl j hj]
 have e3 : turnD ds tg k n = tg.getD k 0 := by unfold turnD;rw [hn,if_neg (Nat.lt_irrefl _)]
 rw [e2,e3] at h2;obtain ⟨S,hS⟩ : ∃ S,(sm n fun j => (ds.getD j []).getD k 0 * ys.getD j 0) = S := ⟨_,rfl⟩;rw [hS] at h2 ⊢;unfold cg at h2 ⊢;omega
end Gs
end Go.Proofs.YtifejdpffkeniaaGreatDoor
namespace Go.Proofs.YtifejdpffkeniaaGreatDoor
open Go.RowKit
attribute [local go_sem] Oper.semAt_some
section
variable {F : Fence} {nF : Nat} {P : Program}
theorem wpInU_append_rd {w : World} {o : Oper} {a : Act} {K : Act → World → Prop} {Q : Exit → Act → World → Prop} (s x : Operand) (t : TypeId)
  (ho : o.op = .call { callee := .builtin .append,args := #[s,x],argTypes := #[t,t] })
  (base : Nat) (e : TypeId) (i : TypeInfo) (z : Value) (size bytes : Nat) (ht : P.underlying t = some (.slice e)) (hi : P.info? e = some i) (hz : i.zero = some z)
  (hsize : i.size = size) (hby : i.bytes = bytes) (hzs : z.cells.size = size) (hsz : 0 < size)
  (v : Value) (n : Nat) (xs : List Value) (hs : a.eval s = v) (hown : w.ownsRow base e size v n xs)
  (B : Nat) (A : Option Addr) (m c : Nat) (news : List Value) (hx : a.eval x = .slice A m c) (hr : Rd w B size A m news) (h1 : ∀ u ∈ news,u.oneCell' = true)
  (h63 : n + m ≤ maxLen) (hbytes : (n + m) * bytes ≤ 140737488355328) (hbase : base ≤ w.heap.size)
  (h : ∀ v' w',w'.ownsRow base e size v' (n + m) (xs ++ news) → w.grownBy w' v.ownBlock → (v'.ownBlock = v.ownBlock ∨ v'.ownBlock = some w.heap.size) → K (a.put o.dst v') w') : o.wpIn F nF P a w K Q := by
 obtain ⟨v',w',hrun,h2,h3,h4⟩ := run_append_rd (P := P) w base t o.type e i z size bytes ht hi hz hsize hby hzs hsz v n xs hown B A m c news hr h1 h63 hbytes hbase;unfold Oper.wpIn;refine ⟨by simp [Oper.about,ho,resolve,Target.leads],?_⟩;rw [Oper.semAt_plain F _ _ (by rw [ho];intro c hc';cases hc')];simp [execOp,ho,resolve,invoke,builtin,hs,hx,hrun,Result.andThen];exact h v' w' h2 h3 h4
theorem wpListInU_append_rd {w : World} {ops : Array Oper} {rest : List Oper} {o : Oper} {a : Act} {Q : Exit → Act → World → Prop} (hgd : o.guard = none) (s x : Operand) (t : TypeId)
  (ho : o.op = .call { callee := .builtin .append,args := #[s,x],argTypes := #[t,t] })
  (base : Nat) (e : TypeId) (i : TypeInfo) (z : Value) (size bytes : Nat) (ht : P.underlying t = some (.slice e)) (hi : P.info? e = some i) (hz : i.zero = some z)
  (hsize : i.size = size) (hby : i.bytes = bytes) (hzs : z.cells.size = size) (hsz : 0 < size)
  (v : Value) (n : Nat) (xs : List Value) (hs : a.eval s = v) (hown : w.ownsRow base e size v n xs)
  (B : Nat) (A : Option Addr) (m c : Nat) (news : List Value) (hx : a.eval x = .slice A m c) (hr : Rd w B size A m news) (h1 : ∀ u ∈ news,u.oneCell' = true)
  (h63 : n + m ≤ maxLen) (hbytes : (n + m) * bytes ≤ 140737488355328) (hbase : base ≤ w.heap.size)
  (h : ∀ v' w',w'.ownsRow base e size v' (n + m) (xs ++ news) → w.grownBy w' v.ownBlock → (v'.ownBlock = v.ownBlock ∨ v'.ownBlock = some w.heap.size) → wpListIn F nF P ops Q rest (a.put o.dst v') w') : wpListIn F nF P ops Q (o :: rest) a w :=
 wpListIn_plain hgd fun _ hK => wpInU_append_rd s x t ho base e i z size bytes ht hi hz hsize hby hzs hsz v n xs hs hown B A m c news hx hr h1 h63 hbytes hbase fun v' w' h2 h3 h4 => hK _ _ (h v' w' h2 h3 h4)
end
def gsS (gs : List (Nat × Nat)) (r k : Nat) : List (Nat × Nat) := (gs.set r (gk gs k)).set k (gk gs r)
theorem gsS_len (gs : List (Nat × Nat)) (r k : Nat) : (gsS gs r k).length = gs.length := by unfold gsS;simp
theorem gsS_at {gs : List (Nat × Nat)} {r k i : Nat} (hi : i < gs.length) : gk (gsS gs r k) i = if i = k then gk gs r else if i = r then gk gs k else gk gs i := by
 unfold gsS
 have h : ∀ (l : List (Nat × Nat)) (j : Nat) (x : Nat × Nat),i < l.length → gk (l.set j x) i = if j = i then x else gk l i := fun l j x hl => by
  unfold gk;rw [List.getD_eq_getElem?_getD,List.getElem?_set]
  by_cases e : j = i
  ·subst e;simp [hl]
  ·simp [e,List.getD_eq_getElem?_getD]
 rw [h _ _ _ (by simpa using hi),h _ _ _ hi]
 by_cases e1 : i = k
 ·subst e1;simp
 ·rw [if_neg (fun e => e1 e.symm),if_neg e1]
  by_cases e2 : i = r
  ·subst e2;simp
  ·rw [if_neg (fun e => e2 e.symm),if_neg e2]
theorem Tab.swap {w : World} {B tb L r k : Nat} {gs : List (Nat × Nat)} {M : Nat → Nat → Int} (h : Tab w B tb gs L M) (hr : r < gs.length) (hk : k < gs.length) :
  Tab ((w.setCell ⟨tb,r,none⟩ (.slice (some ⟨(gk gs k).1,0,none⟩) L (gk gs k).2)).setCell ⟨tb,k,none⟩ (.slice (some ⟨(gk gs r).1,0,none⟩) L (gk gs r).2)) B tb (gsS gs r k) L (Gs.swpM M r k) := by
 have hrow : ∀ i,i < gs.length → ∃ i',i' < gs.length ∧ gk (gsS gs r k) i = gk gs i' ∧ Gs.swpM M r k i = M i' ∧ (i = r → i' = k) ∧ (i = k → i' = r) ∧ (i ≠ r → i ≠ k → i' = i) := fun i hi => by
  rw [gsS_at hi];unfold Gs.swpM
  by_cases e1 : i = k
  ·subst e1
   by_cases e2 : i = r
   ·subst e2;exact ⟨i,hi,by simp,by simp,fun _ => rfl,fun _ => rfl,fun h => absurd rfl h⟩
   ·exact ⟨r,hr,by simp,by simp [e2],fun h => absurd h e2,fun _ => rfl,fun _ h => absurd rfl h⟩
  ·by_cases e2 : i = r
   ·subst e2;exact ⟨k,hk,by simp [e1],by simp,fun _ => rfl,fun h => absurd h e1,fun h => absurd rfl h⟩
   ·exact ⟨i,hi,by simp [e1,e2],by simp [e1,e2],fun h => absurd h e2,fun h => absurd h e1,fun _ _ => rfl⟩
 refine ⟨?_,fun i hi => ?_,fun i j hi hj e => ?_,fun i hi => ?_,h.lo⟩
 ·have := (h.top.put r (.slice (some ⟨(gk gs k).1,0,none⟩) L (gk gs k).2)).put k (.slice (some ⟨(gk gs r).1,0,none⟩) L (gk gs r).2)
  unfold gsS;rw [List.map_set,List.map_set];exact this
 ·rw [gsS_len] at hi
  obtain ⟨i',h1,h2,h3,_⟩ := hrow i hi;have e : rowV (Gs.swpM M r k) L i = rowV M L i' := by unfold rowV;rw [h3]
  rw [h2,e];have hne := h.ne i' h1
  have kp : ∀ V : World,V.ownsRow B 3 1 (.slice (some ⟨(gk gs i').1,0,none⟩) L (gk gs i').2) L (rowV M L i') → ∀ q u,(V.setCell ⟨tb,q,none⟩ u).ownsRow B 3 1 (.slice (some ⟨(gk gs i').1,0,none⟩) L (gk gs i').2) L (rowV M L i') := fun V hV q u =>
   hV.kept (grown_set (World.grownBy.refl V (some tb)) q u) (.inr (by intro e;exact hne (by simpa [Value.ownBlock] using e)))
  exact kp _ (kp _ (h.row i' h1) _ _) _ _
 ·rw [gsS_len] at hi hj
  obtain ⟨i',h1,h2,_,h4,h5,h6⟩ := hrow i hi;obtain ⟨j',g1,g2,_,g4,g5,g6⟩ := hrow j hj;rw [h2,g2] at e;have := h.inj i' j' h1 g1 e
  by_cases a1 : i = r <;> by_cases a2 : i = k <;> by_cases b1 : j = r <;> by_cases b2 : j = k <;> simp_all <;> omega
 ·rw [gsS_len] at hi
  obtain ⟨i',h1,h2,_⟩ := hrow i hi;rw [h2];exact h.ne i' h1
theorem sclTo_start (M : Nat → Nat → Int) (r c : Nat) (nv : Int) : Gs.sclTo M r c nv c = M := by
 funext i j
 unfold Gs.sclTo;rw [if_neg (by omega)]
theorem sclTo_next (M : Nat → Nat → Int) {r c k : Nat} {nv : Int} (hk : c ≤ k) : setM (Gs.sclTo M r c nv k) r k (Fm.ml (M r k) nv) = Gs.sclTo M r c nv (k + 1) := by
 funext i j
 unfold setM Gs.sclTo
 by_cases h : i = r ∧ j = k
 ·obtain ⟨rfl,rfl⟩ := h
  rw [if_pos ⟨rfl,rfl⟩,if_pos ⟨rfl,hk,by omega⟩]
 ·rw [if_neg h]
  by_cases h2 : i = r ∧ c ≤ j ∧ j < k
  ·rw [if_pos h2,if_pos ⟨h2.1,h2.2.1,by omega⟩]
  ·rw [if_neg h2,if_neg (by rintro ⟨h3,h4,h5⟩;exact h2 ⟨h3,h4,by
    rcases Nat.lt_or_ge j k with h6 | h6
    ·exact h6
    ·exact absurd ⟨h3,by omega⟩ h⟩)]
theorem clrs_start (M : Nat → Nat → Int) (r c L : Nat) : Gs.clrs M r c L 0 = M := by
 funext i j
 unfold Gs.clrs;rw [if_neg (by omega)]
theorem clrs_same (M : Nat → Nat → Int) (r c L : Nat) : Gs.clrs M r c L (r + 1) = Gs.clrs M r c L r := by
 funext i j
 unfold Gs.clrs
 by_cases h : i < r ∧ i ≠ r ∧ c ≤ j ∧ j < L
 ·rw [if_pos h,if_pos ⟨by omega,h.2⟩]
 ·rw [if_neg h,if_neg (fun h' => h ⟨by omega,h'.2⟩)]
theorem clrs_next (M : Nat → Nat → Int) {r c L i0 : Nat} (h : i0 ≠ r) : clrTo (Gs.clrs M r c L i0) i0 r c L = Gs.clrs M r c L (i0 + 1) := by
 funext i j
 have e1 : Gs.clrs M r c L i0 i0 = M i0 := by funext j;unfold Gs.clrs;rw [if_neg (by omega)]
 have e2 : Gs.clrs M r c L i0 r = M r := by funext j;unfold Gs.clrs;rw [if_neg (by omega)]
 unfold clrTo;rw [e1,e2]
 by_cases h1 : i = i0 ∧ c ≤ j ∧ j < L
 ·obtain ⟨rfl,h2,h3⟩ := h1
  rw [if_pos ⟨rfl,h2,h3⟩];unfold Gs.clrs;rw [if_pos ⟨by omega,h,h2,h3⟩]
 ·rw [if_neg h1]
  unfold Gs.clrs
  by_cases h2 : i < i0 ∧ i ≠ r ∧ c ≤ j ∧ j < L
  ·rw [if_pos h2,if_pos ⟨by omega,h2.2⟩]
  ·rw [if_neg h2,if_neg (fun h' => by
    rcases Nat.lt_or_ge i i0 with h3 | h3
    ·exact h2 ⟨h3,h'.2⟩
    ·exact h1 ⟨by omega,h'.2.2⟩)]
abbrev pvs (ps : List Nat) : List Value := ps.map fun p : Nat => Value.int .i64 (p : Int)
structure RM (s B tb tc n L : Nat) (w : World) (ps : List Nat) (pv : Value) (gs : List (Nat × Nat)) (M : Nat → Nat → Int) (W : World) : Prop where
 gl : gs.length = n
 glt : ∀ i,i < n → (gk gs i).1 < s
 tab : Tab W B tb gs L M
 box : Row W s 162 [.slice (some ⟨tb,0,none⟩) n tc]
 own : W.ownsRow (s + 1) 3 1 pv ps.length (pvs ps)
 bel : Below B w W
theorem RM.next {s B tb tc n L : Nat} {w : World} {ps : List Nat} {pv : Value} {gs : List (Nat × Nat)} {M : Nat → Nat → Int} {W W' : World} (h : RM s B tb tc n L w ps pv gs M W) (hB : B ≤ w.heap.size) (hb : Below W.heap.size W W') : RM s B tb tc n L w ps pv gs M W' :=
 ⟨h.gl,h.glt,h.tab.next hb,h.box.below hb h.box.lt,h.own.kept (grown_of_below hb) (by cases hv : pv.ownBlock with | none => exact .inl rfl | some g => exact .inr (by simp)),h.bel.trans (hb.mono (Nat.le_trans hB h.bel.size))⟩
theorem RM.turn {s B tb tc n L : Nat} {w : World} {ps : List Nat} {pv : Value} {gs gs' : List (Nat × Nat)} {M M' : Nat → Nat → Int} {W W' : World} (h : RM s B tb tc n L w ps pv gs M W) (hc : Tch (fun k => k < s) W W') (hT : Tab W' B tb gs' L M') (hl : gs'.length = n) (hg : ∀ i,i < n → (gk gs' i).1 < s) (hb : Below B w W') : RM s B tb tc n L w ps pv gs' M' W' :=
 ⟨hl,hg,hT,hc.row h.box (by omega),by
  refine ⟨h.own.1,?_⟩
  rcases h.own.2 with h2 | ⟨g,cap,cur,e1,e2,e3,e4⟩
  ·exact .inl h2
  ·exact .inr ⟨g,cap,cur,e1,e2,(hc.block g (heap_lt e3) (by omega)).trans e3,e4⟩,hb⟩
theorem RM.cells {s B tb tc n L : Nat} {w : World} {ps : List Nat} {pv : Value} {gs : List (Nat × Nat)} {M : Nat → Nat → Int} {W W' : World} (h : RM s B tb tc n L w ps pv gs M W) (hB : B ≤ s) (hb : Below (s + 1) W W') (hc : ∀ (k : Nat) (o : Obj),W.heap[k]? = some o → o.isCells = true → W'.heap[k]? = some o) : RM s B tb tc n L w ps pv gs M W' := by
 have own : ∀ {b : Nat} {e : TypeId} {sz : Nat} {v : Value} {m : Nat} {xs : List Value},W.ownsRow b e sz v m xs → W'.ownsRow b e sz v m xs := fun {b e sz v m xs} ho => by
  refine ⟨ho.1,?_⟩
  rcases ho.2 with h2 | ⟨g,cap,cur,e1,e2,e3,e4⟩
  ·exact .inl h2
  ·exact .inr ⟨g,cap,cur,e1,e2,hc g _ e3 rfl,e4⟩
 exact ⟨h.gl,h.glt,⟨hc _ _ h.tab.top rfl,fun i hi => own (h.tab.row i hi),h.tab.inj,h.tab.ne,h.tab.lo⟩,hc _ _ h.box rfl,own h.own,h.bel.trans (hb.mono (by omega))⟩
theorem leaves_marksU {F : Fence} {n : Nat} {P : Program} {fn : Func} {tmps : Array Value} {R : Ending → World → Prop} {B C : Nat} : ∀ (ds : List Deferred) (w : World),Marks B C ds w →
  (∀ w',Below B w w' → (∀ (k : Nat) (o : Obj),w.heap[k]? = some o → o.isCells = true → w'.heap[k]? = some o) → LeavesIn F n P fn tmps R [] .returning w') → LeavesInM F n P fn tmps R ds .returning w
 | [],w,_,h => h w (Below.refl _ _) (fun _ _ h _ => h)
 | d :: ds,w,hm,h => by
  obtain ⟨h1,h2⟩ := hm;obtain ⟨D,rfl,hB,hC,hD⟩ := h1 d List.mem_cons_self;have h3 := List.pairwise_cons.1 h2;have hlt := heap_lt hD;refine ⟨by simp,.inl ⟨D,_,rfl,run_takeDeferred hD,?_⟩⟩;have hg := grownBy_putObj' w D (.deferred none);refine leaves_marksU (C := C) ds _ ⟨fun d' hd' => ?_,h3.2⟩ (fun w' hb' hc' => h w' (((Below.refl B w).grown hg (by omega) (fun k e => by cases e;exact hB)).trans hb') (fun k o hk ho => hc' k o ?_ ho))
  ·obtain ⟨D',rfl,hB',hC',hD'⟩ := h1 d' (List.mem_cons_of_mem _ hd')
   have hne : D' ≠ D := fun e => h3.1 _ hd' (by rw [e]);exact ⟨D',rfl,hB',hC',by rw [hg.block D' (heap_lt hD') (by simpa using hne)];exact hD'⟩
  ·have hne : k ≠ D := fun e => by
    subst e;rw [hD] at hk
    cases hk
    cases ho
   rw [hg.block k (heap_lt hk) (by simpa using hne)];exact hk
theorem Marks.tch {B C : Nat} {ds : List Deferred} {w w' : World} {ex : Nat → Prop} (h : Marks B C ds w) (hc : Tch ex w w') (hx : ∀ k,B ≤ k → ¬ ex k) (hC : C ≤ w.heap.size) : Marks B C ds w' :=
 ⟨fun d hd => by
  obtain ⟨D,e,h1,h2,h3⟩ := h.1 d hd
  exact ⟨D,e,h1,h2,(hc.block D (by omega) (hx D h1)).trans h3⟩,h.2⟩
theorem own_isc {w : World} {b : Nat} {e : TypeId} {sz : Nat} {v : Value} {n : Nat} {xs : List Value} (h : w.ownsRow b e sz v n xs) {g : Nat} (hv : v.ownBlock = some g) : ∃ o,w.heap[g]? = some o ∧ o.isCells = true := by
 rcases h.2 with ⟨rfl,_⟩ | ⟨g',cap,cur,rfl,_,h3,_⟩
 ·cases hv
 ·have e : g' = g := by simpa [Value.ownBlock] using hv
  subst e;exact ⟨_,h3,rfl⟩
theorem Marks.grownC {B C : Nat} {ds : List Deferred} {w w' : World} {row : Option Nat} (h : Marks B C ds w) (hg : w.grownBy w' row) (hr : ∀ g,row = some g → ∃ o,w.heap[g]? = some o ∧ o.isCells = true) : Marks B C ds w' :=
 ⟨fun d hd => by
  obtain ⟨D,e,h1,h2,h3⟩ := h.1 d hd;refine ⟨D,e,h1,h2,(hg.block D (heap_lt h3) (fun er => ?_)).trans h3⟩;obtain ⟨o,g1,g2⟩ := hr D er.symm;rw [h3] at g1
  cases g1
  exact absurd g2 (by simp [Obj.isCells]),h.2⟩
theorem results_tmp_1 {P : Program} {fn : Func} {t : Tmp} (h : fn.results = #[.tmp t]) (tmps : Array Value) (w : World) : (results fn tmps).run P w = .ok (tmps.getD t undef) w := by simp [results,h]
theorem rng_swp {n L r k : Nat} {M : Nat → Nat → Int} (h : ∀ i j,i < n → j < L → 0 ≤ M i j ∧ M i j < 1073741789) (hr : r < n) (hk : k < n) : ∀ i j,i < n → j < L → 0 ≤ Gs.swpM M r k i j ∧ Gs.swpM M r k i j < 1073741789 := fun i j hi hj => by
 unfold Gs.swpM
 split
 ·exact h k j hk hj
 ·split
  ·exact h r j hr hj
  ·exact h i j hi hj
theorem rng_scl {n L r c q : Nat} {M : Nat → Nat → Int} {nv : Int} (h : ∀ i j,i < n → j < L → 0 ≤ M i j ∧ M i j < 1073741789) : ∀ i j,i < n → j < L → 0 ≤ Gs.sclTo M r c nv q i j ∧ Gs.sclTo M r c nv q i j < 1073741789 := fun i j hi hj => by
 unfold Gs.sclTo
 split
 ·exact ⟨Fm.ml_lo _ _,Fm.ml_hi _ _⟩
 ·exact h i j hi hj
theorem rng_clrs {n L r c q : Nat} {M : Nat → Nat → Int} (h : ∀ i j,i < n → j < L → 0 ≤ M i j ∧ M i j < 1073741789) : ∀ i j,i < n → j < L → 0 ≤ Gs.clrs M r c L q i j ∧ Gs.clrs M r c L q i j < 1073741789 := fun i j hi hj => by
 unfold Gs.clrs
 split
 ·exact ⟨Fm.ad_lo _ _,Fm.ad_hi _ _⟩
 ·exact h i j hi hj
theorem cutK {α β : Type} {K : α → β → Prop} {q : Prop} (a : α) (b : β) (h : K a b → q) (hk : K a b) : q := h hk
theorem reduce_any (B tb tc : Nat) (gs0 : List (Nat × Nat)) (L many : Nat) (M0 : Nat → Nat → Int) (w : World) (hT : Tab w B tb gs0 L M0) (hmL : many ≤ L) (hL0 : 0 < L) (hL : L ≤ 64) (hn : gs0.length ≤ 64) (htc : gs0.length ≤ tc) (htc2 : tc ≤ 4096)
  (hr : ∀ r j,r < gs0.length → j < L → 0 ≤ M0 r j ∧ M0 r j < 1073741789) (hB : B ≤ w.heap.size) :
  Calls Tryz.prog 90 #[.slice (some ⟨tb,0,none⟩) gs0.length tc,.int .i64 (many : Int)] w fun r w' => ∃ ps pv gs M,r = .returned pv ∧ RM w.heap.size B tb tc gs0.length L w ps pv gs M w' ∧ Gs.Rex gs0.length L M0 M many ps := by
 obtain ⟨s,hs⟩ : ∃ s,w.heap.size = s := ⟨_,rfl⟩;obtain ⟨n,hnn⟩ : ∃ n,gs0.length = n := ⟨_,rfl⟩;obtain ⟨w1,hw1⟩ : ∃ w1,w.alloc (.cells #[.slice (some ⟨tb,0,none⟩) n tc] 162) = w1 := ⟨_,rfl⟩;have hb1 : Below w.heap.size w w1 := by rw [← hw1];exact (Below.refl _ w).alloc (Nat.le_refl _) _
 have hbox : Row w1 s 162 [.slice (some ⟨tb,0,none⟩) n tc] := by rw [← hw1];exact Row.fresh' w _ _ hs
 have HR1 : Hid (RM s B tb tc n L w [] (.slice none 0 0) gs0 M0 w1) := ⟨hnn,fun i hi => by have := (hT.glt (i := i) (by omega)).2;omega,hT.next hb1,hbox,World.ownsRow_nil _ _ _ _,hb1.mono hB⟩;have HRED : Hid (Gs.Rex n L M0 M0 0 []) := Gs.Rex.start (by rw [← hnn];exact hr);have hts : tb < s := by have := hT.tlt;omega
 have HS := Lib.hid hs;have hBs : B ≤ s := by omega
 rw [hs,hnn];rw [hnn] at hn htc;clear hT hb1 hbox hr hs hnn;subst hw1;refine (callsIn_wide (n := 9)).1 ?_;refine callsIn_of_wp_marks Tryz.func90 rfl trivial ?_ rfl;simp only [Tryz.ntmps90,List.size_toArray,List.length_cons,List.length_nil,Nat.reduceAdd,Nat.reduceSub,Array.replicate_succ,Array.replicate_zero,List.push_toArray,List.append_toArray,List.nil_append,List.cons_append]
 gi_wp2_with fail
 generalize (w.alloc (.cells #[.slice (some ⟨tb,0,none⟩) n tc] 162)) = w1 at HR1 ⊢;rw [HS.out]
 obtain ⟨J,hJ⟩ : ∃ J : Nat → Act → World → Prop,J = fun m a' w' => ∃ (c : Nat) (ps : List Nat) (A : Option Addr) (cp : Nat) (gs : List (Nat × Nat)) (M : Nat → Nat → Int),c ≤ many ∧ m = many - c ∧ a'.tmps.size = 102 ∧ a'.tmps.getD 2 undef = .pointer (some ⟨s,0,none⟩) ∧ a'.tmps.getD 4 undef = .slice A ps.length cp ∧ a'.tmps.getD 13 undef = .int .i64 (many : Int) ∧ a'.tmps.getD 14 undef = .int .i64 (c : Int) ∧
  Marks (s + 1) w'.heap.size a'.defers w' ∧ RM s B tb tc n L w ps (.slice A ps.length cp) gs M w' ∧ Gs.Rex n L M0 M c ps := ⟨_,rfl⟩
 refine wpIn_loop_ghostU J ?_ ?_
 ·rw [hJ]
  exact ⟨_,0,[],none,0,gs0,M0,Nat.zero_le _,rfl,rfl,rfl,rfl,rfl,rfl,Marks.nil _ _ _,HR1.out,HRED.out⟩
 ·clear HR1 HRED
  have HJ := Lib.hid hJ;intro m a' wr hinv;rw [hJ] at hinv;clear hJ;obtain ⟨c,ps,A,cp,gs,M,hc,hm,h102,e2,e4,e13,e14,hmk,hRM,hred⟩ := hinv;obtain ⟨TT,ds⟩ := a';dsimp only at h102 e2 e4 e13 e14 hmk;obtain ⟨v2,hTT,hv⟩ := arr_fun TT 102 h102;have e' : ((List.range 102).map v2).toArray = #[v2 0,v2 1,v2 2,v2 3,v2 4,v2 5,v2 6,v2 7,v2 8,v2 9,v2 10,v2 11,v2 12,v2 13,v2 14,v2 15,v2 16,v2 17,v2 18,v2 19,v2 20,v2 21,v2 22,v2 23,v2 24,v2 25,v2 26,v2 27,v2 28,v2 29,v2 30,v2 31,v2 32,v2 33,v2 34,v2 35,v2 36,v2 37,v2 38,v2 39,v2 40,v2 41,v2 42,v2 43,v2 44,v2 45,v2 46,v2 47,v2 48,v2 49,v2 50,v2 51,v2 52,v2 53,v2 54,v2 55,v2 56,v2 57,v2 58,v2 59,v2 60,v2 61,v2 62,v2 63,v2 64,v2 65,v2 66,v2 67,v2 68,v2 69,v2 70,v2 71,v2 72,v2 73,v2 74,v2 75,v2 76,v2 77,v2 78,v2 79,v2 80,v2 81,v2 82,v2 83,v2 84,v2 85,v2 86,v2 87,v2 88,v2 89,v2 90,v2 91,v2 92,v2 93,v2 94,v2 95,v2 96,v2 97,v2 98,v2 99,v2 100,v2 101] := rfl;rw [show v2 2 = _ from (hv 2).symm.trans e2,show v2 4 = _ from (hv 4).symm.trans e4,show v2 13 = _ from (hv 13).symm.trans e13,show v2 14 = _ from (hv 14).symm.trans e14] at e';rw [hTT,e'];have hrl := hred.len;have HRM := Lib.hid hRM;have HRED := Lib.hid hred;have HMK := Lib.hid hmk;have HM := Lib.hid hm;clear hTT hv e' e2 e4 e13 e14 h102 hRM hred hmk hm;obtain ⟨r,hrr⟩ : ∃ r,ps.length = r := ⟨_,rfl⟩;rw [hrr] at hrl ⊢;have HRR := Lib.hid hrr;clear hrr
  by_cases hlt : c < many
  ·have k1 : (c : Int) < (many : Int) := by omega
   have k0 : (0 : Int) ≤ (c : Int) := by omega
   have k2 : (c : Int) < (L : Int) := by omega
   obtain ⟨z,hz⟩ : ∃ z,wr.heap.size = z := ⟨_,rfl⟩;have HRa : Hid (RM s B tb tc n L w ps (.slice A ps.length cp) gs M (wr.alloc (.cells #[.int .i64 (r : Int)] 3))) := HRM.out.next hB ((Below.refl _ _).alloc (Nat.le_refl _) _);have HRr : Hid (Row (wr.alloc (.cells #[.int .i64 (r : Int)] 3)) z 3 [.int .i64 (r : Int)]) := Row.fresh' _ _ _ hz
   have HMa : Hid (Marks (s + 1) (z + 1) ds (wr.alloc (.cells #[.int .i64 (r : Int)] 3))) := by
    have := HMK.out.keep ((Below.refl _ wr).alloc (Nat.le_refl _) (.cells #[.int .i64 (r : Int)] 3));rw [hz] at this;exact this.moreU (by omega)
   have HZ := Lib.hid hz;have hsz : s < z := by have := HRM.out.box.lt;omega
   have htz : tb < z := by omega
   gi_wp2_with fail
   clear hz;have HZ1 : Hid ((wr.alloc (.cells #[.int .i64 (r : Int)] 3)).heap.size = z + 1) := by show _ = _;rw [World.size_alloc,HZ.out]
   generalize (wr.alloc (.cells #[.int .i64 (r : Int)] 3)) = w2 at HRa HRr HMa HZ1 ⊢;clear HRM HMK
   gi_loopw [7] (fun x wx => ∃ k : Nat,r ≤ k ∧ k ≤ n ∧ x = .int .i64 k ∧ (∀ i,r ≤ i → i < k → M i c = 0) ∧ w2 = wx) (fun x _ => n - (intOf x).toNat)
   case atStart => exact ⟨r,Nat.le_refl _,hrl,rfl,fun i h1 h2 => absurd h2 (by omega),rfl⟩
   case round =>
    obtain ⟨k,hrk,hkn,rfl,hzz,rfl⟩ := hrel;have HZZ := Lib.hid hzz;clear hzz;have c2 := HRa.out.box.cell (i := 0) rfl
    by_cases hlk : k < n
    ·have i1 : (k : Int) < (n : Int) := by omega
     have i0 : (0 : Int) ≤ (k : Int) := by omega
     have hkg : k < gs.length := by rw [HRa.out.gl];exact hlk
     have t0 := HRa.out.tab.tcell hkg;have t1 := HRa.out.tab.cell hkg (show c < L by omega);obtain ⟨X,hX⟩ : ∃ x,M k c = x := ⟨_,rfl⟩;rw [hX] at t1;have HX := Lib.hid hX;clear hX hkg
     by_cases hx : X = 0
     ·subst hx
      have HZ2 : Hid (∀ i,r ≤ i → i < k + 1 → M i c = 0) := fun i h1 h2 => by
       rcases Nat.lt_or_ge i k with h3 | h3
       ·exact HZZ.out i h1 h3
       ·rw [show i = k by omega];exact HX.out
      gi_wp2_with fail
      go_roundw
      case rel => exact ⟨k + 1,by omega,by omega,by go_num,HZ2.out,trivial⟩
      case measure => simp [intOf];omega
     ·have hxb : (X == 0) = false := by simpa using hx
      have hkne : ((k : Int) == (n : Int)) = false := by simp;omega
      gi_wp2_with fail
      rename_i Kz hKz;clear t0 t1 c2;have hrg : r < gs.length := by rw [HRa.out.gl];omega
      have hkg : k < gs.length := by rw [HRa.out.gl];omega
      have htk := HRa.out.tab.tcell hkg;have htr := HRa.out.tab.tcell hrg;have hsw := (HRa.out.tab.next ((Below.refl _ w2).drew)).swap hrg hkg;have htop := HRa.out.tab.top;have hg1 := HRa.out.glt;obtain ⟨PK,hPK⟩ : ∃ x,gk gs k = x := ⟨_,rfl⟩;obtain ⟨PR,hPR⟩ : ∃ x,gk gs r = x := ⟨_,rfl⟩;rw [hPK] at htk;rw [hPR] at htr;rw [hPK,hPR] at hsw;obtain ⟨GK,CK⟩ := PK;obtain ⟨GR,CR⟩ := PR;dsimp only at htk htr hsw
      have hk2 : ∃ v,(w2.setCell ⟨tb,r,none⟩ (.slice (some ⟨GK,0,none⟩) L CK)).cell? ⟨tb,k,none⟩ = some v := by
       by_cases e : r = k
       ·subst e
        exact ⟨(.slice (some ⟨GK,0,none⟩) L CK),(htop.put r (.slice (some ⟨GK,0,none⟩) L CK) : Row (w2.setCell ⟨tb,r,none⟩ (.slice (some ⟨GK,0,none⟩) L CK)) tb _ _).cell (i := r) (List.getElem?_set_self (by rw [List.length_map];exact hrg))⟩
       ·exact ⟨(.slice (some ⟨GK,0,none⟩) L CK),by rw [World.cell?_setCell_other _ _ _ _ (by intro e2;injection e2 with _ e2;exact e e2)];exact htk⟩
      have hf2 : (w2.setCell ⟨tb,r,none⟩ (.slice (some ⟨GK,0,none⟩) L CK)).frozen? ⟨tb,k,none⟩ = false := (htop.put r (.slice (some ⟨GK,0,none⟩) L CK) : Row (w2.setCell ⟨tb,r,none⟩ (.slice (some ⟨GK,0,none⟩) L CK)) tb _ _).fz k;have HTK : Hid (w2.cell? ⟨tb,k,none⟩ = some (.slice (some ⟨GK,0,none⟩) L CK) ∧ w2.cell? ⟨tb,r,none⟩ = some (.slice (some ⟨GR,0,none⟩) L CR) ∧ w2.frozen? ⟨tb,r,none⟩ = false ∧ (∃ v,(w2.setCell ⟨tb,r,none⟩ (.slice (some ⟨GK,0,none⟩) L CK)).cell? ⟨tb,k,none⟩ = some v) ∧ (w2.setCell ⟨tb,r,none⟩ (.slice (some ⟨GK,0,none⟩) L CK)).frozen? ⟨tb,k,none⟩ = false) := ⟨htk,htr,htop.fz r,hk2,hf2⟩;have HIX : Hid ((0 : Int) ≤ (r : Int) ∧ (r : Int) < (n : Int) ∧ (0 : Int) ≤ (k : Int) ∧ (k : Int) < (n : Int)) := ⟨by omega,by omega,i0,i1⟩;have HSW := Lib.hid hsw;have HGS := Lib.hid (And.intro hPK hPR);clear htk htr hsw htop hk2 hf2 hPK hPR hrg hkg hg1 i0 i1;apply cutK (K := Kz)
      ·intro HREST
       refine wpIn_region_treeM (fun w' => Row w' s 162 [.slice (some ⟨tb,0,none⟩) n tc] ∧ Row w' z 3 [.int .i64 (r : Int)]) (.take 0 (.take 1 (.take 2 (.take 3 (.take 4 (.take 5 (.take 6 (.take 8 (.take 9 (.take 10 (.two 7 (.one 11 (.take 12 (.one 13 (.take 14 (.one 15 .done))))) 11 (.one 7 (.take 12 (.one 13 (.take 14 (.one 15 .done)))))))))))))))) (by kernel_rfl) (by kernel_rfl) (by kernel_rfl) (by kernel_rfl) (by kernel_rfl) ⟨HRa.out.box.below (Below.refl _ _).drew HRa.out.box.lt,HRr.out.below (Below.refl _ _).drew HRr.out.lt⟩ ?_
       iterate 10 (refine wpOTI_take rfl _ (by rfl) (fun _ => rfl) (by intro w' hS;have c2 := hS.1.cell (i := 0) rfl;have c6 := hS.2.cell (i := 0) rfl;obtain ⟨r0,r1,k0,k1⟩ := HIX.out;go_simp;try with_reducible rfl) fun KK hKK => ?_;go_simp;refine hKK _ ?_;clear hKK KK)
       refine wpOTI_two rfl (by rfl) rfl (by rfl) (fun KK hKK => ?_) (fun KK hKK => ?_)
       ·have cx := HTK.out.1
        go_simp;refine hKK _ _ ⟨HRa.out.box.below (Below.refl _ _).drew HRa.out.box.lt,HRr.out.below (Below.refl _ _).drew HRr.out.lt⟩ ?_;clear hKK KK cx;refine wpOTI_one rfl (by rfl) fun KK hKK => ?_;go_simp;have cx := HTK.out.2.1;go_simp;refine hKK _ _ ⟨HRa.out.box.below (Below.refl _ _).drew HRa.out.box.lt,HRr.out.below (Below.refl _ _).drew HRr.out.lt⟩ ?_;clear hKK KK cx;refine wpOTI_take rfl _ (by rfl) (fun _ => rfl) (by intro w' hS;have c2 := hS.1.cell (i := 0) rfl;have c6 := hS.2.cell (i := 0) rfl;obtain ⟨r0,r1,k0,k1⟩ := HIX.out;go_simp;try with_reducible rfl) fun KK hKK => ?_;go_simp;refine hKK _ ?_;clear hKK KK;refine wpOTI_one rfl (by rfl) fun KK hKK => ?_;have cx := HTK.out.2.1;have fx := HTK.out.2.2.1;go_simp;refine hKK _ _ ⟨HRa.out.box.away (p := ⟨tb,r,none⟩) (by show s ≠ tb;omega) (.slice (some ⟨GK,0,none⟩) L CK),HRr.out.away (p := ⟨tb,r,none⟩) (by show z ≠ tb;omega) (.slice (some ⟨GK,0,none⟩) L CK)⟩ ?_;clear hKK KK cx fx;refine wpOTI_take rfl _ (by rfl) (fun _ => rfl) (by intro w' hS;have c2 := hS.1.cell (i := 0) rfl;have c6 := hS.2.cell (i := 0) rfl;obtain ⟨r0,r1,k0,k1⟩ := HIX.out;go_simp;try with_reducible rfl) fun KK hKK => ?_;go_simp;refine hKK _ ?_;clear hKK KK;refine wpOTI_one rfl (by rfl) fun KK hKK => ?_;obtain ⟨VX,cx⟩ := HTK.out.2.2.2.1;have fx := HTK.out.2.2.2.2;go_simp;refine hKK _ _ ⟨(HRa.out.box.away (p := ⟨tb,r,none⟩) (by show s ≠ tb;omega) (.slice (some ⟨GK,0,none⟩) L CK)).away (p := ⟨tb,k,none⟩) (by show s ≠ tb;omega) (.slice (some ⟨GR,0,none⟩) L CR),(HRr.out.away (p := ⟨tb,r,none⟩) (by show z ≠ tb;omega) (.slice (some ⟨GK,0,none⟩) L CK)).away (p := ⟨tb,k,none⟩) (by show z ≠ tb;omega) (.slice (some ⟨GR,0,none⟩) L CR)⟩ ?_;clear hKK KK cx fx;refine wpOTI_done ?_;show Kz _ _;exact HREST
       ·have cx := HTK.out.2.1
        go_simp;refine hKK _ _ ⟨HRa.out.box.below (Below.refl _ _).drew HRa.out.box.lt,HRr.out.below (Below.refl _ _).drew HRr.out.lt⟩ ?_;clear hKK KK cx;refine wpOTI_one rfl (by rfl) fun KK hKK => ?_;go_simp;have cx := HTK.out.1;go_simp;refine hKK _ _ ⟨HRa.out.box.below (Below.refl _ _).drew HRa.out.box.lt,HRr.out.below (Below.refl _ _).drew HRr.out.lt⟩ ?_;clear hKK KK cx;refine wpOTI_take rfl _ (by rfl) (fun _ => rfl) (by intro w' hS;have c2 := hS.1.cell (i := 0) rfl;have c6 := hS.2.cell (i := 0) rfl;obtain ⟨r0,r1,k0,k1⟩ := HIX.out;go_simp;try with_reducible rfl) fun KK hKK => ?_;go_simp;refine hKK _ ?_;clear hKK KK;refine wpOTI_one rfl (by rfl) fun KK hKK => ?_;have cx := HTK.out.2.1;have fx := HTK.out.2.2.1;go_simp;refine hKK _ _ ⟨HRa.out.box.away (p := ⟨tb,r,none⟩) (by show s ≠ tb;omega) (.slice (some ⟨GK,0,none⟩) L CK),HRr.out.away (p := ⟨tb,r,none⟩) (by show z ≠ tb;omega) (.slice (some ⟨GK,0,none⟩) L CK)⟩ ?_;clear hKK KK cx fx;refine wpOTI_take rfl _ (by rfl) (fun _ => rfl) (by intro w' hS;have c2 := hS.1.cell (i := 0) rfl;have c6 := hS.2.cell (i := 0) rfl;obtain ⟨r0,r1,k0,k1⟩ := HIX.out;go_simp;try with_reducible rfl) fun KK hKK => ?_;go_simp;refine hKK _ ?_;clear hKK KK;refine wpOTI_one rfl (by rfl) fun KK hKK => ?_;obtain ⟨VX,cx⟩ := HTK.out.2.2.2.1;have fx := HTK.out.2.2.2.2;go_simp;refine hKK _ _ ⟨(HRa.out.box.away (p := ⟨tb,r,none⟩) (by show s ≠ tb;omega) (.slice (some ⟨GK,0,none⟩) L CK)).away (p := ⟨tb,k,none⟩) (by show s ≠ tb;omega) (.slice (some ⟨GR,0,none⟩) L CR),(HRr.out.away (p := ⟨tb,r,none⟩) (by show z ≠ tb;omega) (.slice (some ⟨GK,0,none⟩) L CK)).away (p := ⟨tb,k,none⟩) (by show z ≠ tb;omega) (.slice (some ⟨GR,0,none⟩) L CR)⟩ ?_;clear hKK KK cx fx;refine wpOTI_done ?_;show Kz _ _;exact HREST
      refine hKz _ _ ?_;go_simp;have hrg : r < gs.length := by rw [HRa.out.gl];omega
      have hkg : k < gs.length := by rw [HRa.out.gl];omega
      have hT5 : RM s B tb tc n L w ps (.slice A ps.length cp) (gsS gs r k) (Gs.swpM M r k) ((w2.setCell ⟨tb,r,none⟩ (.slice (some ⟨GK,0,none⟩) L CK)).setCell ⟨tb,k,none⟩ (.slice (some ⟨GR,0,none⟩) L CR)).drew := by
       have hB1 := HRa.out.bel;have hBt := HRa.out.tab.lo;refine HRa.out.turn (((Tch.refl _ w2).set (p := ⟨tb,r,none⟩) (.inr hts) _).set (p := ⟨tb,k,none⟩) (.inr hts) _).drew HSW.out (by rw [gsS_len];exact HRa.out.gl) (fun i hi => ?_) ((hB1.setCell (p := ⟨tb,r,none⟩) hBt _).setCell (p := ⟨tb,k,none⟩) hBt _).drew;have hg := HRa.out.gl;rw [gsS_at (by omega)]
       split
       ·exact HRa.out.glt r (by omega)
       ·split
        ·exact HRa.out.glt k hlk
        ·exact HRa.out.glt i hi
      have hR5 : Row ((w2.setCell ⟨tb,r,none⟩ (.slice (some ⟨GK,0,none⟩) L CK)).setCell ⟨tb,k,none⟩ (.slice (some ⟨GR,0,none⟩) L CR)).drew z 3 [.int .i64 (r : Int)] := (HRr.out.away (p := ⟨tb,r,none⟩) (by show z ≠ tb;omega) _).away (p := ⟨tb,k,none⟩) (by show z ≠ tb;omega) _;have hM5 : Marks (s + 1) (z + 1) ds ((w2.setCell ⟨tb,r,none⟩ (.slice (some ⟨GK,0,none⟩) L CK)).setCell ⟨tb,k,none⟩ (.slice (some ⟨GR,0,none⟩) L CR)).drew := HMa.out.tch (((Tch.refl (fun q => q < s) w2).set (p := ⟨tb,r,none⟩) (.inr hts) _).set (p := ⟨tb,k,none⟩) (.inr hts) _).drew (fun q h1 h2 => by omega) (by rw [HZ1.out];exact Nat.le_refl _);have hZ5 : ((w2.setCell ⟨tb,r,none⟩ (.slice (some ⟨GK,0,none⟩) L CK)).setCell ⟨tb,k,none⟩ (.slice (some ⟨GR,0,none⟩) L CR)).drew.heap.size = z + 1 := by rw [← HZ1.out];simp [World.size_setCell,World.drew]
      generalize ((w2.setCell ⟨tb,r,none⟩ (.slice (some ⟨GK,0,none⟩) L CK)).setCell ⟨tb,k,none⟩ (.slice (some ⟨GR,0,none⟩) L CR)).drew = w5 at hT5 hR5 hM5 hZ5 ⊢;have hrng := rng_swp (r := r) (k := k) HRED.out.rng (by omega) hlk;have hM1c : Gs.swpM M r k r c = X := by unfold Gs.swpM;rw [if_pos rfl];exact HX.out
      have hstep := HRED.out.step (k := k) (by omega) (by rw [HRR.out];exact hrk) hlk (by rw [HX.out];exact hx) (by rw [HRR.out];exact fun i h1 h2 => HZZ.out i h1 h2);rw [HRR.out,HX.out] at hstep;obtain ⟨gs1,hgs1⟩ : ∃ x,gsS gs r k = x := ⟨_,rfl⟩;obtain ⟨M1,hM1⟩ : ∃ x,Gs.swpM M r k = x := ⟨_,rfl⟩;rw [hgs1,hM1] at hT5;rw [hM1] at hrng hM1c hstep;obtain ⟨NV,hNV⟩ : ∃ x,Fm.inv X = x := ⟨_,rfl⟩;rw [hNV] at hstep;have hINV : ∀ V,Calls Tryz.prog 131 #[.int .i64 X] V fun e w' => e = .returned (.tuple #[.int .i64 NV,.int .i64 (Fm.invE X)]) ∧ V = w' := fun V => by rw [← hNV];exact inv_any X V
      have hr1 : r < gs1.length := by rw [hT5.gl];omega
      obtain ⟨PP,hPP⟩ : ∃ x,gk gs1 r = x := ⟨_,rfl⟩;have t0 := hT5.tab.tcell hr1;have t1 := hT5.tab.cell hr1 (show c < L by omega);have hcap1 := (hT5.tab.cap hr1 hL0).1;have hgr1 := hT5.glt r (by omega);have htop1 := hT5.tab.top;obtain ⟨TP,hTP⟩ : ∃ x,(gs1.map fun g => Value.slice (some ⟨g.1,0,none⟩) L g.2) = x := ⟨_,rfl⟩;rw [hTP] at htop1
      have hti : TP[r]? = some (.slice (some ⟨(gk gs1 r).1,0,none⟩) L (gk gs1 r).2) := by
       rw [← hTP,List.getElem?_map,List.getElem?_eq_getElem hr1];unfold gk;rw [List.getD_eq_getElem?_getD,List.getElem?_eq_getElem hr1]
       rfl
      rw [hM1c] at t1;rw [hPP] at t0 t1 hcap1 hgr1 hti;obtain ⟨G1,C1⟩ := PP;dsimp only at t0 t1 hcap1 hgr1 hti;have c2 := hT5.box.cell (i := 0) rfl;have c6 := hR5.cell (i := 0) rfl;have r0 : (0 : Int) ≤ (r : Int) := by omega
      have r1 : (r : Int) < (n : Int) := by omega
      have HT5 := Lib.hid hT5;have HR5 := Lib.hid hR5;have HM5 := Lib.hid hM5;have HZ5 := Lib.hid hZ5;have HRNG := Lib.hid hrng;have HSTEP := Lib.hid hstep;have HINV := Lib.hid hINV;have HPP := Lib.hid hPP;have HTP1 := Lib.hid (And.intro htop1 hTP);have HTI := Lib.hid hti;have HCAP := Lib.hid hcap1;clear hT5 hR5 hM5 hZ5 hrng hM1c hstep hgs1 hM1 hNV hINV hPP hTP htop1 hti hcap1 hrg hkg HTK HSW HRa HRr HMa HZ1 HX hx hxb hkne HZZ HRED HGS
      gi_wp2_with fail
      refine ⟨trivial,?_⟩
      with_reducible refine (callsIn_wide.2 (HINV.out _)).mono ?_
      rintro e6 w6 ⟨rfl,rfl⟩;have hw6a : Below w5.heap.size w5 (w5.alloc (.cells #[.int .i64 NV] 3)) := (Below.refl _ _).alloc (Nat.le_refl _) _;have HT6 : Hid (RM s B tb tc n L w ps (.slice A ps.length cp) gs1 M1 (w5.alloc (.cells #[.int .i64 NV] 3))) := HT5.out.next hB hw6a;have HR6 : Hid (Row (w5.alloc (.cells #[.int .i64 NV] 3)) z 3 [.int .i64 (r : Int)]) := HR5.out.alloc _;have HN6 : Hid (Row (w5.alloc (.cells #[.int .i64 NV] 3)) (z + 1) 3 [.int .i64 NV]) := Row.fresh' _ _ _ HZ5.out;have HM6 : Hid (Marks (s + 1) (z + 1) ds (w5.alloc (.cells #[.int .i64 NV] 3))) := HM5.out.keep (hw6a.mono (by rw [HZ5.out];exact Nat.le_refl _));have HZ6 : Hid ((w5.alloc (.cells #[.int .i64 NV] 3)).heap.size = z + 1 + 1) := by show _ = _;rw [World.size_alloc,HZ5.out]
      have l5 : s < w5.heap.size := by rw [HZ5.out];omega
      have l5b : z < w5.heap.size := by rw [HZ5.out];omega
      have l5c : tb < w5.heap.size := by rw [HZ5.out];omega
      have l5d : G1 < w5.heap.size := by rw [HZ5.out];omega
      clear hw6a
      gi_wp2_with fail
      refine ⟨trivial,?_⟩;refine (callsIn_wide.2 (after_any _ _ _ _ _)).mono ?_;rintro e7 w7 ⟨rfl,hw7⟩;rw [HZ6.out];rw [HZ5.out];generalize (w5.alloc (.cells #[.int .i64 NV] 3)) = w6 at hw7 HT6 HR6 HN6 HM6 HZ6 ⊢;have hb7 : Below w6.heap.size w6 w7 := by rw [← hw7];exact ((Below.refl _ _).alloc (Nat.le_refl _) _).alloc (by simp) _
      have hz7 : w7.heap.size = z + 1 + 1 + 1 + 1 := by rw [← hw7];simp [HZ6.out]
      have hra : Row w7 (z + 1 + 1) 23 [.slice (some ⟨G1,0,none⟩) L C1] := by rw [← hw7];exact (Row.fresh' _ _ _ HZ6.out).alloc _
      have hrc : Row w7 (z + 1 + 1 + 1) 3 [.int .i64 (c : Int)] := by rw [← hw7];exact Row.fresh' _ _ _ (by simp [HZ6.out])
      have hT7 := HT6.out.next hB hb7;have hR7 := HR6.out.below hb7 HR6.out.lt;have hN7 := HN6.out.below hb7 HN6.out.lt;have hM7 : Marks (s + 1) (z + 1) ds w7 := HM6.out.keep (hb7.mono (by rw [HZ6.out];omega));have htp7 := hT7.tab.top;rw [HTP1.out.2] at htp7;clear hb7 hw7 l5 l5b l5c l5d HT6 HR6 HN6 HM6 HZ6 HT5 HR5 HM5 t0 t1 c2 c6;have hgl : ∀ q,q < gs1.length → (gk gs1 q).1 < s := fun q hq => hT7.glt q (by rw [← hT7.gl];exact hq);have hgn := hT7.gl
      gi_wp2_with fail
      refine wpIn_range_hands (F := Fence.wide) (σ := Nat) rfl (by omega) (gf := 147) (lb := #[.pointer (some ⟨z + 1 + 1 + 1,0,none⟩),.pointer (some ⟨z + 1 + 1,0,none⟩)]) rfl trivial (enters_of Tryz.func147 (by kernel_rfl) rfl)
       (fun (q : Nat) W => Tch (fun g => g = G1) w7 W ∧ Tab W B tb gs1 L (Gs.sclTo M1 r c NV q))
       (fun _ (q : Nat) W => False)
       (fun (q : Nat) vs q' _ => q' = q + 1 ∧ c ≤ q ∧ q < L ∧ vs = #[.int .i64 (q : Int),.int .i64 (M1 r q)]) c (fun (q : Nat) => q = L) w7 (Below.refl _ _) ?hsq
       ?oi (fun _ _ _ _ _ h _ _ => h) ⟨Tch.refl _ _,by rw [sclTo_start];exact hT7.tab⟩ (fun _ _ _ _ h => by rw [h.2.2.2];rfl)
       (fun (q : Nat) a' W => (∃ j : Nat,q = j + 1 ∧ c ≤ j ∧ j < L ∧ a'.tmps.getD 10 undef = .int .i64 (j : Int) ∧ a'.tmps.getD 11 undef = .int .i64 (M1 r j) ∧ Tch (fun g => g = G1) w7 W ∧ Tab W B tb gs1 L (Gs.sclTo M1 r c NV j)) ∧ a'.tmps.size = 102 ∧ a'.tmps.getD 2 undef = .pointer (some ⟨s,0,none⟩) ∧ a'.tmps.getD 6 undef = .pointer (some ⟨z,0,none⟩) ∧ a'.tmps.getD 8 undef = .pointer (some ⟨z + 1,0,none⟩) ∧ a'.defers = []) ?oa ?assign ?body ?done ?stop
      case hsq =>
       refine after1_hands c L C1 G1 _ _ (M1 r) (by omega) (by omega) HCAP.out w7 _ ?_;rintro q W ⟨q1,q2⟩;refine ⟨q1.row hrc (by omega),q1.row hra (by omega),fun hq => ?_⟩;have := q2.cell (i := r) (j := q) (by rw [hgn];omega) hq;rw [HPP.out] at this;rw [this];unfold Gs.sclTo;rw [if_neg (by omega)]
      case oi =>
       rintro q W W' row ⟨q1,q2⟩ hg hr;exact ⟨q1.grown hg (fun g e => .inl (hr g e).1),q2.kept hg (fun g e => ⟨by have := (hr g e).1;omega,fun i hi => by have := (hr g e).1;have := hgl i hi;omega⟩)⟩
      case oa =>
       rintro q a' _ W W' row ⟨⟨j,p1,p2,p3,p4,p5,q1,q2⟩,q7⟩ hg hr;exact ⟨⟨j,p1,p2,p3,p4,p5,q1.grown hg (fun g e => .inl (hr g e).1),q2.kept hg (fun g e => ⟨by have := (hr g e).1;omega,fun i hi => by have := (hr g e).1;have := hgl i hi;omega⟩)⟩,q7⟩
      case assign =>
       rintro l q vs q' W K ⟨q1,q2⟩ ⟨rfl,hk0,hk,rfl⟩ hK;obtain ⟨Y,hY⟩ : ∃ x,M1 r q = x := ⟨_,rfl⟩;have HK := Lib.hid hK;have HY := Lib.hid hY;rw [hY,show ∀ (a b : Value),(#[71,72] : Array Tmp).zip #[a,b] = #[(71,a),(72,b)] from fun a b => by simp];clear hK hY;gi_wp2;exact HK.out _ _ (KeepsFrom.refl _ _) ⟨⟨q,rfl,hk0,hk,by rfl,by rw [HY.out];rfl,q1,q2⟩,by rfl,by rfl,by rfl,by rfl,by rfl⟩
      case body =>
       rintro l q a' W hl ⟨⟨j,rfl,hj0,hj,e10,e11,q1,q2⟩,h102,e2,e6,e8,hdf⟩;obtain ⟨T2,ds2⟩ := a';dsimp only at h102 e2 e6 e8 e10 e11 hdf;subst hdf;obtain ⟨v3,hT,hv⟩ := arr_fun T2 102 h102;have e' : ((List.range 102).map v3).toArray = #[v3 0,v3 1,v3 2,v3 3,v3 4,v3 5,v3 6,v3 7,v3 8,v3 9,v3 10,v3 11,v3 12,v3 13,v3 14,v3 15,v3 16,v3 17,v3 18,v3 19,v3 20,v3 21,v3 22,v3 23,v3 24,v3 25,v3 26,v3 27,v3 28,v3 29,v3 30,v3 31,v3 32,v3 33,v3 34,v3 35,v3 36,v3 37,v3 38,v3 39,v3 40,v3 41,v3 42,v3 43,v3 44,v3 45,v3 46,v3 47,v3 48,v3 49,v3 50,v3 51,v3 52,v3 53,v3 54,v3 55,v3 56,v3 57,v3 58,v3 59,v3 60,v3 61,v3 62,v3 63,v3 64,v3 65,v3 66,v3 67,v3 68,v3 69,v3 70,v3 71,v3 72,v3 73,v3 74,v3 75,v3 76,v3 77,v3 78,v3 79,v3 80,v3 81,v3 82,v3 83,v3 84,v3 85,v3 86,v3 87,v3 88,v3 89,v3 90,v3 91,v3 92,v3 93,v3 94,v3 95,v3 96,v3 97,v3 98,v3 99,v3 100,v3 101] := rfl;rw [show v3 2 = _ from (hv 2).symm.trans e2,show v3 6 = _ from (hv 6).symm.trans e6,show v3 8 = _ from (hv 8).symm.trans e8,show v3 10 = _ from (hv 10).symm.trans e10,show v3 11 = _ from (hv 11).symm.trans e11] at e';rw [hT,e'];clear hT hv e' e2 e6 e8 e10 e11 h102;obtain ⟨Y,hY⟩ : ∃ x,M1 r j = x := ⟨_,rfl⟩;rw [hY];have hig : r < gs1.length := by rw [hgn];omega
       have hcell := q2.cell hig hj;have hfrz := q2.fz hig j;have hset := q2.set hig hj (Fm.ml Y NV);have hnext := sclTo_next M1 (r := r) (nv := NV) hj0;rw [hY] at hnext;rw [hnext] at hset;have hisc : ∀ o,W.heap[(gk gs1 r).1]? = some o → o.isCells = true := fun o ho => q2.isc hL0 hig ho;have hgB := (q2.glt hig).1;have hne1 := q2.ne r hig;rw [HPP.out] at hcell hfrz hset hisc hgB hne1;dsimp only at hcell hfrz hset hisc hgB hne1;have hq1 := q1.row hT7.box (by omega);have hq2 := q1.row hR7 (by omega);have hq3 := q1.row hN7 (by omega);have hq4 := q1.row htp7 (by intro e;exact hne1 e.symm);have HSD : Hid ((fun w' => Row w' s 162 [.slice (some ⟨tb,0,none⟩) n tc] ∧ Row w' z 3 [.int .i64 (r : Int)] ∧ Row w' (z + 1) 3 [.int .i64 NV] ∧ Row w' tb 23 TP) W.drew) := ⟨hq1.below (Below.refl _ _).drew hq1.lt,hq2.below (Below.refl _ _).drew hq2.lt,hq3.below (Below.refl _ _).drew hq3.lt,hq4.below (Below.refl _ _).drew hq4.lt⟩;have HSE : Hid ((fun w' => Row w' s 162 [.slice (some ⟨tb,0,none⟩) n tc] ∧ Row w' z 3 [.int .i64 (r : Int)] ∧ Row w' (z + 1) 3 [.int .i64 NV] ∧ Row w' tb 23 TP) (W.setCell ⟨G1,j,none⟩ (.int .i64 (Fm.ml Y NV))).drew) := ⟨hq1.away (p := ⟨G1,j,none⟩) (by show s ≠ G1;omega) _,hq2.away (p := ⟨G1,j,none⟩) (by show z ≠ G1;omega) _,hq3.away (p := ⟨G1,j,none⟩) (by show z + 1 ≠ G1;omega) _,hq4.away (p := ⟨G1,j,none⟩) (fun e => hne1 e.symm) _⟩
       have HFIN : Hid (KeepsFrom w7.heap.size W (W.setCell ⟨G1,j,none⟩ (.int .i64 (Fm.ml Y NV))).drew ∧ Tch (fun g => g = G1) w7 (W.setCell ⟨G1,j,none⟩ (.int .i64 (Fm.ml Y NV))).drew ∧ Tab (W.setCell ⟨G1,j,none⟩ (.int .i64 (Fm.ml Y NV))).drew B tb gs1 L (Gs.sclTo M1 r c NV (j + 1))) :=
        ⟨((Tch.refl (fun g => g = G1) W).set (p := ⟨G1,j,none⟩) (.inr rfl) _).drew.keepsFrom (by rintro g rfl o ho;exact hisc o ho),(q1.set (p := ⟨G1,j,none⟩) (.inr rfl) _).drew,hset.next (Below.refl _ _).drew⟩
       have hmul : ∀ V,Calls Tryz.prog 51 #[.int .i64 Y,.int .i64 NV] V fun e w' => e = .returned (.int .i64 (Fm.ml Y NV)) ∧ V = w' := fun V => mul_any Y NV V;obtain ⟨ML,hML⟩ : ∃ x,Fm.ml Y NV = x := ⟨_,rfl⟩;rw [hML] at HSE HFIN hmul;have HMU := Lib.hid hmul;have HCX := Lib.hid (And.intro hcell hfrz);have HIB : Hid ((0 : Int) ≤ (r : Int) ∧ (r : Int) < (n : Int) ∧ (0 : Int) ≤ (j : Int) ∧ (j : Int) < (L : Int)) := ⟨r0,r1,by omega,by omega⟩;clear q1 q2 hcell hfrz hset hnext hisc hmul hML hY hq1 hq2 hq3 hq4 hig
       gi_wp2_with fail
       refine wpIn_region_treeM (fun w' => Row w' s 162 [.slice (some ⟨tb,0,none⟩) n tc] ∧ Row w' z 3 [.int .i64 (r : Int)] ∧ Row w' (z + 1) 3 [.int .i64 NV] ∧ Row w' tb 23 TP) (.take 0 (.take 1 (.take 2 (.take 3 (.take 4 (.take 5 (.take 6 (.one 7 (.take 8 (.one 9 .done)))))))))) (by kernel_rfl) (by kernel_rfl) (by kernel_rfl) (by kernel_rfl) (by kernel_rfl) HSD.out ?_
       iterate 7 (refine wpOTI_take rfl _ (by rfl) (fun _ => rfl) (by intro w' hS;obtain ⟨hs1,hs2,hs3,hs4⟩ := hS;have c2 := hs1.cell (i := 0) rfl;have c6 := hs2.cell (i := 0) rfl;have c8 := hs3.cell (i := 0) rfl;have t0 := hs4.cell HTI.out;obtain ⟨r0,r1,j0,j1⟩ := HIB.out;go_simp;try with_reducible rfl) fun KK hKK => ?_;go_simp;refine hKK _ ?_;clear hKK KK)
       refine wpOTI_one rfl (by rfl) fun KK hKK => ?_;go_simp;refine ⟨trivial,?_⟩
       with_reducible refine (CallsIn.inRound l (callsIn_wide.2 (HMU.out _))).mono ?_
       rintro e5 w8 ⟨rfl,rfl⟩;refine hKK _ _ HSD.out ?_;clear hKK KK;refine wpOTI_take rfl _ (by rfl) (fun _ => rfl) (by intro w' hS;obtain ⟨hs1,hs2,hs3,hs4⟩ := hS;have c2 := hs1.cell (i := 0) rfl;have c6 := hs2.cell (i := 0) rfl;have c8 := hs3.cell (i := 0) rfl;have t0 := hs4.cell HTI.out;obtain ⟨r0,r1,j0,j1⟩ := HIB.out;go_simp;try with_reducible rfl) fun KK hKK => ?_;go_simp;refine hKK _ ?_;clear hKK KK;refine wpOTI_one rfl (by rfl) fun KK hKK => ?_;have cx := HCX.out.1;have fx := HCX.out.2;go_simp;refine hKK _ _ HSE.out ?_;clear hKK KK cx fx;refine wpOTI_done ?_;show KeepsFrom _ _ _ ∧ _;exact HFIN.out
      case done =>
       rintro D q W hD hqL ⟨q1,q2⟩ hd;rw [hqL] at q2;clear hqL;have hgB := (q2.glt (i := r) (by rw [hgn];omega)).1;rw [HPP.out] at hgB;dsimp only at hgB;have hqs : Tch (fun g => g < s) w7 W := q1.mono (fun g _ e => by rw [e];exact hgr1);have hTW : RM s B tb tc n L w ps (.slice A ps.length cp) gs1 (Gs.sclTo M1 r c NV L) W := hT7.turn hqs q2 hgn (fun i hi => hgl i (by rw [hgn];exact hi)) (hT7.bel.trans (q1.below (by omega) (by intro i hi e;omega)));have hRW := q1.row hR7 (by omega);have hMW : Marks (s + 1) W.heap.size ({ target := .collected D,args := #[] } :: ds) W := (hM7.tch hqs (fun g h1 h2 => by omega) (by omega)).cons (by omega) (by omega) (heap_lt hd) hd;have hrng2 := rng_scl (r := r) (c := c) (q := L) (nv := NV) HRNG.out;have HST2 := Lib.hid HSTEP.out;obtain ⟨M2,hM2⟩ : ∃ x,Gs.sclTo M1 r c NV L = x := ⟨_,rfl⟩;rw [hM2] at q2 hTW hrng2;have HST3 : Hid (Gs.Rex n L M0 (Gs.clrs M2 r c L n) (c + 1) (ps ++ [c])) := by rw [← hM2];exact HST2.out
       have HTW := Lib.hid hTW;have HRW := Lib.hid hRW;have HMW := Lib.hid hMW;have HRG2 := Lib.hid hrng2;have HSW2 : Hid (w7.heap.size ≤ W.heap.size ∧ w7.heap.size = z + 1 + 1 + 1 + 1) := ⟨q1.size,hz7⟩;have HGL2 := Lib.hid hgl;have HGN := Lib.hid hgn;have htp0 : Tch (fun g => B ≤ g ∧ g < s) W W := Tch.refl _ _;have hcl0 : Tab W B tb gs1 L (Gs.clrs M2 r c L 0) := by rw [clrs_start];exact q2
       have HC0 := Lib.hid hcl0;clear hqs hTW hRW hMW hrng2 HST2 hM2 q1 q2 hd hD hT7 hR7 hN7 hM7 htp7 hra hrc hz7 hgl hgn hgB HSTEP HRNG HTP1 HTI HINV hcl0;have c2 := HTW.out.box.cell (i := 0) rfl
       gi_wp2_with fail
       clear c2
       gi_loopw [84] (fun x wx => ∃ i0 : Nat,i0 ≤ n ∧ x = .int .i64 i0 ∧ Tch (fun g => B ≤ g ∧ g < s) W wx ∧ Tab wx B tb gs1 L (Gs.clrs M2 r c L i0)) (fun x _ => n - (intOf x).toNat)
       case atStart => exact ⟨0,Nat.zero_le _,rfl,htp0,HC0.out⟩
       case round =>
        clear htp0 HC0;obtain ⟨i0,hi0,rfl,t1,t2⟩ := hrel;have c2 := (t1.row HTW.out.box (by rintro ⟨_,h⟩;omega)).cell (i := 0) rfl;have c6 := (t1.row HRW.out (by rintro ⟨_,h⟩;omega)).cell (i := 0) rfl;have HT1 := Lib.hid t1;have HT2 := Lib.hid t2
        by_cases hlt0 : i0 < n
        ·have a1 : (i0 : Int) < (n : Int) := by omega
         have a0 : (0 : Int) ≤ (i0 : Int) := by omega
         by_cases hir : i0 = r
         ·have hne : ((i0 : Int) != (r : Int)) = false := by simp [hir]
          have HCS : Hid (Tab wr B tb gs1 L (Gs.clrs M2 r c L (i0 + 1))) := by
           have t3 := t2;rw [hir] at t3;show Tab _ _ _ _ _ _;rw [show i0 + 1 = r + 1 by omega,clrs_same];exact t3
          clear t1 t2 hir
          gi_wp2_with fail
          go_roundw
          case rel => exact ⟨i0 + 1,by omega,by go_num,HT1.out,HCS.out⟩
          case measure => simp [intOf];omega
         ·have hne : ((i0 : Int) != (r : Int)) = true := by simp;omega
          have hCL := clear_any B tb tc gs1 L (Gs.clrs M2 r c L i0) i0 r c wr t2 (by rw [HGN.out];exact hlt0) (by rw [HGN.out];omega) hir (by omega) hL (by rw [HGN.out];exact hn) (by rw [HGN.out];exact htc) (by rw [HGN.out];exact rng_clrs HRG2.out) (by have h1 := t1.size;have h2 := HTW.out.box.lt;omega);rw [HGN.out,clrs_next M2 hir] at hCL;have HCL := Lib.hid hCL;have hgi := HGL2.out i0 (by rw [HGN.out];exact hlt0);have HGI := Lib.hid (And.intro (t2.glt (i := i0) (by rw [HGN.out];exact hlt0)).1 hgi);clear t1 t2 hCL hgi hir
          gi_wp2_with fail
          refine ⟨trivial,(callsIn_wide.2 HCL.out).mono ?_⟩;rintro e8 w8 ⟨rfl,ht8,hT8⟩;have HT8 : Hid (Tch (fun g => B ≤ g ∧ g < s) W w8) := HT1.out.trans (ht8.mono (fun g _ e => by rw [e];exact HGI.out));have HB8 := Lib.hid hT8;clear ht8 hT8 c2 c6
          gi_wp2_with fail
          go_roundw
          case rel => exact ⟨i0 + 1,by omega,by go_num,HT8.out,HB8.out⟩
          case measure => simp [intOf];omega
        ·obtain rfl : i0 = n := by omega
         have hRX : RM s B tb tc i0 L w ps (.slice A ps.length cp) gs1 (Gs.clrs M2 r c L i0) wr := HTW.out.turn (t1.mono fun g _ h => h.2) t2 HGN.out (fun i hi => HGL2.out i (by rw [HGN.out];exact hi)) (HTW.out.bel.trans (t1.below (by have := HTW.out.box.lt;omega) (by rintro i hi ⟨h,_⟩;omega)));have hMX := HMW.out.tch t1 (fun g h1 h2 => by have := h2.2;omega) (Nat.le_refl _);rw [HRR.out] at hRX;have HRX := Lib.hid hRX;have HMX := Lib.hid hMX;have HTS9 : Hid (W.heap.size ≤ wr.heap.size) := t1.size;have hsx : s + 1 ≤ (wr.alloc (.cells #[.int .i64 (c : Int)] 3)).heap.size := by have := hRX.box.lt;simp;omega
         clear t1 t2 hRX hMX c2 c6
         gi_wp2_with (refine wpListInU_append_rd rfl (.tmp 96) (.tmp 98) 23 rfl (s + 1) 3 _ (.int .i64 0) 1 8 Tryz.underlying23 rfl rfl rfl rfl rfl (by decide) (.slice A r cp) r (pvs ps) (by rfl) (by have := HRX.out.own;rw [HRR.out] at this;exact this.alloc _) (wr.heap.size + 1) (some ⟨wr.heap.size,0,none⟩) 1 1 [.int .i64 (c : Int)] (by rfl) ⟨rfl,fun _ => ⟨wr.heap.size,0,rfl,Nat.lt_succ_self _,fun j u hu => by rw [Nat.zero_add];match j,hu with | 0,hu => exact (Row.fresh wr 3 [.int .i64 (c : Int)]).cell hu | j + 1,hu => simp at hu⟩⟩ (by intro u hu;simp at hu;rw [hu];rfl) (by unfold maxLen;omega) (by omega) hsx ?_;intro v9 w9 hown9 hgrow9 _)
         have hal : Below wr.heap.size wr (wr.alloc (.cells #[.int .i64 (c : Int)] 3)) := (Below.refl _ _).alloc (Nat.le_refl _) _;have hRA := HRX.out.next hB hal;have hMA := HMX.out.keep (hal.mono (by have := HMX.out;have h1 := HRX.out.tab;have h2 := HTS9.out;omega));have hob : ∀ g,(Value.slice A r cp).ownBlock = some g → s + 1 ≤ g ∧ g < (wr.alloc (.cells #[.int .i64 (c : Int)] 3)).heap.size := fun g hg => hRA.own.lt g hg
         have hown9' : w9.ownsRow (s + 1) 3 1 v9 (ps ++ [c]).length (pvs (ps ++ [c])) := by
          rw [List.length_append,HRR.out,show pvs (ps ++ [c]) = pvs ps ++ [.int .i64 (c : Int)] by simp [pvs]];exact hown9
         obtain ⟨g9,cp9,hv9,_,_⟩ := hown9'.form (by simp);have hM9 := hMA.grownC hgrow9 (fun g hg => own_isc hRA.own hg);have hR9 : RM s B tb tc i0 L w (ps ++ [c]) v9 gs1 (Gs.clrs M2 r c L i0) w9 := ⟨hRA.gl,hRA.glt,hRA.tab.kept hgrow9 (fun g hg => ⟨by have := (hob g hg).1;omega,fun i hi => by have h1 := (hob g hg).1;have h2 := hRA.glt i (by rw [← hRA.gl];exact hi);omega⟩),hRA.box.grown hgrow9 (fun e => by have := (hob _ e.symm).1;omega),hown9',hRA.bel.grown hgrow9 (by have := hRA.bel.size;omega) (fun g hg => by have := (hob g hg).1;omega)⟩;rw [hv9] at hR9;rw [HJ.out,hv9];exact ⟨many - (c + 1),by have := HM.out;omega,c + 1,ps ++ [c],some ⟨g9,0,none⟩,cp9,gs1,_,by omega,rfl,rfl,rfl,rfl,rfl,rfl,hM9.moreU (by have h1 := hgrow9.size;have h2 := HTS9.out;simp at h1;omega),hR9,HST3.out⟩
      case stop =>
       rintro D c q W hD h;exact h.elim
    ·obtain rfl : k = n := by omega
     gi_wp2_with fail
     rw [HJ.out];refine ⟨many - (c + 1),by have := HM.out;omega,c + 1,ps,A,cp,gs,M,by omega,rfl,rfl,rfl,by rw [HRR.out];rfl,rfl,?_,?_,HRa.out,HRED.out.skip (by rw [HRR.out];exact fun i h1 h2 => HZZ.out i h1 h2)⟩
     ·show Value.int .i64 ((c : Int) + 1) = _
      go_num
     ·have := HMa.out
      rw [← HZ1.out] at this;exact this
  ·obtain rfl : c = many := by omega
   gi_wp2_with fail
   refine leaves_marksU (C := wr.heap.size) ds _ HMK.out fun w' hb' hc' => ?_;exact ⟨_,results_tmp_1 rfl _ _,_,_,_,_,rfl,by rw [← HRR.out];exact HRM.out.cells hBs hb' hc',HRED.out⟩
end Go.Proofs.YtifejdpffkeniaaGreatDoor
