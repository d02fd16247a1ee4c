import Derived.Test.YtjcpjhlclpdpjaaGreatS02
set_option linter.unusedVariables false
set_option maxRecDepth 100000
set_option maxHeartbeats 16000000
namespace Go.Proofs.YtjcpjhlclpdpjaaGreat
open Go.RowKit
attribute [local go_sem] Oper.semAt_some
theorem Hs.drw {e : Est} {H : HouseV} {B : Nat} {w w' : World} (h : Hs e H B w) (hb : Drw w w') : Hs e H B w' := h.below (hb.below _)
theorem safe1_any (e : Est) (H : HouseV) (B m b1 b2 : Nat) (w : World) (h : Hs e H B w) (hN : HsN e H) (hm : m < 2 ^ e.H.length) (h1 : w.cell? ⟨b1,0,none⟩ = some (.pointer (some ⟨H.g,0,none⟩))) (h2 : w.cell? ⟨b2,0,none⟩ = some (.int .u64 (m : Int))) (c : Nat) (hc : c < 2 ^ e.H.length) :
  Calls Tryz.prog 42 #[.int .u64 (c : Int),.pointer (some ⟨b1,0,none⟩),.pointer (some ⟨b2,0,none⟩)] w fun r w' => r = .returned (.bool (e.en m c)) ∧ Drw w w' := by
 have HE := Lib.hid (enough_any e H B m c w h hN hm hc)
 clear h hN hm
 go_enter Tryz.func42,Tryz.ntmps42
 go_wp2_with fail
 refine HE.out.mono ?_
 rintro x w1 ⟨rfl,hd⟩
 go_wp2
 go_ret
 exact ⟨rfl,hd⟩
def firstAt (p : Nat → Bool) (l : List Nat) : Int := match l.findIdx? p with | some i => (i : Int) | none => -1
theorem firstAt_hit {p : Nat → Bool} {l : List Nat} {k : Nat} {x : Nat} (hx : l[k]? = some x) (hp : p x = true) (hu : ∀ y ∈ l.take k,p y = false) : firstAt p l = (k : Int) := by
 unfold firstAt
 have : l.findIdx? p = some k := by
  rw [List.findIdx?_eq_some_iff_getElem]
  obtain ⟨hk,hxk⟩ := List.getElem?_eq_some_iff.1 hx
  refine ⟨hk,by rw [hxk];exact hp,fun j hj => ?_⟩
  have := hu l[j] (List.mem_take_iff_getElem.2 ⟨j,by omega,rfl⟩)
  simpa using this
 rw [this]
theorem firstAt_none {p : Nat → Bool} {l : List Nat} (hu : ∀ y ∈ l,p y = false) : firstAt p l = -1 := by
 unfold firstAt
 have : l.findIdx? p = none := by
  rw [List.findIdx?_eq_none_iff]
  exact fun x hx => by simpa using hu x hx
 rw [this]
theorem firstAt_any (p : Nat → Bool) (l : List Nat) : decide (0 ≤ firstAt p l) = l.any p := by
 unfold firstAt
 cases h : l.findIdx? p with
 | none =>
  rw [List.findIdx?_eq_none_iff] at h
  rw [show l.any p = false by simpa using h]
  rfl
 | some i =>
  rw [List.findIdx?_eq_some_iff_getElem] at h
  obtain ⟨hi,h1,_⟩ := h
  rw [show l.any p = true from List.any_eq_true.2 ⟨l[i],List.getElem_mem hi,h1⟩]
  exact decide_eq_true (show (0 : Int) ≤ (i : Int) by omega)
theorem index_any (e : Est) (H : HouseV) (B m b1 b2 : Nat) (w : World) (h : Hs e H B w) (hN : HsN e H) (hm : m < 2 ^ e.H.length) (h1 : w.cell? ⟨b1,0,none⟩ = some (.pointer (some ⟨H.g,0,none⟩))) (h2 : w.cell? ⟨b2,0,none⟩ = some (.int .u64 (m : Int))) :
  Calls Tryz.prog 64 #[.slice H.vA H.vs.length H.vc,.func (.func 42) #[] #[.pointer (some ⟨b1,0,none⟩),.pointer (some ⟨b2,0,none⟩)]] w fun r w' => r = .returned (.int .i64 (firstAt (fun c => e.en m c) H.vs)) ∧ Drw w w' := by
 have HE : Hid (∀ W,Drw w W → ∀ c : Nat,c < 2 ^ e.H.length → Calls Tryz.prog 42 #[.int .u64 (c : Int),.pointer (some ⟨b1,0,none⟩),.pointer (some ⟨b2,0,none⟩)] W fun r w' => r = .returned (.bool (e.en m c)) ∧ Drw W w') := fun W hW c hc =>
  safe1_any e H B m b1 b2 W (h.drw hW) hN hm ((hW.cell _).trans h1) ((hW.cell _).trans h2) c hc
 have HV : Hid (∀ k,k < H.vs.length → ∃ b o v,H.vA = some ⟨b,o,none⟩ ∧ H.vs[k]? = some v ∧ v < 2 ^ e.H.length ∧ ∀ W,Drw w W → W.cell? ⟨b,o + k,none⟩ = some (.int .u64 (v : Int))) := fun k hk => by
  obtain ⟨b,o,e1,hb,hc⟩ := h.v.2 (by omega)
  refine ⟨b,o,H.vs[k],e1,List.getElem?_eq_getElem hk,hN.vs _ (List.getElem_mem hk),fun W hW => ?_⟩
  rw [hW.cell]
  exact hc k _ (by rw [List.getElem?_map,List.getElem?_eq_getElem hk];rfl)
 have hvl := hN.vl
 obtain ⟨vA,hvA⟩ : ∃ x,H.vA = x := ⟨_,rfl⟩
 obtain ⟨vc,hvc⟩ : ∃ x,H.vc = x := ⟨_,rfl⟩
 obtain ⟨n,hn⟩ : ∃ x,H.vs.length = x := ⟨_,rfl⟩
 have HNN := Lib.hid hn
 rw [hvA,hn] at HV
 rw [hvA,hn,hvc]
 rw [hn] at hvl
 clear h hN hm h1 h2 hvA hvc hn
 go_enter Tryz.func64,Tryz.ntmps64
 go_wp2
 go_loopw [8] (fun i wr => Drw w wr ∧ ∃ k : Nat,k ≤ n ∧ i = .int .i64 k ∧ ∀ y ∈ H.vs.take k,e.en m y = false) (fun i _ => n - (intOf i).toNat)
 case atStart => exact ⟨Drw.refl w,0,Nat.zero_le _,rfl,fun y hy => by simp at hy⟩
 case round =>
  obtain ⟨hd,k,hk,rfl,hu⟩ := hrel
  have HU := Lib.hid hu
  clear hu
  by_cases hlt : k < n
  ·have k1 : (k : Int) < (n : Int) := by omega
   have k0 : (0 : Int) ≤ (k : Int) := by omega
   obtain ⟨b,o,v,hA1,hvk,hv2,hcell⟩ := HV.out k hlt
   subst hA1
   have q0 := hcell wr hd
   have HC := Lib.hid (HE.out wr hd v hv2)
   clear hcell
   obtain ⟨T,hT⟩ : ∃ T,e.en m v = T := ⟨_,rfl⟩
   rw [hT] at HC
   cases T with
   | true =>
    have HR : Hid (firstAt (fun c => e.en m c) H.vs = (k : Int)) := firstAt_hit hvk hT HU.out
    clear hT hvk
    go_wp2_with fail
    refine HC.out.mono ?_
    rintro x w1 ⟨rfl,hd1⟩
    have HD1 := Lib.hid (hd.trans hd1)
    clear hd1
    go_wp2
    go_ret
    exact ⟨by rw [HR.out];rfl,HD1.out⟩
   | false =>
    have HU2 : Hid (∀ y ∈ H.vs.take (k + 1),e.en m y = false) := fun y hy => by
     rw [List.take_add_one,hvk,List.mem_append] at hy
     rcases hy with h1 | h1
     ·exact HU.out y h1
     ·obtain rfl : y = v := by simpa using h1
      exact hT
    clear hT hvk
    go_wp2_with fail
    refine HC.out.mono ?_
    rintro x w1 ⟨rfl,hd1⟩
    have HD1 := Lib.hid (hd.trans hd1)
    clear hd1
    go_wp2
    go_roundw
    case rel => exact ⟨HD1.out,k + 1,by omega,by go_num,HU2.out⟩
    case measure => simp [intOf];omega
  ·obtain rfl : k = n := by omega
   have HR : Hid (firstAt (fun c => e.en m c) H.vs = -1) := firstAt_none fun y hy => HU.out y (by rw [List.take_of_length_le (by rw [HNN.out];omega)];exact hy)
   go_wp2
   go_ret
   exact ⟨by rw [HR.out];rfl,hd⟩
theorem contains_any (e : Est) (H : HouseV) (B m b1 b2 : Nat) (w : World) (h : Hs e H B w) (hN : HsN e H) (hm : m < 2 ^ e.H.length) (h1 : w.cell? ⟨b1,0,none⟩ = some (.pointer (some ⟨H.g,0,none⟩))) (h2 : w.cell? ⟨b2,0,none⟩ = some (.int .u64 (m : Int))) :
  Calls Tryz.prog 41 #[.slice H.vA H.vs.length H.vc,.func (.func 42) #[] #[.pointer (some ⟨b1,0,none⟩),.pointer (some ⟨b2,0,none⟩)]] w fun r w' => r = .returned (.bool (H.vs.any fun c => e.en m c)) ∧ Drw w w' := by
 have HI := Lib.hid (index_any e H B m b1 b2 w h hN hm h1 h2)
 have hR := firstAt_any (fun c => e.en m c) H.vs
 obtain ⟨I,hI⟩ : ∃ I,firstAt (fun c => e.en m c) H.vs = I := ⟨_,rfl⟩
 rw [hI] at hR HI
 have HR := Lib.hid hR
 clear h hN hm h1 h2 hR hI
 go_enter Tryz.func41,Tryz.ntmps41
 go_wp2_with fail
 refine HI.out.mono ?_
 rintro x w1 ⟨rfl,hd⟩
 go_wp2
 go_ret
 exact ⟨by rw [← HR.out];rfl,hd⟩
theorem safe_any (e : Est) (H : HouseV) (m : Nat) (w : World) (h : Hs e H w.heap.size w) (hN : HsN e H) (hm : m < 2 ^ e.H.length) :
  Calls Tryz.prog 18 #[.pointer (some ⟨H.g,0,none⟩),.int .u64 (m : Int)] w fun r w' => r = .returned (.bool (e.sf H.vs m)) ∧ Below w.heap.size w w' := by
 have hB := ((Below.refl w.heap.size w).alloc (Nat.le_refl _) (.cells #[.pointer (some ⟨H.g,0,none⟩)] 87)).alloc (by simp) (.cells #[.int .u64 (m : Int)] 45)
 have hs : ((w.alloc (.cells #[.pointer (some ⟨H.g,0,none⟩)] 87)).alloc (.cells #[.int .u64 (m : Int)] 45)).heap.size = w.heap.size + 2 := by simp
 have c1 : ((w.alloc (.cells #[.pointer (some ⟨H.g,0,none⟩)] 87)).alloc (.cells #[.int .u64 (m : Int)] 45)).cell? ⟨w.heap.size,0,none⟩ = some (.pointer (some ⟨H.g,0,none⟩)) := by
  rw [World.cell?_alloc_lt _ _ _ (by simp)]
  rw [cell_of_row _ w.heap.size 0 _ _ _ (heap_alloc_new w _)];rfl
 have c2 : ((w.alloc (.cells #[.pointer (some ⟨H.g,0,none⟩)] 87)).alloc (.cells #[.int .u64 (m : Int)] 45)).cell? ⟨w.heap.size + 1,0,none⟩ = some (.int .u64 (m : Int)) := by
  have := heap_alloc_new (w.alloc (.cells #[.pointer (some ⟨H.g,0,none⟩)] 87)) (.cells #[.int .u64 (m : Int)] 45)
  rw [show (w.alloc (.cells #[.pointer (some ⟨H.g,0,none⟩)] 87)).heap.size = w.heap.size + 1 by simp] at this
  rw [cell_of_row _ (w.heap.size + 1) 0 _ _ _ this];rfl
 have h2 := h.below hB
 have q4 := h2.c4
 have HC := Lib.hid (contains_any e H w.heap.size m w.heap.size (w.heap.size + 1) _ h2 hN hm c1 c2)
 obtain ⟨A,hA⟩ : ∃ A,(H.vs.any fun c => e.en m c) = A := ⟨_,rfl⟩
 have HSF : Hid (e.sf H.vs m = !A) := by show _ = _;rw [← hA];rfl
 rw [hA] at HC
 have HB := Lib.hid hB
 clear h hN hm hB h2 hA
 go_enter Tryz.func18,Tryz.ntmps18
 go_wp2_with fail
 refine HC.out.mono ?_
 rintro x w1 ⟨rfl,hd⟩
 go_wp2
 go_ret
 exact ⟨by rw [HSF.out];rfl,HB.out.trans (hd.below _)⟩
end Go.Proofs.YtjcpjhlclpdpjaaGreat
namespace Go.Proofs.YtjcpjhlclpdpjaaGreat
open Go.RowKit
attribute [local go_sem] Oper.semAt_some
theorem heirs_all {w : World} {B : Nat} {e : Est} (h : e.ok w B) (h0 : 0 < e.H.length) : ∃ b o,e.hA = some ⟨b,o,none⟩ ∧ b < B ∧ ∀ W,Below B w W → ∀ k,k < e.H.length →
  W.cell? ⟨b,o + k * 3,none⟩ = some (.int .i64 (e.gh k).p) ∧ W.cell? ⟨b,o + k * 3 + 1,none⟩ = some (.int .i64 (e.gh k).j) ∧ W.cell? ⟨b,o + k * 3 + 2,none⟩ = some (.int .i64 (e.gh k).l) := by
 obtain ⟨b,o,e1,hb,_⟩ := heir_at h h0
 refine ⟨b,o,e1,hb,fun W hW k hk => ?_⟩
 obtain ⟨b',o',e2,_,q0,q1,q2⟩ := heir_at (h.below hW) hk
 rw [e1] at e2
 injection e2 with e2
 injection e2 with e3 e4
 subst e3;subst e4
 exact ⟨q0,q1,q2⟩
def cmpI (x y : Int) : Int := if x < y then -1 else if y < x then 1 else 0
theorem isNaN_any (x : Int) (w : World) : Calls Tryz.prog 89 #[.int .i64 x] w fun r w' => r = .returned (.bool false) ∧ w = w' := by
 go_enter Tryz.func89,Tryz.ntmps89
 go_wp2
 go_ret
 exact ⟨by simp,rfl⟩
theorem compare_any (x y : Int) (w : World) : Calls Tryz.prog 61 #[.int .i64 x,.int .i64 y] w fun r w' => r = .returned (.int .i64 (cmpI x y)) ∧ w = w' := by
 rcases Int.lt_trichotomy x y with h | h | h
 ·have hr : Hid (cmpI x y = -1) := by show _ = _;unfold cmpI;rw [if_pos h]
  go_enter Tryz.func61,Tryz.ntmps61
  go_wp2_with (first | (go_at_call 89;refine (isNaN_any _ _).mono ?_;rintro e w' ⟨rfl,rfl⟩) | fail)
  go_ret
  exact ⟨by rw [hr.out];rfl,rfl⟩
 ·subst h
  have hr : Hid (cmpI x x = 0) := by show _ = _;unfold cmpI;simp
  go_enter Tryz.func61,Tryz.ntmps61
  go_wp2_with (first | (go_at_call 89;refine (isNaN_any _ _).mono ?_;rintro e w' ⟨rfl,rfl⟩) | fail)
  go_ret
  exact ⟨by rw [hr.out];rfl,rfl⟩
 ·have hr : Hid (cmpI x y = 1) := by show _ = _;unfold cmpI;rw [if_neg (by omega),if_pos h]
  have h' : ¬ x < y := by omega
  go_enter Tryz.func61,Tryz.ntmps61
  go_wp2_with (first | (go_at_call 89;refine (isNaN_any _ _).mono ?_;rintro e w' ⟨rfl,rfl⟩) | fail)
  go_ret
  exact ⟨by rw [hr.out];rfl,rfl⟩
theorem set1_any (p j l q : Int) (w : World) : Calls Tryz.prog 60 #[.agg #[.int .i64 p,.int .i64 j,.int .i64 l],.int .i64 q] w fun r w' => r = .returned (.int .i64 (cmpI p q)) ∧ Below w.heap.size w w' := by
 have hB : Hid (Below w.heap.size w (w.alloc (.cells #[.int .i64 p,.int .i64 j,.int .i64 l] 79))) := (Below.refl _ _).alloc (Nat.le_refl _) _
 go_enter Tryz.func60,Tryz.ntmps60
 go_wp2_with (first | (go_at_call 61;refine (compare_any _ _ _).mono ?_;rintro e w' ⟨rfl,rfl⟩) | fail)
 go_ret
 exact ⟨rfl,hB.out⟩
def Est.inc (e : Est) : Prop := ∀ i j,i < j → j < e.H.length → (e.gh i).p < (e.gh j).p
theorem bsearch_any (e : Est) (k : Nat) (w : World) (h : e.ok w w.heap.size) (hn : e.H.length ≤ 10) (hi : e.inc) (hk : k < e.H.length) :
  Calls Tryz.prog 59 #[.slice e.hA e.H.length e.hc,.int .i64 (e.gh k).p,.func (.func 60) #[] #[]] w fun r w' => r = .returned (.tuple #[.int .i64 (k : Int),.bool true]) ∧ Below w.heap.size w w' := by
 obtain ⟨b,o,hA,hb,hall⟩ := heirs_all h (by omega)
 obtain ⟨N,hN⟩ : ∃ N,e.H.length = N := ⟨_,rfl⟩
 have HI : Hid (∀ i j,i < j → j < N → (e.gh i).p < (e.gh j).p) := by rw [← hN];exact hi
 rw [hN] at hall hn hk
 rw [hN,hA]
 have HAL := Lib.hid hall
 obtain ⟨Q,hQ⟩ : ∃ Q,(e.gh k).p = Q := ⟨_,rfl⟩
 rw [hQ]
 have HQ := Lib.hid hQ
 obtain ⟨hc,ehc⟩ : ∃ x,e.hc = x := ⟨_,rfl⟩
 have hcl : N ≤ hc := by rw [← ehc,← hN];exact h.hc
 rw [ehc]
 clear h hi hall hQ hN hA ehc
 go_enter Tryz.func59,Tryz.ntmps59
 go_wp2
 go_loopw [9,10] (fun x y wr => Below w.heap.size w wr ∧ ∃ i j : Nat,i ≤ k ∧ k ≤ j ∧ j ≤ N ∧ (i < j ∨ j < N) ∧ x = .int .i64 i ∧ y = .int .i64 j) (fun x y _ => (intOf y).toNat - (intOf x).toNat)
 case atStart => exact ⟨Below.refl _ _,0,N,Nat.zero_le _,by omega,Nat.le_refl _,by omega,rfl,rfl⟩
 case round =>
  obtain ⟨hB,i,j,hik,hkj,hjn,hor,rfl,rfl⟩ := hrel
  by_cases hlt : i < j
  ·obtain ⟨M,hM⟩ : ∃ M,(i + j) / 2 = M := ⟨_,rfl⟩
   have m1 : i ≤ M := by omega
   have m2 : M < j := by omega
   obtain ⟨x0,x1,x2⟩ := HAL.out _ hB M (by omega)
   obtain ⟨P,hP⟩ : ∃ P,(e.gh M).p = P := ⟨_,rfl⟩
   rw [hP] at x0
   have k1 : (i : Int) < (j : Int) := by omega
   have k2 : ((i : Int) + (j : Int)) / 2 = (M : Int) := by omega
   have k3 : (0 : Int) ≤ (M : Int) := by omega
   have k4 : (M : Int) < (N : Int) := by omega
   have HP : Hid ((P < Q ↔ M < k)) := by
    show _ ↔ _
    rw [← hP,← HQ.out]
    constructor
    ·intro h1
     rcases Nat.lt_trichotomy M k with h2 | h2 | h2
     ·exact h2
     ·subst h2;omega
     ·have := HI.out k M h2 (by omega);omega
    ·intro h1;exact HI.out M k h1 hk
   clear hP
   by_cases hpq : P < Q
   ·have hc1 : cmpI P Q = -1 := by unfold cmpI;rw [if_pos hpq]
    have hmk := HP.out.1 hpq
    go_wp2_with fail
    refine (set1_any _ _ _ _ _).mono ?_
    rintro x w1 ⟨rfl,hb1⟩
    rw [hc1]
    have HB1 : Hid (Below w.heap.size w w1) := hB.trans (hb1.mono hB.size)
    clear hb1 hc1
    go_wp2
    go_roundw
    case rel => exact ⟨HB1.out,M + 1,j,by omega,by omega,by omega,by omega,by go_num,rfl⟩
    case measure => simp [intOf];omega
   ·have hc1 : ¬ (cmpI P Q < 0) := by unfold cmpI;rw [if_neg hpq];split <;> omega
    have hmk : ¬ M < k := fun h => hpq (HP.out.2 h)
    obtain ⟨C,hC⟩ : ∃ C,cmpI P Q = C := ⟨_,rfl⟩
    rw [hC] at hc1
    go_wp2_with fail
    refine (set1_any _ _ _ _ _).mono ?_
    rintro x w1 ⟨rfl,hb1⟩
    rw [hC]
    have HB1 : Hid (Below w.heap.size w w1) := hB.trans (hb1.mono hB.size)
    clear hb1 hC
    go_wp2
    go_roundw
    case rel => exact ⟨HB1.out,i,M,by omega,by omega,by omega,by omega,rfl,rfl⟩
    case measure => simp [intOf];omega
  ·obtain rfl : i = k := by omega
   obtain rfl : j = i := by omega
   obtain ⟨x0,x1,x2⟩ := HAL.out _ hB j hk
   rw [HQ.out] at x0
   have k1 : (j : Int) < (N : Int) := by omega
   have k3 : (0 : Int) ≤ (j : Int) := by omega
   have hc1 : cmpI Q Q = 0 := by unfold cmpI;simp
   go_wp2_with fail
   refine (set1_any _ _ _ _ _).mono ?_
   rintro x w1 ⟨rfl,hb1⟩
   rw [hc1]
   have HB1 : Hid (Below w.heap.size w w1) := hB.trans (hb1.mono hB.size)
   clear hb1 hc1
   go_wp2
   go_ret2
   exact ⟨rfl,HB1.out⟩
end Go.Proofs.YtjcpjhlclpdpjaaGreat
namespace Go.Proofs.YtjcpjhlclpdpjaaGreat
open Go.RowKit
attribute [local go_sem] Oper.semAt_some
def orPow (l : List Nat) : Nat := l.foldl (fun m i => m ||| 2 ^ i) 0
theorem orPow_snoc (l : List Nat) (i : Nat) : orPow (l ++ [i]) = orPow l ||| 2 ^ i := by simp [orPow,List.foldl_append]
theorem orPow_lt {l : List Nat} {n : Nat} (h : ∀ i ∈ l,i < n) : orPow l < 2 ^ n := by
 unfold orPow
 have : ∀ (l : List Nat) (m : Nat),m < 2 ^ n → (∀ i ∈ l,i < n) → l.foldl (fun m i => m ||| 2 ^ i) m < 2 ^ n := by
  intro l
  induction l with
  | nil => intro m hm _;exact hm
  | cons a l ih =>
   intro m hm hl
   exact ih _ (Nat.or_lt_two_pow hm (Nat.pow_lt_pow_right (by omega) (hl a (by simp)))) fun i hi => hl i (by simp [hi])
 exact this l 0 (Nat.pow_pos (by omega)) h
def lastOf (d : List Int) (k : Nat) : Int := if k = 0 then -1 else d.getD (k - 1) 0
theorem shl_all : ∀ I < 6,IntKind.u64.wrap (2 ^ min I 64) = ((2 ^ I : Nat) : Int) := by decide +kernel
structure Est.Pers (e : Est) : Prop where
 n : e.H.length ≤ 6
 inc : e.inc
 pos : ∀ k,k < e.H.length → 0 ≤ (e.gh k).p
theorem set_any (e : Est) (r : RI) (g : Nat) (w : World) (h : e.ok w w.heap.size) (hr : r.ok w w.heap.size) (hP : e.Pers) (hH : e.isH r.d r.d.length) (hg : g < w.heap.size) (hc : w.cell? ⟨g,0,none⟩ = some (.slice e.hA e.H.length e.hc)) :
  Calls Tryz.prog 34 #[.pointer (some ⟨g,0,none⟩),r.cell] w fun x w' => x = .returned (.tuple #[.int .u64 ((orPow (r.d.map e.ix) : Nat) : Int),.bool true]) ∧ Below w.heap.size w w' := by
 have hgood := hH.good
 have HBS : Hid (∀ W,Below w.heap.size w W → ∀ p ∈ r.d,Calls Tryz.prog 59 #[.slice e.hA e.H.length e.hc,.int .i64 p,.func (.func 60) #[] #[]] W fun x w' => x = .returned (.tuple #[.int .i64 ((e.ix p : Nat) : Int),.bool true]) ∧ Below W.heap.size W w') := fun W hW p hp => by
  have h1 := hgood p hp
  rcases idx_range e p with h2 | h2
  ·omega
  ·have := bsearch_any e (e.ix p) W ((h.below hW).more hW.size) (by have := hP.n;omega) hP.inc (by unfold Est.ix;omega)
   rw [h2.2.2] at this
   exact this
 have HIX : Hid (∀ p ∈ r.d,e.ix p < e.H.length) := fun p hp => by have := hgood p hp;unfold Est.ix;omega
 have HLST : Hid (∀ j,j < r.d.length → lastOf r.d j < r.d.getD j 0) := fun j hj => by
  unfold lastOf
  split
  ·subst j
   have h1 := hgood (r.d.getD 0 0) (by rw [List.getD_eq_getElem?_getD,List.getElem?_eq_getElem hj];exact List.getElem_mem hj)
   rcases idx_range e (r.d.getD 0 0) with h2 | h2
   ·omega
   ·have := hP.pos (e.ix (r.d.getD 0 0)) (by unfold Est.ix;omega)
    rw [h2.2.2] at this
    omega
  ·exact (hH j hj).2 (by omega)
 have h6 := hP.n
 have HN6 := Lib.hid h6
 have HC : Hid (∀ W,Below w.heap.size w W → W.cell? ⟨g,0,none⟩ = some (.slice e.hA e.H.length e.hc)) := fun W hW => (hW.cell (p := ⟨g,0,none⟩) hg).trans hc
 obtain ⟨A,C,d⟩ := r
 have hnc : d.length ≤ C := hr.2.1
 have hcm : C ≤ maxLen := hr.2.2
 unfold maxLen at hcm
 have HH := Lib.hid hr
 show Calls _ _ #[_,.slice A d.length C] _ _
 obtain ⟨n,hnn⟩ : ∃ n,d.length = n := ⟨_,rfl⟩
 have HBS : Hid (∀ W,Below w.heap.size w W → ∀ p ∈ d,Calls Tryz.prog 59 #[.slice e.hA e.H.length e.hc,.int .i64 p,.func (.func 60) #[] #[]] W fun x w' => x = .returned (.tuple #[.int .i64 ((e.ix p : Nat) : Int),.bool true]) ∧ Below W.heap.size W w') := HBS
 have HIX : Hid (∀ p ∈ d,e.ix p < e.H.length) := HIX
 have HLST : Hid (∀ j,j < d.length → lastOf d j < d.getD j 0) := HLST
 rw [hnn] at hnc ⊢ HLST
 have HN := Lib.hid hnn
 obtain ⟨hA,ehA⟩ : ∃ x,e.hA = x := ⟨_,rfl⟩
 obtain ⟨hc',ehc⟩ : ∃ x,e.hc = x := ⟨_,rfl⟩
 obtain ⟨N,eN⟩ : ∃ x,e.H.length = x := ⟨_,rfl⟩
 rw [ehA,ehc,eN] at HBS HC
 rw [eN] at HIX HN6
 clear hr h hnn hc hH hP hgood h6 ehA ehc eN
 go_enter Tryz.func34,Tryz.ntmps34
 go_wp2
 go_loopw [4,6,13] (fun x y i wr => Below w.heap.size w wr ∧ ∃ k : Nat,k ≤ n ∧ i = .int .i64 k ∧ x = .int .u64 ((orPow ((d.take k).map e.ix) : Nat) : Int) ∧ y = .int .i64 (lastOf d k)) (fun _ _ i _ => n - (intOf i).toNat)
 case atStart => exact ⟨Below.refl _ _,0,Nat.zero_le _,rfl,rfl,rfl⟩
 case round =>
  obtain ⟨hB,k,hk,rfl,rfl,rfl⟩ := hrel
  by_cases hlt : k < n
  ·have k1 : (k : Int) < (n : Int) := by omega
   have k0 : (0 : Int) ≤ (k : Int) := by omega
   obtain ⟨b,o,hA1,hb,hall⟩ := HH.out.allAt (show 0 < d.length by rw [HN.out];omega)
   change A = _ at hA1
   subst hA1
   have q0 := hall _ hB k (by show k < d.length;rw [HN.out];exact hlt)
   change _ = some (Value.int .i64 (d.getD k 0)) at q0
   have q1 := HC.out _ hB
   have hl := HLST.out k hlt
   obtain ⟨P,hP⟩ : ∃ P,d.getD k 0 = P := ⟨_,rfl⟩
   obtain ⟨L,hL⟩ : ∃ L,lastOf d k = L := ⟨_,rfl⟩
   rw [hP] at q0
   rw [hP,hL] at hl
   rw [hL]
   have hPd : d[k]? = some P := by rw [← hP,List.getD_eq_getElem?_getD,List.getElem?_eq_getElem (by rw [HN.out];exact hlt)];rfl
   have hPm : P ∈ d := List.mem_of_getElem? hPd
   have hS := HBS.out _ hB P hPm
   have hI := HIX.out P hPm
   have HT : Hid (orPow ((d.take (k + 1)).map e.ix) = orPow ((d.take k).map e.ix) ||| 2 ^ e.ix P) := by
    show _ = _
    rw [List.take_add_one,hPd,List.map_append]
    exact orPow_snoc _ _
   have hX := orPow_lt (l := (d.take k).map e.ix) (n := N) fun i hi => by
    obtain ⟨p,hp,rfl⟩ := List.mem_map.1 hi
    exact HIX.out p (List.mem_of_mem_take hp)
   have hp6 : 2 ^ N ≤ 64 := pow_le64 HN6.out
   obtain ⟨I,hII⟩ : ∃ I,e.ix P = I := ⟨_,rfl⟩
   obtain ⟨X,hXX⟩ : ∃ X,orPow ((d.take k).map e.ix) = X := ⟨_,rfl⟩
   rw [hII] at hS hI HT
   rw [hXX] at HT hX
   rw [hXX]
   have hor := or_bits_all X (by omega) (2 ^ I) (Nat.lt_of_lt_of_le (Nat.pow_lt_pow_right (by omega) hI) hp6)
   have HS := Lib.hid hS
   have HDP : Hid (d.getD k 0 = P) := hP
   have nle : ¬ P ≤ L := by omega
   clear hS hII hXX hPd hPm hP hall hL
   go_wp2_with fail
   refine HS.out.mono ?_
   rintro x w1 ⟨rfl,hb1⟩
   have HB1 : Hid (Below w.heap.size w w1) := hB.trans (hb1.mono hB.size)
   clear hb1
   have hsh := shl_all I (by have := HN6.out;omega)
   obtain ⟨T,hTT⟩ : ∃ T,2 ^ I = T := ⟨_,rfl⟩
   rw [hTT] at hsh hor HT
   clear hTT
   go_wp2
   go_roundw
   case rel => exact ⟨HB1.out,k + 1,by omega,by go_num,by rw [HT.out],by unfold lastOf;rw [if_neg (by omega),Nat.add_sub_cancel,HDP.out]⟩
   case measure => simp [intOf];omega
  ·obtain rfl : k = n := by omega
   go_wp2
   go_ret2
   exact ⟨by rw [List.take_of_length_le (by rw [HN.out];omega)];rfl,hB⟩
theorem enter1_any (e : Est) (r : RI) (g : Nat) (b o : Nat) (w : World) (h : e.ok w w.heap.size) (hr : r.ok w w.heap.size) (hP : e.Pers) (hH : e.isH r.d r.d.length) (hg : g < w.heap.size) (hc : w.cell? ⟨g,0,none⟩ = some (.slice e.hA e.H.length e.hc))
  (hq : b < w.heap.size) (hv : w.cell? ⟨b,o,none⟩ = some (.int .u64 0)) (hf : w.frozen? ⟨b,o,none⟩ = false) :
  Calls Tryz.prog 33 #[.pointer (some ⟨b,o,none⟩),r.cell,.pointer (some ⟨g,0,none⟩)] w fun x w' => x = .returned (.bool true) ∧ ∃ w1,Below w.heap.size w w1 ∧ w' = w1.setCell ⟨b,o,none⟩ (.int .u64 ((orPow (r.d.map e.ix) : Nat) : Int)) := by
 have HS := Lib.hid (set_any e r g w h hr hP hH hg hc)
 obtain ⟨RC,hRC⟩ : ∃ RC,r.cell = RC := ⟨_,rfl⟩
 rw [hRC] at HS ⊢
 obtain ⟨X,hX⟩ : ∃ X,orPow (r.d.map e.ix) = X := ⟨_,rfl⟩
 rw [hX] at HS ⊢
 clear h hr hP hH hRC hX hc
 go_enter Tryz.func33,Tryz.ntmps33
 go_wp2_with fail
 refine HS.out.mono ?_
 rintro x w1 ⟨rfl,hb1⟩
 have f0 := (hb1.frozen (p := ⟨b,o,none⟩) hq).trans hf
 have q0 := (hb1.cell (p := ⟨b,o,none⟩) hq).trans hv
 go_wp2
 go_ret
 exact ⟨rfl,w1,hb1,rfl⟩
end Go.Proofs.YtjcpjhlclpdpjaaGreat
