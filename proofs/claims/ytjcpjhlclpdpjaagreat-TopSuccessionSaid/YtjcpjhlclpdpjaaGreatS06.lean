import Derived.Deep.RegionHeld
import Derived.Maps.OwnIn
import Derived.Maps.OwnSet
import Derived.OrdersHeld
import Derived.OrdersIn
import Derived.RangeFuncBox
import Derived.RangeFuncLeaves
import Derived.RangeFuncNested
import Derived.Test.YtjcpjhlclpdpjaaGreatS05
import Derived.Test.YtjcpjhlclpdpjaaGreatS01
set_option linter.unusedVariables false
set_option maxRecDepth 100000
set_option maxHeartbeats 16000000
namespace Go.Proofs.YtjcpjhlclpdpjaaGreat
def ltE (x y : Ent) : Prop := x.c < y.c ∨ (x.c = y.c ∧ x.s < y.s)
theorem lessE_iff (x y : Ent) : lessE x y = true ↔ ltE x y := by simp [lessE,ltE]
theorem lessE_no (x y : Ent) : lessE x y = false ↔ ¬ ltE x y := by rw [← lessE_iff];simp
theorem nlt_trans {x y z : Ent} (h : ¬ ltE y x) (k : ¬ ltE z y) : ¬ ltE z x := by unfold ltE at *;omega
theorem lt_nlt {x y : Ent} (h : ltE x y) : ¬ ltE y x := by unfold ltE at *;omega
theorem swp_get (l : List Ent) {i k : Nat} (hi : i < l.length) (hk : k < l.length) (j : Nat) : (swp l i k).getD j dE = if j = k then l.getD i dE else if j = i then l.getD k dE else l.getD j dE := by
 unfold swp
 simp only [List.getD_eq_getElem?_getD]
 rw [List.getElem?_set]
 by_cases h1 : k = j
 ·subst h1;simp [hk]
 ·rw [if_neg h1,if_neg (show ¬ j = k from fun e => h1 e.symm),List.getElem?_set]
  by_cases h2 : i = j
  ·subst h2;simp [hi]
  ·rw [if_neg h2,if_neg (show ¬ j = i from fun e => h2 e.symm)]
theorem mem_getD {l : List Ent} {x : Ent} : x ∈ l ↔ ∃ j,j < l.length ∧ l.getD j dE = x := by
 rw [List.mem_iff_getElem]
 constructor
 ·rintro ⟨j,hj,rfl⟩
  exact ⟨j,hj,by rw [List.getD_eq_getElem?_getD,List.getElem?_eq_getElem hj];rfl⟩
 ·rintro ⟨j,hj,rfl⟩
  exact ⟨j,hj,by rw [List.getD_eq_getElem?_getD,List.getElem?_eq_getElem hj];rfl⟩
theorem swp_mem (l : List Ent) {i k : Nat} (hi : i < l.length) (hk : k < l.length) (x : Ent) : x ∈ swp l i k ↔ x ∈ l := by
 rw [mem_getD,mem_getD,swp_len]
 constructor
 ·rintro ⟨j,hj,e⟩
  rw [swp_get l hi hk] at e
  split at e
  ·exact ⟨i,hi,e⟩
  ·split at e
   ·exact ⟨k,hk,e⟩
   ·exact ⟨j,hj,e⟩
 ·rintro ⟨j,hj,e⟩
  by_cases h1 : j = k
  ·refine ⟨i,hi,?_⟩
   rw [swp_get l hi hk]
   by_cases h2 : i = k
   ·rw [if_pos h2,← e,h1,h2]
   ·rw [if_neg h2,if_pos rfl,← e,h1]
  ·by_cases h2 : j = i
   ·exact ⟨k,hk,by rw [swp_get l hi hk,if_pos rfl,← e,h2]⟩
   ·exact ⟨j,hj,by rw [swp_get l hi hk,if_neg h1,if_neg h2,e]⟩
def Heap (l : List Ent) (n : Nat) : Prop := ∀ k,0 < k → k < n → ¬ ltE (l.getD k dE) (l.getD ((k - 1) / 2) dE)
def HeapE (l : List Ent) (n j : Nat) : Prop := (∀ k,0 < k → k < n → k ≠ j → ¬ ltE (l.getD k dE) (l.getD ((k - 1) / 2) dE)) ∧ ∀ k,0 < k → k < n → (k - 1) / 2 = j → 0 < j → ¬ ltE (l.getD k dE) (l.getD ((j - 1) / 2) dE)
def HeapD (l : List Ent) (n i : Nat) : Prop := (∀ k,0 < k → k < n → (k - 1) / 2 ≠ i → ¬ ltE (l.getD k dE) (l.getD ((k - 1) / 2) dE)) ∧ ∀ k,0 < k → k < n → (k - 1) / 2 = i → 0 < i → ¬ ltE (l.getD k dE) (l.getD ((i - 1) / 2) dE)
theorem HeapE.done {l : List Ent} {n j : Nat} (h : HeapE l n j) (hj : j = 0 ∨ ¬ ltE (l.getD j dE) (l.getD ((j - 1) / 2) dE)) : Heap l n := fun k h0 hk => by
 by_cases e : k = j
 ·subst e
  rcases hj with hj | hj
  ·omega
  ·exact hj
 ·exact h.1 k h0 hk e
theorem HeapE.up {l : List Ent} {n j : Nat} (h : HeapE l n j) (hn : n ≤ l.length) (hj : 0 < j) (hjn : j < n) (hlt : ltE (l.getD j dE) (l.getD ((j - 1) / 2) dE)) : HeapE (swp l ((j - 1) / 2) j) n ((j - 1) / 2) := by
 obtain ⟨i,hi⟩ : ∃ i,(j - 1) / 2 = i := ⟨_,rfl⟩
 rw [hi] at hlt ⊢
 have hij : i < j := by omega
 have hil : i < l.length := by omega
 have hjl : j < l.length := by omega
 have g := swp_get l hil hjl
 refine ⟨fun k h0 hk hne => ?_,fun k h0 hk hp hi0 => ?_⟩
 ·rw [g k,g ((k - 1) / 2)]
  by_cases e : k = j
  ·rw [if_pos e,e,hi,if_neg (by omega),if_pos rfl]
   exact lt_nlt hlt
  ·rw [if_neg e,if_neg hne]
   by_cases e1 : (k - 1) / 2 = j
   ·rw [if_pos e1]
    have := h.2 k h0 hk e1 hj
    rwa [hi] at this
   ·rw [if_neg e1]
    have h3 := h.1 k h0 hk e
    by_cases e2 : (k - 1) / 2 = i
    ·rw [if_pos e2]
     rw [e2] at h3
     exact nlt_trans (lt_nlt hlt) h3
    ·rw [if_neg e2];exact h3
 ·have h1 := h.1 i hi0 (by omega) (by omega)
  rw [g k,g ((i - 1) / 2),if_neg (by omega : (i - 1) / 2 ≠ j),if_neg (by omega : (i - 1) / 2 ≠ i),if_neg (by omega : k ≠ i)]
  by_cases e : k = j
  ·rw [if_pos e];exact h1
  ·rw [if_neg e]
   have h2 := h.1 k h0 hk e
   rw [hp] at h2
   exact nlt_trans h1 h2
theorem HeapE.push {l : List Ent} {x : Ent} (h : Heap l l.length) : HeapE (l ++ [x]) (l.length + 1) l.length := by
 have g : ∀ k,k < l.length → (l ++ [x]).getD k dE = l.getD k dE := fun k hk => by
  rw [List.getD_eq_getElem?_getD,List.getElem?_append_left hk,List.getD_eq_getElem?_getD]
 refine ⟨fun k h0 hk hne => ?_,fun k h0 hk hp hj => by omega⟩
 rw [g k (by omega),g _ (by omega)]
 exact h k h0 (by omega)
theorem HeapD.done {l : List Ent} {n i : Nat} (h : HeapD l n i) (hc : ∀ k,0 < k → k < n → (k - 1) / 2 = i → ¬ ltE (l.getD k dE) (l.getD i dE)) : Heap l n := fun k h0 hk => by
 by_cases e : (k - 1) / 2 = i
 ·rw [e];exact hc k h0 hk e
 ·exact h.1 k h0 hk e
theorem HeapD.down {l : List Ent} {n i j : Nat} (h : HeapD l n i) (hn : n ≤ l.length) (hj : j = 2 * i + 1 ∨ j = 2 * i + 2) (hjn : j < n) (hlt : ltE (l.getD j dE) (l.getD i dE))
  (hmin : ∀ k,0 < k → k < n → (k - 1) / 2 = i → ¬ ltE (l.getD k dE) (l.getD j dE)) : HeapD (swp l i j) n j := by
 have hil : i < l.length := by omega
 have hjl : j < l.length := by omega
 have hpj : (j - 1) / 2 = i := by omega
 have g := swp_get l hil hjl
 refine ⟨fun k h0 hk hne => ?_,fun k h0 hk hp hj0 => ?_⟩
 ·rw [g k,g ((k - 1) / 2)]
  by_cases e : k = j
  ·rw [if_pos e,e,hpj,if_neg (by omega),if_pos rfl]
   exact lt_nlt hlt
  ·rw [if_neg e,if_neg hne]
   by_cases e1 : k = i
   ·rw [if_pos e1,e1,if_neg (by omega)]
    have := h.2 j (by omega) hjn hpj (by omega)
    exact this
   ·rw [if_neg e1]
    by_cases e2 : (k - 1) / 2 = i
    ·rw [if_pos e2];exact hmin k h0 hk e2
    ·rw [if_neg e2];exact h.1 k h0 hk e2
 ·rw [g k,hpj,g i,if_neg (by omega : k ≠ j),if_neg (by omega : k ≠ i),if_neg (by omega : i ≠ j),if_pos rfl]
  have := h.1 k h0 hk (by omega)
  rwa [hp] at this
theorem HeapD.pop {l : List Ent} {n : Nat} (h : Heap l (n + 1)) (hn : l.length = n + 1) : HeapD (swp l 0 n) n 0 := by
 have g := swp_get l (i := 0) (k := n) (by omega) (by omega)
 refine ⟨fun k h0 hk hne => ?_,fun k h0 hk hp hj0 => by omega⟩
 rw [g k,g ((k - 1) / 2),if_neg (by omega),if_neg (by omega),if_neg (by omega),if_neg (by omega)]
 exact h k h0 (by omega)
theorem Heap.least {l : List Ent} {n : Nat} (h : Heap l n) : ∀ k,k < n → ¬ ltE (l.getD k dE) (l.getD 0 dE) := by
 intro k
 induction k using Nat.strongRecOn with
 | _ k ih =>
  intro hk
  rcases Nat.eq_zero_or_pos k with rfl | h0
  ·unfold ltE;omega
  ·exact nlt_trans (ih ((k - 1) / 2) (by omega) (by omega)) (h k h0 hk)
theorem Heap.nil : Heap [] 0 := fun k h0 hk => by omega
end Go.Proofs.YtjcpjhlclpdpjaaGreat
namespace Go.Proofs.YtjcpjhlclpdpjaaGreat
open Go.RowKit
attribute [local go_sem] Oper.semAt_some
theorem Chg.qm {ex : Nat → Prop} {a b : World} {q g cap : Nat} {l : List Ent} (h : Chg ex a b) (hr : Qm a q g cap l) (hq : ¬ ex q) (hx : ¬ ex g) : Qm b q g cap l := ⟨h.row hr.ptr hq,h.qr hr.row hx,hr.ne⟩
theorem Qm.below {a b : World} {q g cap : Nat} {l : List Ent} (hr : Qm a q g cap l) (h : Below a.heap.size a b) : Qm b q g cap l := (Chg.of_below (ex := fun _ => False) h).qm hr (fun h => h) (fun h => h)
theorem Qm.swap {a b : World} {q g cap : Nat} {l l' : List Ent} (hr : Qm a q g cap l) (h : a.grownBy b (some g)) (hl : l'.length = l.length) (hq : QR b g cap l') : Qm b q g cap l' := ⟨by rw [hl];exact hr.ptr.grown h (fun e => hr.ne (Option.some.inj e)),hq,hr.ne⟩
theorem Qm.meth {w : World} {q g cap : Nat} {l : List Ent} (h : Qm w q g cap l) :
  (method 305 88 (.pointer (some ⟨q,0,none⟩)) "Len").run Tryz.prog w = .ok (38,.slice (some ⟨g,0,none⟩) l.length cap) w ∧
  (method 305 88 (.pointer (some ⟨q,0,none⟩)) "Less").run Tryz.prog w = .ok (151,.slice (some ⟨g,0,none⟩) l.length cap) w ∧
  (method 305 88 (.pointer (some ⟨q,0,none⟩)) "Swap").run Tryz.prog w = .ok (154,.slice (some ⟨g,0,none⟩) l.length cap) w :=
 ⟨meth_deref _ _ q _ w (h.ptr.cell (i := 0) rfl) meth_len,meth_deref _ _ q _ w (h.ptr.cell (i := 0) rfl) meth_less,meth_deref _ _ q _ w (h.ptr.cell (i := 0) rfl) meth_swap⟩
structure QI (q g cap n : Nat) (l : List Ent) (w wr : World) (lt : List Ent) : Prop where
 len : lt.length = n
 qm : Qm wr q g cap lt
 mem : ∀ y,y ∈ lt ↔ y ∈ l
 chg : Chg (fun k => k = q ∨ k = g) w wr
theorem QI.below {q g cap n : Nat} {l lt : List Ent} {w wr w1 : World} (h : QI q g cap n l w wr lt) (hb : Below wr.heap.size wr w1) : QI q g cap n l w w1 lt :=
 ⟨h.len,h.qm.below hb,h.mem,h.chg.trans (Chg.of_below (ex := fun _ => False) hb) (fun _ _ h => h.elim)⟩
theorem QI.swap {q g cap n : Nat} {l lt : List Ent} {w wr w1 : World} {i k : Nat} (h : QI q g cap n l w wr lt) (hi : i < n) (hk : k < n) (hq : QR w1 g cap (swp lt i k)) (hg : wr.grownBy w1 (some g)) : QI q g cap n l w w1 (swp lt i k) :=
 ⟨by rw [swp_len];exact h.len,h.qm.swap hg (swp_len _ _ _) hq,fun y => (swp_mem lt (by rw [h.len];exact hi) (by rw [h.len];exact hk) y).trans (h.mem y),
  h.chg.trans (Chg.of_grown (ex := fun k => k = q ∨ k = g) hg (fun k e => .inr (Option.some.inj e).symm)) (fun _ _ h => h)⟩
theorem up_any (q g cap n j0 : Nat) (l : List Ent) (w : World) (h : Qm w q g cap l) (hl : l.length = n) (hj0 : j0 < n) (hn : n ≤ 100000) (hE : HeapE l n j0) :
  Calls Tryz.prog 62 #[.iface 88 (.pointer (some ⟨q,0,none⟩)),.int .i64 (j0 : Int)] w fun r w' => r = .returned (.tuple #[]) ∧ ∃ lt,QI q g cap n l w w' lt ∧ Heap lt n := by
 have H0 : Hid (QI q g cap n l w w l) := ⟨hl,h,fun _ => Iff.rfl,Chg.refl _ w⟩
 have HE := Lib.hid hE
 clear h hl hE
 go_enter Tryz.func62,Tryz.ntmps62
 go_wp2
 go_loopw [1] (fun x wr => ∃ (j : Nat) (lt : List Ent),x = .int .i64 j ∧ j < n ∧ QI q g cap n l w wr lt ∧ HeapE lt n j) (fun x _ => (intOf x).toNat)
 case atStart => exact ⟨j0,l,rfl,hj0,H0.out,HE.out⟩
 case round =>
  clear H0 HE hj0
  obtain ⟨j,lt,rfl,hj,hQ,hE⟩ := hrel
  have HQ := Lib.hid hQ
  have HE := Lib.hid hE
  clear hQ hE
  rcases Nat.eq_zero_or_pos j with rfl | hj1
  ·have HEND : Hid (Heap lt n) := HE.out.done (.inl rfl)
   go_wp2_with fail
   go_end0
   exact ⟨rfl,lt,HQ.out,HEND.out⟩
  ·obtain ⟨i,hi⟩ : ∃ i,(j - 1) / 2 = i := ⟨_,rfl⟩
   have hd : ((j : Int) - 1) / 2 = (i : Int) := by omega
   have hij : i < j := by omega
   have hne : ((i : Int) == (j : Int)) = false := by simp;omega
   have hj2 : (0 : Int) ≤ (j : Int) - 1 := by omega
   have hj3 : (1 : Int) ≤ (j : Int) := by omega
   have HI := Lib.hid hi
   clear hi
   obtain ⟨T,hT⟩ : ∃ T,lessE (lt.getD j dE) (lt.getD i dE) = T := ⟨_,rfl⟩
   have HT := Lib.hid hT
   clear hT
   cases T with
   | false =>
    have HEND : Hid (Heap lt n) := HE.out.done (.inr (by rw [HI.out];exact (lessE_no _ _).1 HT.out))
    have hml := (HQ.out.qm.meth).2.1
    rw [HQ.out.len] at hml
    have hc := qless_any g cap j i lt wr HQ.out.qm.row (by rw [HQ.out.len];omega) (by rw [HQ.out.len];omega)
    rw [HQ.out.len,HT.out] at hc
    have HC := Lib.hid hc
    clear hc
    go_wp2_with fail
    refine HC.out.mono ?_
    rintro x w1 ⟨rfl,hb1⟩
    have HQ1 := Lib.hid (HQ.out.below hb1)
    clear hml HC hb1
    go_wp2_with fail
    go_end0
    exact ⟨rfl,lt,HQ1.out,HEND.out⟩
   | true =>
    have HS : Hid (HeapE (swp lt i j) n i) := by
     have := HE.out.up (by rw [HQ.out.len];omega) hj1 hj (by rw [HI.out];exact (lessE_iff _ _).1 HT.out)
     rwa [HI.out] at this
    have hml := (HQ.out.qm.meth).2.1
    rw [HQ.out.len] at hml
    have hc := qless_any g cap j i lt wr HQ.out.qm.row (by rw [HQ.out.len];omega) (by rw [HQ.out.len];omega)
    rw [HQ.out.len,HT.out] at hc
    have HC := Lib.hid hc
    clear hc
    go_wp2_with fail
    refine HC.out.mono ?_
    rintro x w1 ⟨rfl,hb1⟩
    have HQ1 := Lib.hid (HQ.out.below hb1)
    clear hml HC hb1
    have hms := (HQ1.out.qm.meth).2.2
    rw [HQ1.out.len] at hms
    have hc := qswap_any g cap i j lt w1 HQ1.out.qm.row (by rw [HQ1.out.len];omega) (by rw [HQ1.out.len];omega)
    rw [HQ1.out.len] at hc
    have HC := Lib.hid hc
    clear hc
    go_wp2_with fail
    refine HC.out.mono ?_
    rintro x w2 ⟨rfl,hq2,hg2⟩
    have HQ2 := Lib.hid (HQ1.out.swap (by omega) (by omega) hq2 hg2)
    clear hms HC hq2 hg2
    go_wp2_with fail
    go_roundw
    case rel => exact ⟨i,swp lt i j,rfl,by omega,HQ2.out,HS.out⟩
    case measure => simp [intOf];omega
theorem down_any (q g cap n : Nat) (l : List Ent) (w : World) (h : Qm w q g cap l) (hl : l.length = n + 1) (hn : n ≤ 100000) (hE : HeapD l n 0) :
  Calls Tryz.prog 63 #[.iface 88 (.pointer (some ⟨q,0,none⟩)),.int .i64 0,.int .i64 (n : Int)] w fun r w' => (∃ b,r = .returned (.bool b)) ∧ ∃ lt,QI q g cap (n + 1) l w w' lt ∧ lt.getD n dE = l.getD n dE ∧ Heap lt n := by
 have H0 : Hid (QI q g cap (n + 1) l w w l) := ⟨hl,h,fun _ => Iff.rfl,Chg.refl _ w⟩
 have HE := Lib.hid hE
 clear h hl hE
 go_enter Tryz.func63,Tryz.ntmps63
 go_wp2
 go_loopw [7] (fun x wr => ∃ (i : Nat) (lt : List Ent),x = .int .i64 i ∧ i ≤ n ∧ QI q g cap (n + 1) l w wr lt ∧ lt.getD n dE = l.getD n dE ∧ HeapD lt n i) (fun x _ => n - (intOf x).toNat)
 case atStart => exact ⟨0,l,rfl,Nat.zero_le _,H0.out,rfl,HE.out⟩
 case round =>
  clear H0 HE
  obtain ⟨i,lt,rfl,hin,hQ,hL,hE⟩ := hrel
  have HL := Lib.hid hL
  have HQ := Lib.hid hQ
  have HD := Lib.hid hE
  clear hQ hE hL
  have hi0 : (0 : Int) ≤ (i : Int) := by omega
  by_cases h1 : 2 * i + 1 < n
  ·have k1 : ¬ ((n : Int) ≤ 2 * (i : Int) + 1) := by omega
   have d1 : decide ((n : Int) ≤ 2 * (i : Int) + 1) = false := decide_eq_false k1
   have d2 : decide (2 * (i : Int) + 1 < 0) = false := decide_eq_false (by omega)
   by_cases h2 : 2 * i + 1 + 1 < n
   ·have k2 : 2 * (i : Int) + 1 + 1 < (n : Int) := by omega
    have d3 : decide (2 * (i : Int) + 1 + 1 < (n : Int)) = true := decide_eq_true k2
    obtain ⟨U,hU⟩ : ∃ U,lessE (lt.getD (2 * i + 1 + 1) dE) (lt.getD (2 * i + 1) dE) = U := ⟨_,rfl⟩
    have HU := Lib.hid hU
    clear hU
    cases U with
    | true =>
     have HMIN : Hid (∀ k,0 < k → k < n → (k - 1) / 2 = i → ¬ ltE (lt.getD k dE) (lt.getD (2 * i + 1 + 1) dE)) := fun k k0 k1 k2 => by
      rcases (show k = 2 * i + 1 ∨ k = 2 * i + 1 + 1 by omega) with rfl | rfl
      ·exact lt_nlt ((lessE_iff _ _).1 HU.out)
      ·unfold ltE;omega
     have hml := (HQ.out.qm.meth).2.1
     rw [HQ.out.len] at hml
     have hc := qless_any g cap (2 * i + 1 + 1) (2 * i + 1) lt wr HQ.out.qm.row (by rw [HQ.out.len];omega) (by rw [HQ.out.len];omega)
     rw [HQ.out.len,HU.out,show (((2 * i + 1 + 1) : Nat) : Int) = 2 * (i : Int) + 1 + 1 by omega,show (((2 * i + 1) : Nat) : Int) = 2 * (i : Int) + 1 by omega] at hc
     have HC := Lib.hid hc
     clear hc
     go_wp2_with fail
     refine HC.out.mono ?_
     rintro x w7 ⟨rfl,hb1⟩
     have HQ7 := Lib.hid (HQ.out.below hb1)
     clear hml HC hb1
     obtain ⟨T,hT⟩ : ∃ T,lessE (lt.getD (2 * i + 1 + 1) dE) (lt.getD i dE) = T := ⟨_,rfl⟩
     have HT := Lib.hid hT
     clear hT
     cases T with
     | false =>
      have HEND : Hid (Heap lt n) := HD.out.done fun k k0 k1 k2 => (HMIN.out k k0 k1 k2 |> fun h => nlt_trans ((lessE_no _ _).1 HT.out) h)
      have hml := (HQ7.out.qm.meth).2.1
      rw [HQ7.out.len] at hml
      have hc := qless_any g cap (2 * i + 1 + 1) (i) lt w7 HQ7.out.qm.row (by rw [HQ7.out.len];omega) (by rw [HQ7.out.len];omega)
      rw [HQ7.out.len,HT.out,show (((2 * i + 1 + 1) : Nat) : Int) = 2 * (i : Int) + 1 + 1 by omega] at hc
      have HC := Lib.hid hc
      clear hc
      go_wp2_with fail
      refine HC.out.mono ?_
      rintro x w8 ⟨rfl,hb1⟩
      have HQ8 := Lib.hid (HQ7.out.below hb1)
      clear hml HC hb1
      go_wp2_with fail
      go_ret
      exact ⟨⟨_,rfl⟩,lt,HQ8.out,HL.out,HEND.out⟩
     | true =>
      have HS : Hid (HeapD (swp lt i (2 * i + 1 + 1)) n (2 * i + 1 + 1)) := HD.out.down (by rw [HQ.out.len];omega) (by omega) (by omega) ((lessE_iff _ _).1 HT.out) HMIN.out
      have hml := (HQ7.out.qm.meth).2.1
      rw [HQ7.out.len] at hml
      have hc := qless_any g cap (2 * i + 1 + 1) (i) lt w7 HQ7.out.qm.row (by rw [HQ7.out.len];omega) (by rw [HQ7.out.len];omega)
      rw [HQ7.out.len,HT.out,show (((2 * i + 1 + 1) : Nat) : Int) = 2 * (i : Int) + 1 + 1 by omega] at hc
      have HC := Lib.hid hc
      clear hc
      go_wp2_with fail
      refine HC.out.mono ?_
      rintro x w8 ⟨rfl,hb1⟩
      have HQ8 := Lib.hid (HQ7.out.below hb1)
      clear hml HC hb1
      have HL2 : Hid ((swp lt i (2 * i + 1 + 1)).getD n dE = l.getD n dE) := by show _ = _;rw [swp_get lt (by rw [HQ.out.len];omega) (by rw [HQ.out.len];omega),if_neg (by omega),if_neg (by omega)];exact HL.out
      have hms := (HQ8.out.qm.meth).2.2
      rw [HQ8.out.len] at hms
      have hc := qswap_any g cap i (2 * i + 1 + 1) lt w8 HQ8.out.qm.row (by rw [HQ8.out.len];omega) (by rw [HQ8.out.len];omega)
      rw [HQ8.out.len,show (((2 * i + 1 + 1) : Nat) : Int) = 2 * (i : Int) + 1 + 1 by omega] at hc
      have HC := Lib.hid hc
      clear hc
      go_wp2_with fail
      refine HC.out.mono ?_
      rintro x w9 ⟨rfl,hq2,hg2⟩
      have HQ9 := Lib.hid (HQ8.out.swap (by omega) (by omega) hq2 hg2)
      clear hms HC hq2 hg2
      go_wp2_with fail
      go_roundw
      case rel => exact ⟨2 * i + 1 + 1,swp lt i (2 * i + 1 + 1),by go_num,by omega,HQ9.out,HL2.out,HS.out⟩
      case measure => simp [intOf];omega
    | false =>
     have HMIN : Hid (∀ k,0 < k → k < n → (k - 1) / 2 = i → ¬ ltE (lt.getD k dE) (lt.getD (2 * i + 1) dE)) := fun k k0 k1 k2 => by
      rcases (show k = 2 * i + 1 ∨ k = 2 * i + 1 + 1 by omega) with rfl | rfl
      ·unfold ltE;omega
      ·exact (lessE_no _ _).1 HU.out
     have hml := (HQ.out.qm.meth).2.1
     rw [HQ.out.len] at hml
     have hc := qless_any g cap (2 * i + 1 + 1) (2 * i + 1) lt wr HQ.out.qm.row (by rw [HQ.out.len];omega) (by rw [HQ.out.len];omega)
     rw [HQ.out.len,HU.out,show (((2 * i + 1 + 1) : Nat) : Int) = 2 * (i : Int) + 1 + 1 by omega,show (((2 * i + 1) : Nat) : Int) = 2 * (i : Int) + 1 by omega] at hc
     have HC := Lib.hid hc
     clear hc
     go_wp2_with fail
     refine HC.out.mono ?_
     rintro x w7 ⟨rfl,hb1⟩
     have HQ7 := Lib.hid (HQ.out.below hb1)
     clear hml HC hb1
     obtain ⟨T,hT⟩ : ∃ T,lessE (lt.getD (2 * i + 1) dE) (lt.getD i dE) = T := ⟨_,rfl⟩
     have HT := Lib.hid hT
     clear hT
     cases T with
     | false =>
      have HEND : Hid (Heap lt n) := HD.out.done fun k k0 k1 k2 => (HMIN.out k k0 k1 k2 |> fun h => nlt_trans ((lessE_no _ _).1 HT.out) h)
      have hml := (HQ7.out.qm.meth).2.1
      rw [HQ7.out.len] at hml
      have hc := qless_any g cap (2 * i + 1) (i) lt w7 HQ7.out.qm.row (by rw [HQ7.out.len];omega) (by rw [HQ7.out.len];omega)
      rw [HQ7.out.len,HT.out,show (((2 * i + 1) : Nat) : Int) = 2 * (i : Int) + 1 by omega] at hc
      have HC := Lib.hid hc
      clear hc
      go_wp2_with fail
      refine HC.out.mono ?_
      rintro x w8 ⟨rfl,hb1⟩
      have HQ8 := Lib.hid (HQ7.out.below hb1)
      clear hml HC hb1
      go_wp2_with fail
      go_ret
      exact ⟨⟨_,rfl⟩,lt,HQ8.out,HL.out,HEND.out⟩
     | true =>
      have HS : Hid (HeapD (swp lt i (2 * i + 1)) n (2 * i + 1)) := HD.out.down (by rw [HQ.out.len];omega) (by omega) (by omega) ((lessE_iff _ _).1 HT.out) HMIN.out
      have hml := (HQ7.out.qm.meth).2.1
      rw [HQ7.out.len] at hml
      have hc := qless_any g cap (2 * i + 1) (i) lt w7 HQ7.out.qm.row (by rw [HQ7.out.len];omega) (by rw [HQ7.out.len];omega)
      rw [HQ7.out.len,HT.out,show (((2 * i + 1) : Nat) : Int) = 2 * (i : Int) + 1 by omega] at hc
      have HC := Lib.hid hc
      clear hc
      go_wp2_with fail
      refine HC.out.mono ?_
      rintro x w8 ⟨rfl,hb1⟩
      have HQ8 := Lib.hid (HQ7.out.below hb1)
      clear hml HC hb1
      have HL2 : Hid ((swp lt i (2 * i + 1)).getD n dE = l.getD n dE) := by show _ = _;rw [swp_get lt (by rw [HQ.out.len];omega) (by rw [HQ.out.len];omega),if_neg (by omega),if_neg (by omega)];exact HL.out
      have hms := (HQ8.out.qm.meth).2.2
      rw [HQ8.out.len] at hms
      have hc := qswap_any g cap i (2 * i + 1) lt w8 HQ8.out.qm.row (by rw [HQ8.out.len];omega) (by rw [HQ8.out.len];omega)
      rw [HQ8.out.len,show (((2 * i + 1) : Nat) : Int) = 2 * (i : Int) + 1 by omega] at hc
      have HC := Lib.hid hc
      clear hc
      go_wp2_with fail
      refine HC.out.mono ?_
      rintro x w9 ⟨rfl,hq2,hg2⟩
      have HQ9 := Lib.hid (HQ8.out.swap (by omega) (by omega) hq2 hg2)
      clear hms HC hq2 hg2
      go_wp2_with fail
      go_roundw
      case rel => exact ⟨2 * i + 1,swp lt i (2 * i + 1),by go_num,by omega,HQ9.out,HL2.out,HS.out⟩
      case measure => simp [intOf];omega
   ·have k2 : ¬ (2 * (i : Int) + 1 + 1 < (n : Int)) := by omega
    have d3 : decide (2 * (i : Int) + 1 + 1 < (n : Int)) = false := decide_eq_false k2
    have HMIN : Hid (∀ k,0 < k → k < n → (k - 1) / 2 = i → ¬ ltE (lt.getD k dE) (lt.getD (2 * i + 1) dE)) := fun k k0 k1 k2 => by
     obtain rfl : k = 2 * i + 1 := by omega
     unfold ltE;omega
    obtain ⟨T,hT⟩ : ∃ T,lessE (lt.getD (2 * i + 1) dE) (lt.getD i dE) = T := ⟨_,rfl⟩
    have HT := Lib.hid hT
    clear hT
    cases T with
    | false =>
     have HEND : Hid (Heap lt n) := HD.out.done fun k k0 k1 k2 => (HMIN.out k k0 k1 k2 |> fun h => nlt_trans ((lessE_no _ _).1 HT.out) h)
     have hml := (HQ.out.qm.meth).2.1
     rw [HQ.out.len] at hml
     have hc := qless_any g cap (2 * i + 1) (i) lt wr HQ.out.qm.row (by rw [HQ.out.len];omega) (by rw [HQ.out.len];omega)
     rw [HQ.out.len,HT.out,show (((2 * i + 1) : Nat) : Int) = 2 * (i : Int) + 1 by omega] at hc
     have HC := Lib.hid hc
     clear hc
     go_wp2_with fail
     refine HC.out.mono ?_
     rintro x w8 ⟨rfl,hb1⟩
     have HQ8 := Lib.hid (HQ.out.below hb1)
     clear hml HC hb1
     go_wp2_with fail
     go_ret
     exact ⟨⟨_,rfl⟩,lt,HQ8.out,HL.out,HEND.out⟩
    | true =>
     have HS : Hid (HeapD (swp lt i (2 * i + 1)) n (2 * i + 1)) := HD.out.down (by rw [HQ.out.len];omega) (by omega) (by omega) ((lessE_iff _ _).1 HT.out) HMIN.out
     have hml := (HQ.out.qm.meth).2.1
     rw [HQ.out.len] at hml
     have hc := qless_any g cap (2 * i + 1) (i) lt wr HQ.out.qm.row (by rw [HQ.out.len];omega) (by rw [HQ.out.len];omega)
     rw [HQ.out.len,HT.out,show (((2 * i + 1) : Nat) : Int) = 2 * (i : Int) + 1 by omega] at hc
     have HC := Lib.hid hc
     clear hc
     go_wp2_with fail
     refine HC.out.mono ?_
     rintro x w8 ⟨rfl,hb1⟩
     have HQ8 := Lib.hid (HQ.out.below hb1)
     clear hml HC hb1
     have HL2 : Hid ((swp lt i (2 * i + 1)).getD n dE = l.getD n dE) := by show _ = _;rw [swp_get lt (by rw [HQ.out.len];omega) (by rw [HQ.out.len];omega),if_neg (by omega),if_neg (by omega)];exact HL.out
     have hms := (HQ8.out.qm.meth).2.2
     rw [HQ8.out.len] at hms
     have hc := qswap_any g cap i (2 * i + 1) lt w8 HQ8.out.qm.row (by rw [HQ8.out.len];omega) (by rw [HQ8.out.len];omega)
     rw [HQ8.out.len,show (((2 * i + 1) : Nat) : Int) = 2 * (i : Int) + 1 by omega] at hc
     have HC := Lib.hid hc
     clear hc
     go_wp2_with fail
     refine HC.out.mono ?_
     rintro x w9 ⟨rfl,hq2,hg2⟩
     have HQ9 := Lib.hid (HQ8.out.swap (by omega) (by omega) hq2 hg2)
     clear hms HC hq2 hg2
     go_wp2_with fail
     go_roundw
     case rel => exact ⟨2 * i + 1,swp lt i (2 * i + 1),by go_num,by omega,HQ9.out,HL2.out,HS.out⟩
     case measure => simp [intOf];omega
  ·have HEND : Hid (Heap lt n) := HD.out.done fun k k0 k1 k2 => by omega
   have k1 : (n : Int) ≤ 2 * (i : Int) + 1 := by omega
   have d1 : decide ((n : Int) ≤ 2 * (i : Int) + 1) = true := decide_eq_true k1
   go_wp2_with fail
   go_ret
   exact ⟨⟨_,rfl⟩,lt,HQ.out,HL.out,HEND.out⟩
theorem hpush_any (q g cap : Nat) (l : List Ent) (x : Ent) (w : World) (h : Qm w q g cap l) (hn : l.length ≤ 16384) (hh : Heap l l.length) :
  Calls Tryz.prog 37 #[.iface 88 (.pointer (some ⟨q,0,none⟩)),.iface 54 (.agg x.cells.toArray)] w fun r w' => r = .returned (.tuple #[]) ∧ ∃ g' cap' l',Qm w' q g' cap' l' ∧ l'.length = l.length + 1 ∧ (∀ y,y ∈ l' ↔ y ∈ l ∨ y = x) ∧ Heap l' l'.length ∧ (g' = g ∨ w.heap.size ≤ g') ∧ Chg (fun k => k = q ∨ k = g) w w' := by
 have hmp := meth_push ⟨q,0,none⟩ w
 have HP := Lib.hid (qpush_any q g cap l x w h hn)
 have HH : Hid (HeapE (l ++ [x]) (l.length + 1) l.length) := HeapE.push hh
 obtain ⟨n,hln⟩ : ∃ n,l.length = n := ⟨_,rfl⟩
 have HLN := Lib.hid hln
 rw [hln] at hn HH
 obtain ⟨XC,hXC⟩ : ∃ XC,Value.iface 54 (.agg x.cells.toArray) = XC := ⟨_,rfl⟩
 rw [hXC] at HP ⊢
 clear h hh hln hXC
 go_enter Tryz.func37,Tryz.ntmps37
 go_wp2_with fail
 refine HP.out.mono ?_
 rintro e w1 ⟨rfl,g1,cap1,hq1,hg1,hc1⟩
 have HLL : Hid ((l ++ [x]).length = n + 1) := by show _ = _;rw [List.length_append,HLN.out];rfl
 have HU := Lib.hid (up_any q g1 cap1 (n + 1) n (l ++ [x]) w1 hq1 HLL.out (by omega) (by omega) HH.out)
 have hml := hq1.meth.1
 rw [HLL.out] at hml
 have HK := Lib.hid (And.intro hg1 hc1)
 clear hmp HP hq1 hg1 hc1
 go_wp2_with (first | (go_at_call 38;refine (qlen_any _ _ _ _).mono ?_;rintro e w' ⟨rfl,rfl⟩) | fail)
 have HU2 : Hid (Calls Tryz.prog 62 #[.iface 88 (.pointer (some ⟨q,0,none⟩)),.int .i64 (n : Int)] w1 fun r w' => r = .returned (.tuple #[]) ∧ ∃ lt,QI q g1 cap1 (n + 1) (l ++ [x]) w1 w' lt ∧ Heap lt (n + 1)) := HU.out
 refine HU2.out.mono ?_
 rintro e w2 ⟨rfl,lt,hq2,hh2⟩
 have HQ2 := Lib.hid (And.intro hq2 hh2)
 clear hml HU HU2 hq2 hh2
 go_wp2_with fail
 go_end0
 refine ⟨rfl,g1,cap1,lt,HQ2.out.1.qm,by rw [HQ2.out.1.len,HLN.out],fun y => ?_,by rw [HQ2.out.1.len];exact HQ2.out.2,HK.out.1,?_⟩
 ·rw [HQ2.out.1.mem y,List.mem_append,List.mem_singleton]
 ·refine HK.out.2.trans HQ2.out.1.chg fun i hi hx => ?_
  rcases hx with rfl | rfl
  ·exact .inl rfl
  ·rcases HK.out.1 with rfl | h1
   ·exact .inr rfl
   ·omega
theorem hpop_any (q g cap : Nat) (l : List Ent) (w : World) (h : Qm w q g cap l) (hn : l.length ≤ 16384) (h0 : 0 < l.length) (hh : Heap l l.length) :
  Calls Tryz.prog 39 #[.iface 88 (.pointer (some ⟨q,0,none⟩))] w fun r w' => ∃ x l',r = .returned (.iface 54 (.agg x.cells.toArray)) ∧ Qm w' q g cap l' ∧ l'.length + 1 = l.length ∧ (∀ y,y ∈ l ↔ y ∈ l' ∨ y = x) ∧ Heap l' l'.length ∧ (∀ y ∈ l,¬ ltE y x) ∧ Chg (fun k => k = q ∨ k = g) w w' := by
 obtain ⟨n,hln⟩ : ∃ n,l.length = n + 1 := ⟨l.length - 1,by omega⟩
 have HLE : Hid (∀ y ∈ l,¬ ltE y (l.getD 0 dE)) := fun y hy => by
  obtain ⟨k,hk,rfl⟩ := mem_getD.1 hy
  exact hh.least k hk
 have HS : Hid (QI q g cap (n + 1) l w w l) := ⟨hln,h,fun _ => Iff.rfl,Chg.refl _ w⟩
 have HD : Hid (HeapD (swp l 0 n) n 0) := HeapD.pop (by rw [← hln];exact hh) hln
 have HLN := Lib.hid hln
 have hml := h.meth.1
 have hms := h.meth.2.2
 have hc := qswap_any g cap 0 n l w h.row h0 (by omega)
 rw [hln] at hml hms hc hn
 have HC : Hid (Calls Tryz.prog 154 #[.slice (some ⟨g,0,none⟩) (n + 1) cap,.int .i64 0,.int .i64 (n : Int)] w fun r w' => r = .returned (.tuple #[]) ∧ QR w' g cap (swp l 0 n) ∧ w.grownBy w' (some g)) := hc
 clear h hh hln hc h0
 go_enter Tryz.func39,Tryz.ntmps39
 go_wp2_with (first | (go_at_call 38;refine (qlen_any _ _ _ _).mono ?_;rintro e w' ⟨rfl,rfl⟩) | fail)
 refine HC.out.mono ?_
 rintro x w1 ⟨rfl,hq1,hg1⟩
 have HQ1 := Lib.hid (HS.out.swap (by omega) (by omega) hq1 hg1)
 clear HC hq1 hg1 hml hms
 have HW := Lib.hid (down_any q g cap n (swp l 0 n) w1 HQ1.out.qm HQ1.out.len (by omega) HD.out)
 go_wp2_with fail
 refine HW.out.mono ?_
 rintro x w2 ⟨⟨b,rfl⟩,lt,hq2,hl2,hh2⟩
 have HQ2 := Lib.hid (And.intro hq2 (And.intro hl2 hh2))
 clear HW hq2 hl2 hh2
 obtain ⟨la,x,hla,hx⟩ : ∃ la x,lt = la ++ [x] ∧ x = l.getD 0 dE := by
  have hne : lt ≠ [] := by intro e;have := HQ2.out.1.len;rw [e] at this;simp at this
  refine ⟨lt.dropLast,lt.getLast hne,(List.dropLast_concat_getLast hne).symm,?_⟩
  have h1 := HQ2.out.2.1
  rw [swp_get l (by rw [HLN.out];omega) (by rw [HLN.out];omega),if_pos rfl] at h1
  rw [← h1,List.getLast_eq_getElem,List.getD_eq_getElem?_getD,List.getElem?_eq_getElem (by rw [HQ2.out.1.len];omega)]
  simp only [Option.getD_some]
  congr 1
  rw [HQ2.out.1.len];rfl
 have HX := Lib.hid (And.intro hla hx)
 have HLA : Hid (la.length = n) := by show _ = _;have := HQ2.out.1.len;rw [hla,List.length_append] at this;simpa using this
 have HP := Lib.hid (qpop_any q g cap la x w2 (by rw [← hla];exact HQ2.out.1.qm))
 have hmp := meth_pop ⟨q,0,none⟩ w2
 clear hla hx
 go_wp2_with fail
 refine HP.out.mono ?_
 rintro e w3 ⟨rfl,hq3,hc3⟩
 have HQ3 := Lib.hid (And.intro hq3 hc3)
 clear HP hmp hq3 hc3
 obtain ⟨XC,hXC⟩ : ∃ XC,Value.iface 54 (.agg x.cells.toArray) = XC := ⟨_,rfl⟩
 rw [hXC]
 have HXC := Lib.hid hXC
 clear hXC
 go_wp2_with fail
 go_ret
 have hmm : ∀ y,y ∈ l ↔ y ∈ la ∨ y = x := fun y => by
  rw [← HQ1.out.mem y,← HQ2.out.1.mem y,HX.out.1,List.mem_append,List.mem_singleton]
 refine ⟨x,la,by rw [HXC.out];rfl,HQ3.out.1,by rw [HLA.out,HLN.out],hmm,?_,by rw [HX.out.2];exact HLE.out,?_⟩
 ·rw [HLA.out]
  intro k k0 k1
  have := HQ2.out.2.2 k k0 k1
  rw [HX.out.1] at this
  have ge : ∀ j,j < n → (la ++ [x]).getD j dE = la.getD j dE := fun j hj => by
   rw [List.getD_eq_getElem?_getD,List.getElem?_append_left (by rw [HLA.out];exact hj),List.getD_eq_getElem?_getD]
  rwa [ge k k1,ge _ (by omega)] at this
 ·exact (HQ1.out.chg.trans HQ2.out.1.chg (fun _ _ h => h)).trans HQ3.out.2 (fun _ _ h => .inl h)
end Go.Proofs.YtjcpjhlclpdpjaaGreat
namespace Go.Proofs.YtjcpjhlclpdpjaaGreat
open Go.RowKit
section
variable {F : Fence} {n : Nat} {P : Program} {ops : Array Oper} {Q : Exit → Act → World → Prop} {md : Region.Mode} {S : World → Prop} {C : Nat → World → Prop}
def noDef (ops : Array Oper) : Bool := ops.all fun o => match o.op with | .defer _ => false | _ => true
theorem noDef_spec (h : noDef ops = true) {i : Nat} {o : Oper} (ho : ops[i]? = some o) : ∀ c,o.op ≠ Op.defer c := by
 intro c hc
 obtain ⟨hi,rfl⟩ := Array.getElem?_eq_some_iff.1 ho
 have := (Array.all_eq_true.1 h) i hi
 rw [hc] at this
 cases this
def waitsB (md : Region.Mode) (ops : Array Oper) (j i : Nat) : Bool := match ops[j]? with | some o => o.after.any fun e => Region.binds md e && e.on == i | none => false
theorem waitsB_spec {j i : Nat} (h : waitsB md ops j i = true) : ∃ o,ops[j]? = some o ∧ ∃ e ∈ o.after,Region.binds md e = true ∧ e.on = i := by
 unfold waitsB at h
 split at h
 ·rename_i o ho
  obtain ⟨e,he,hb⟩ := Array.any_eq_true'.1 h
  simp only [Bool.and_eq_true,beq_iff_eq] at hb
  exact ⟨o,ho,e,he,hb.1,hb.2⟩
 ·cases h
def YT (P : Program) (ops : Array Oper) (S : World → Prop) (o : Oper) (v : Value) (a : Act) : Prop := YieldsIf P ops S o v a ∧ ∀ w,o.about P w a.eval = none
theorem YT.wpOpIn {i : Nat} {o : Oper} {v : Value} {a : Act} (hd : noDef ops = true) (hi : ops[i]? = some o) (hy : YT P ops S o v a)
  {K : Act → World → Prop} {w : World} (hS : S w) (h : K (a.put o.dst v) w) : wpOpIn F n P ops Q i K a w := by
 unfold Go.wpOpIn
 simp only [hi]
 have hab : ∀ f,o.about P w a.eval = some f → F.fn f := fun f hf => by rw [hy.2 w] at hf;cases hf
 rcases hy.1 with ⟨hw,hv⟩ | ⟨hw,rfl⟩
 ·simp only [hw,if_true,Oper.wpIn]
  rw [Oper.semAt_plain F _ _ (noDef_spec hd hi),hv w hS]
  exact ⟨hab,h⟩
 ·simp only [hw,Bool.false_eq_true,if_false];exact ⟨hab,h⟩
theorem YT.of_same {o : Oper} {v : Value} {a a' : Act} (hy : YT P ops S o v a) (he : execOp a'.eval o = execOp a.eval o)
  (hw : Region.wanted o (yielded ops a'.tmps) = Region.wanted o (yielded ops a.tmps)) (hb : ∀ w,o.about P w a'.eval = o.about P w a.eval) : YT P ops S o v a' :=
 ⟨hy.1.of_same he hw,fun w => by rw [hb w];exact hy.2 w⟩
theorem wpOpIn_putT {j : Nat} {oi oj : Oper} {v : Value} (hd : noDef ops = true) (hj : ops[j]? = some oj) (hap : oi.apart ops oj = true)
  (hsi : ∀ cs b,oi.op ≠ .select cs b) (hsj : ∀ cs b,oj.op ≠ .select cs b)
  (hQ : ∀ c a w,Q (.panic c) (a.put oi.dst v) w → Q (.panic c) a w) {K : Act → World → Prop} {a : Act} {w : World}
  (hy : YT P ops S oi v a) (h : wpOpIn F n P ops Q j K (a.put oi.dst v) w) :
  wpOpIn F n P ops Q j (fun a' w' => YT P ops S oi v a' ∧ K (a'.put oi.dst v) w') a w := by
 obtain ⟨h1,h2,h3⟩ := Oper.apart_spec hap
 have keep : ∀ (a : Act),YT P ops S oi v a → ∀ u,YT P ops S oi v (a.put oj.dst u) := fun a hy u =>
  hy.of_same (execOp_put oi hsi a oj.dst u h3) (wanted_put oi a oj.dst u h3) (fun w => about_put oi w a oj.dst u h3)
 have keepD : ∀ d,YT P ops S oi v { a with defers := d :: a.defers } := fun d => hy.of_same rfl rfl (fun _ => rfl)
 have hnd := noDef_spec hd hj
 unfold wpOpIn at *
 simp only [hj] at *
 rw [wanted_put oj a oi.dst v h1,about_put oj w a oi.dst v h1] at h
 split
 ·rename_i hw
  simp only [hw,if_true] at h
  unfold Oper.wpIn at *
  rw [about_put oj w a oi.dst v h1] at h
  refine ⟨h.1,?_⟩
  have h := h.2
  rw [Oper.semAt_plain F _ _ hnd,execOp_put oj hsj a oi.dst v h1] at h
  rw [Oper.semAt_plain F _ _ hnd]
  generalize (execOp a.eval oj).run P w = r at *
  cases r with
  | ok x w' =>
   cases x <;> simp only [Oper.uponIn] at h ⊢
   case value u => exact ⟨keep a hy u,by rw [← Act.put_comm a v u h2];exact h⟩
   case skip => exact ⟨keep a hy _,by rw [← Act.put_comm a v undef h2];exact h⟩
   case defer d =>
    refine ⟨keep _ (keepD d) _,?_⟩
    rw [← Act.put_comm _ v undef h2,← Act.put_defers]
    exact h
   case enter f args =>
    refine ⟨h.1,CallsIn.mono h.2 fun e w'' he => ?_⟩
    cases e with
    | returned u => exact ⟨keep a hy u,by rw [← Act.put_comm a v u h2];exact he⟩
    | panicked c => exact hQ _ _ _ he
    | outgrown => exact he
   case row row args => exact ⟨h.1,RowsIn.mono h.2 fun u w'' he => ⟨keep a hy u,by rw [← Act.put_comm a v u h2];exact he⟩⟩
   case round l f tmps assign body =>
    refine ⟨h.1,RoundIn.mono h.2 fun e w'' he => ?_⟩
    cases e with
    | returned u => exact ⟨keep a hy u,by rw [← Act.put_comm a v u h2];exact he⟩
    | panicked c => exact hQ _ _ _ he
    | outgrown => exact he
  | halt x w' =>
   cases x <;> simp only [Oper.uponIn] at h ⊢
   case panic u => exact hQ _ _ _ h
 ·rename_i hw
  simp only [hw] at h
  exact ⟨h.1,keep a hy _,by rw [← Act.put_comm a v undef h2];exact h.2⟩
def lateE (md : Region.Mode) (ops : Array Oper) (E : List Nat) (j : Nat) : List Nat := E.filter fun e => !waitsB md ops j e
theorem lateE_sub {E E' : List Nat} {j : Nat} (h : ∀ e ∈ E',e ∈ E) : ∀ e ∈ lateE md ops E' j,e ∈ lateE md ops E j := by
 intro e he
 unfold lateE at *
 rw [List.mem_filter] at *
 exact ⟨h e he.1,he.2⟩
def wpAnyT (F : Fence) (n : Nat) (P : Program) (md : Region.Mode) (ops : Array Oper) (Q : Exit → Act → World → Prop) (C : Nat → World → Prop) : Nat → List Nat → Array Bool → Act → World → Prop
 | 0,_,listed,a,w => Region.ready md ops listed = [] ∧ Q .normal a w
 | fuel + 1,E,listed,a,w =>
  (Region.ready md ops listed = [] → Q .normal a w) ∧
  ∀ j ∈ Region.ready md ops listed,wpOpIn F n P ops Q j (fun a' w' => (∀ e ∈ lateE md ops E j,C e w') ∧ wpAnyT F n P md ops Q C fuel (lateE md ops E j) (listed.setIfInBounds j true) a' w') a w
theorem wpAnyIn_of_T : ∀ (fuel : Nat) (E : List Nat) (listed : Array Bool) (a : Act) (w : World),wpAnyT F n P md ops Q C fuel E listed a w → wpAnyIn F n P md ops Q fuel listed a w
 | 0,_,_,_,_,h => h
 | fuel + 1,_,_,_,_,h => ⟨h.1,fun i hi => wpOpIn_mono (fun a' w' h' => wpAnyIn_of_T fuel _ _ a' w' h'.2) (h.2 i hi)⟩
theorem wpAnyT_sub : ∀ (fuel : Nat) (E E' : List Nat) (listed : Array Bool) (a : Act) (w : World),(∀ e ∈ E',e ∈ E) → wpAnyT F n P md ops Q C fuel E listed a w → wpAnyT F n P md ops Q C fuel E' listed a w
 | 0,_,_,_,_,_,_,h => h
 | fuel + 1,_,_,_,_,_,hs,h => ⟨h.1,fun j hj => wpOpIn_mono (fun a' w' h' => ⟨fun e he => h'.1 e (lateE_sub hs e he),wpAnyT_sub fuel _ _ _ a' w' (lateE_sub hs) h'.2⟩) (h.2 j hj)⟩
theorem wpAnyT_first {i : Nat} {oi : Oper} {v : Value} (hd : noDef ops = true) (hi : ops[i]? = some oi) (hsel : ∀ (j : Nat) (o : Oper) cs b,ops[j]? = some o → o.op ≠ .select cs b)
  (hQ : ∀ c a w,Q (.panic c) (a.put oi.dst v) w → Q (.panic c) a w) :
  ∀ (fuel : Nat) (E : List Nat) (listed : Array Bool) (a : Act) (w : World),
   (∀ j oj,ops[j]? = some oj → j ≠ i → listed.getD j true = false → (∀ e ∈ oj.after,Region.binds md e = true → e.on ≠ i) → oi.apart ops oj = true) →
   i ∈ Region.ready md ops listed → YT P ops (C i) oi v a → C i w → (∀ e ∈ E,C e w) →
   wpAnyT F n P md ops Q C fuel (i :: E) (listed.setIfInBounds i true) (a.put oi.dst v) w → wpAnyT F n P md ops Q C (fuel + 1) E listed a w := by
 intro fuel
 induction fuel with
 | zero =>
  intro E listed a w _ hr hy hS hE H
  refine ⟨fun h => (by rw [h] at hr;cases hr),fun j hj => ?_⟩
  by_cases hji : j = i
  ·subst hji;exact hy.wpOpIn hd hi hS ⟨fun e he => hE e (List.mem_filter.1 he).1,H⟩
  ·have := ready_mono hj hji
   rw [H.1] at this
   cases this
 | succ fuel ih =>
  intro E listed a w hfree hr hy hS hE H
  refine ⟨fun h => (by rw [h] at hr;cases hr),fun j hj => ?_⟩
  by_cases hji : j = i
  ·subst hji;exact hy.wpOpIn hd hi hS ⟨fun e he => hE e (List.mem_filter.1 he).1,wpAnyT_sub _ _ _ _ _ _ (fun e he => List.mem_cons_of_mem _ (List.mem_filter.1 he).1) H⟩
  ·have h1 := H.2 j (ready_mono hj hji)
   obtain ⟨hjun,oj,hoj,hall⟩ := mem_ready.1 hj
   have hnot : ∀ e ∈ oj.after,Region.binds md e = true → e.on ≠ i := fun e he hb heq => by
    have h1 := hall e he hb
    have h0 := (mem_ready.1 hr).1
    rw [heq] at h1
    rcases Nat.lt_or_ge i listed.size with h' | h'
    ·simp [h'] at h0 h1;rw [h0] at h1;cases h1
    ·simp [Array.getElem?_eq_none h'] at h1
   have hw : waitsB md ops j i = false := by
    cases hc : waitsB md ops j i with
    | false => rfl
    | true =>
     obtain ⟨o',ho',e,he,hb,hon⟩ := waitsB_spec hc
     obtain rfl := Option.some.inj (hoj.symm.trans ho')
     exact absurd hon (hnot e he hb)
   have hlate : lateE md ops (i :: E) j = i :: lateE md ops E j := by
    unfold lateE
    rw [List.filter_cons,hw];rfl
   have h2 := wpOpIn_putT hd hoj (hfree j oj hoj hji hjun hnot) (fun cs b => hsel i oi cs b hi) (fun cs b => hsel j oj cs b hoj) hQ hy h1
   have hfree' : ∀ k ok,ops[k]? = some ok → k ≠ i → (listed.setIfInBounds j true).getD k true = false →
     (∀ e ∈ ok.after,Region.binds md e = true → e.on ≠ i) → oi.apart ops ok = true := fun k ok hk hki hun hno => by
    refine hfree k ok hk hki ?_ hno
    by_cases hjk : j = k
    ·subst hjk;exact hjun
    ·rw [getD_set_ne true hjk] at hun;exact hun
   refine wpOpIn_mono (fun a' w' h3 => ?_) h2
   obtain ⟨h4,h5,h6⟩ := h3
   rw [hlate] at h5 h6
   refine ⟨fun e he => h5 e (List.mem_cons_of_mem _ he),ih _ (listed.setIfInBounds j true) a' w' hfree' (ready_mono hr (Ne.symm hji)) h4 (h5 i List.mem_cons_self) (fun e he => h5 e (List.mem_cons_of_mem _ he)) ?_⟩
   rw [Array.setIfInBounds_comm _ _ hji]
   exact h6
theorem op0 {α : Type} {o : α} {l : List α} : (List.toArray (o :: l))[0]? = some o := rfl
theorem opS {α : Type} {x o : α} {l : List α} {i : Nat} (h : (List.toArray l)[i]? = some o) : (List.toArray (x :: l))[i + 1]? = some o := by
 simpa using h
theorem wpAnyT_take {i : Nat} {oi : Oper} (v : Value) {fuel : Nat} {E : List Nat} {listed : Array Bool} (L' : Array Bool) {a : Act} {w : World} (hi : ops[i]? = some oi)
  (hc : (noDef ops && Region.noSelect ops && Region.free md ops listed i && (Region.ready md ops listed).contains i && listed.setIfInBounds i true == L') = true)
  (hQ : ∀ c a w,Q (.panic c) (a.put oi.dst v) w → Q (.panic c) a w) (hab : ∀ w,oi.about P w a.eval = none) (hy : YieldsIf P ops (C i) oi v a) (hE : ∀ e,C e w)
  (h : wpAnyT F n P md ops Q C fuel (i :: E) L' (a.put oi.dst v) w) : wpAnyT F n P md ops Q C (fuel + 1) E listed a w := by
 simp only [Bool.and_eq_true,beq_iff_eq] at hc
 obtain ⟨⟨⟨⟨h1,h4⟩,h5⟩,h6⟩,h7⟩ := hc
 exact wpAnyT_first h1 hi (Region.noSelect_spec h4) hQ fuel E listed a w (Region.free_spec hi h5) (by simpa using h6) ⟨hy,hab⟩ (hE _) (fun e _ => hE e) (by rw [h7];exact h)
theorem wpAnyT_one {i : Nat} {o : Oper} {fuel : Nat} {E : List Nat} (E' : List Nat) {listed : Array Bool} (L' : Array Bool) {a : Act} {w : World} (ho : ops[i]? = some o)
  (hc : (Region.ready md ops listed == [i] && lateE md ops E i == E' && listed.setIfInBounds i true == L') = true)
  (h : ∀ K' : Act → World → Prop,Shut (∀ a w,(∀ e ∈ E',C e w) → wpAnyT F n P md ops Q C fuel E' L' a w → K' a w) → if Region.wanted o (yielded ops a.tmps) = true then Oper.wpIn F n P o a w K' Q else (∀ f,o.about P w a.eval = some f → F.fn f) ∧ K' (a.put o.dst undef) w) :
  wpAnyT F n P md ops Q C (fuel + 1) E listed a w := by
 simp only [Bool.and_eq_true,beq_iff_eq] at hc
 obtain ⟨⟨hr,hE'⟩,hL⟩ := hc
 refine ⟨fun h0 => (by rw [h0] at hr;cases hr),fun j hj => ?_⟩
 rw [hr] at hj
 obtain rfl := List.mem_singleton.1 hj
 unfold wpOpIn
 rw [ho,hE',hL]
 exact h _ (fun a w hS hW => ⟨hS,hW⟩)
theorem wpAnyT_done {E : List Nat} {listed : Array Bool} {a : Act} {w : World} (hr : Region.ready md ops listed = []) (h : Q .normal a w) :
  ∀ fuel,wpAnyT F n P md ops Q C fuel E listed a w
 | 0 => ⟨hr,h⟩
 | _ + 1 => ⟨fun _ => h,by rw [hr];simp⟩
theorem wpIn_region_T (C : Nat → World → Prop) (m : Nat) (L0 : Array Bool) {id : Nat} {a : Act} {w : World} (hc : (P.follows .mixedOrders && ops.size == m && Array.replicate m false == L0) = true)
  (h : wpAnyT F n P .any ops Q C m [] L0 a w.drew) : (Code.region id ops true).wpIn F n P Q a w := by
 simp only [Bool.and_eq_true,beq_iff_eq] at hc
 obtain ⟨⟨h1,h2⟩,h3⟩ := hc
 refine wpIn_region_any h1 (wpAnyIn_of_T (C := C) _ [] _ _ _ ?_)
 rw [h2,h3]
 exact h
end
section
variable {H : Type} {F : Fence} {nF : Nat} {P : Program} {ops : Array Oper} {Q : Exit → Act → World → Prop} {rest : List Oper} {o : Oper} {a : Act} {w : World}
theorem wpListIn_len_own (hg : o.guard = none) (m : Operand) (t : TypeId) (hop : o.op = Op.call { callee := Callee.builtin Builtin.len,args := #[m],argTypes := #[t] })
  (k e : TypeId) (ht : P.underlying t = some (.map k e)) (R : Value → Option (DataW H × List MemPlace)) (b n : Nat) (D : DataW H) (hm : a.eval m = .map (some b)) (hown : w.ownsMap P k R b n D)
  (hK : wpListIn F nF P ops Q rest (a.put o.dst (.int .i64 (Maps.size D))) w) :
  wpListIn F nF P ops Q (o :: rest) a w := by
 refine wpListIn_plain hg fun K' hK' => ?_
 unfold Oper.wpIn
 refine ⟨by simp [Oper.about,hop,resolve,Target.leads],?_⟩
 rw [Oper.semAt_plain F _ _ (by rw [hop];intro c hc';cases hc')]
 simp [execOp,hop,resolve,invoke,builtin,hm,hown.len ht o.type,Result.andThen]
 exact hK' _ _ hK
end
theorem arr_fun (T : Array Value) (n : Nat) (h : T.size = n) : ∃ v : Nat → Value,T = ((List.range n).map v).toArray ∧ ∀ i,T.getD i undef = v i := by
 refine ⟨fun i => T.getD i undef,?_,fun _ => rfl⟩
 subst h
 apply Array.ext
 ·simp
 ·intro i h1 h2
  simp [h1]
theorem al_cell {V : World} {o : Obj} {p : Addr} {u : Value} (h : V.cell? p = some u) : (V.alloc o).cell? p = some u := cell_kept h (World.grownBy_alloc V o none) (fun r e => by cases e)
theorem st_cell {V : World} {q p : Addr} {u x : Value} (hne : q ≠ p) (h : V.cell? p = some u) : (V.setCell q x).cell? p = some u := (World.cell?_setCell_other V q p x hne).trans h
theorem two_new (W : World) (u v : Value) (t : TypeId) : (W.alloc (.cells #[u,v] t)).cell? ⟨W.heap.size,0,none⟩ = some u ∧ (W.alloc (.cells #[u,v] t)).cell? ⟨W.heap.size,1,none⟩ = some v := by
 have h : (W.alloc (.cells #[u,v] t)).heap[W.heap.size]? = some (.cells #[u,v] t (0,0)) := World.alloc_heap_new W _
 exact ⟨cell_of_row _ _ 0 _ _ _ h,cell_of_row _ _ 1 _ _ _ h⟩
def Marks (B C : Nat) (ds : List Deferred) (w : World) : Prop :=
 (∀ d ∈ ds,∃ D,d = { target := .collected D,args := #[] } ∧ B ≤ D ∧ D < C ∧ w.heap[D]? = some (.deferred (some []))) ∧ ds.Pairwise fun d d' => d.target ≠ d'.target
theorem Marks.nil (B C : Nat) (w : World) : Marks B C [] w := ⟨by simp,.nil⟩
theorem Marks.keep {B C : Nat} {ds : List Deferred} {w w' : World} (h : Marks B C ds w) (hb : Below C w w') : Marks B C ds w' :=
 ⟨fun d hd => by obtain ⟨D,e,h1,h2,h3⟩ := h.1 d hd;exact ⟨D,e,h1,h2,(hb.block D h2).trans h3⟩,h.2⟩
theorem Marks.cons {B C C' : Nat} {ds : List Deferred} {w : World} {D : Nat} (h : Marks B C ds w) (hB : B ≤ D) (hC : C ≤ D) (hD : D < C') (hd : w.heap[D]? = some (.deferred (some []))) :
  Marks B C' ({ target := .collected D,args := #[] } :: ds) w := by
 refine ⟨fun d hd' => ?_,List.pairwise_cons.2 ⟨fun d hd' => ?_,h.2⟩⟩
 ·rcases List.mem_cons.1 hd' with rfl | hd'
  ·exact ⟨D,rfl,hB,hD,hd⟩
  ·obtain ⟨D',e,h1,h2,h3⟩ := h.1 d hd';exact ⟨D',e,h1,by omega,h3⟩
 ·obtain ⟨D',rfl,h1,h2,h3⟩ := h.1 d hd'
  intro e
  simp only [Target.collected.injEq] at e
  omega
theorem leaves_marks {F : Fence} {n : Nat} {P : Program} {fn : Func} {tmps : Array Value} {R : Ending → World → Prop} {B C : Nat} : ∀ (ds : List Deferred) (w : World),Marks B C ds w →
  (∀ w',Below B w w' → LeavesIn F n P fn tmps R [] .returning w') → LeavesInM F n P fn tmps R ds .returning w
 | [],w,_,h => h w (Below.refl _ _)
 | d :: ds,w,hm,h => by
  obtain ⟨h1,h2⟩ := hm
  obtain ⟨D,rfl,hB,hC,hD⟩ := h1 d List.mem_cons_self
  have h3 := List.pairwise_cons.1 h2
  refine ⟨by simp,.inl ⟨D,_,rfl,run_takeDeferred hD,?_⟩⟩
  have hb : Below B w (w.putObj D (.deferred none)) := (Below.refl B w).grown (grownBy_putObj' w D _) (by have := (Array.getElem?_eq_some_iff.1 hD).1;omega) (fun k e => by cases e;exact hB)
  refine leaves_marks (C := C) ds _ ⟨fun d' hd' => ?_,h3.2⟩ (fun w' hb' => h w' (hb.trans hb'))
  obtain ⟨D',rfl,hB',hC',hD'⟩ := h1 d' (List.mem_cons_of_mem _ hd')
  have hne : D' ≠ D := fun e => h3.1 _ hd' (by rw [e])
  exact ⟨D',rfl,hB',hC',by rw [(grownBy_putObj' w D (.deferred none)).block D' (Array.getElem?_eq_some_iff.1 hD').1 (by simpa using hne)];exact hD'⟩
end Go.Proofs.YtjcpjhlclpdpjaaGreat
namespace Go.Proofs.YtjcpjhlclpdpjaaGreat
open Go.RowKit
section
variable {F : Fence} {n : Nat} {P : Program} {ops : Array Oper} {Q : Exit → Act → World → Prop} {md : Region.Mode} {S : World → Prop}
def wpOTI (F : Fence) (n : Nat) (P : Program) (ops : Array Oper) (Q : Exit → Act → World → Prop) (S : World → Prop) : OT → Act → World → Prop
 | .done,a,w => Q .normal a w
 | .take i t,a,w => ∃ o v,ops[i]? = some o ∧ YT P ops S o v a ∧ wpOTI F n P ops Q S t (a.put o.dst v) w
 | .one i t,a,w => wpOpIn F n P ops Q i (fun a' w' => S w' ∧ wpOTI F n P ops Q S t a' w') a w
 | .two i t j u,a,w => wpOpIn F n P ops Q i (fun a' w' => S w' ∧ wpOTI F n P ops Q S t a' w') a w ∧ wpOpIn F n P ops Q j (fun a' w' => S w' ∧ wpOTI F n P ops Q S u a' w') a w
theorem wpAnyT_of_tree (hd : noDef ops = true) (hsel : Region.noSelect ops = true) (hQ : ∀ (x : Option Tmp) (v : Value) c a w,Q (.panic c) (a.put x v) w → Q (.panic c) a w) :
  ∀ (t : OT) (fuel : Nat) (E : List Nat) (listed : Array Bool) (a : Act) (w : World),t.depth ≤ fuel → otB md ops t listed = true → S w → wpOTI F n P ops Q S t a w → wpAnyT F n P md ops Q (fun _ => S) fuel E listed a w
 | .done,fuel,E,listed,a,w,_,hB,_,h => wpAnyT_done (by simpa [otB] using hB) h fuel
 | .take i t,0,_,_,_,_,hp,_,_,_ => by simp [OT.depth] at hp
 | .one i t,0,_,_,_,_,hp,_,_,_ => by simp [OT.depth] at hp
 | .two i t j u,0,_,_,_,_,hp,_,_,_ => by simp [OT.depth] at hp
 | .take i t,fuel + 1,E,listed,a,w,hp,hB,hS,h => by
  simp only [otB,Bool.and_eq_true] at hB
  obtain ⟨o,v,ho,hy,h⟩ := h
  exact wpAnyT_first hd ho (Region.noSelect_spec hsel) (fun c a w h => hQ _ _ c a w h) fuel E listed a w (Region.free_spec ho hB.1.2) (by simpa using hB.1.1) hy hS (fun _ _ => hS)
   (wpAnyT_of_tree hd hsel hQ t fuel _ _ _ w (by simp only [OT.depth] at hp;omega) hB.2 hS h)
 | .one i t,fuel + 1,E,listed,a,w,hp,hB,hS,h => by
  simp only [otB,Bool.and_eq_true,decide_eq_true_eq] at hB
  refine ⟨fun h0 => (by rw [h0] at hB;cases hB.1),fun j hj => ?_⟩
  rw [hB.1,List.mem_singleton] at hj
  subst hj
  exact wpOpIn_mono (fun a' w' h' => ⟨fun _ _ => h'.1,wpAnyT_of_tree hd hsel hQ t fuel _ _ a' w' (by simp only [OT.depth] at hp;omega) hB.2 h'.1 h'.2⟩) h
 | .two i t j u,fuel + 1,E,listed,a,w,hp,hB,hS,h => by
  simp only [otB,Bool.and_eq_true,decide_eq_true_eq] at hB
  refine ⟨fun h0 => (by rw [h0] at hB;cases hB.1.1),fun k hk => ?_⟩
  rw [hB.1.1] at hk
  simp only [List.mem_cons,List.not_mem_nil,or_false] at hk
  rcases hk with rfl | rfl
  ·exact wpOpIn_mono (fun a' w' h' => ⟨fun _ _ => h'.1,wpAnyT_of_tree hd hsel hQ t fuel _ _ a' w' (by simp only [OT.depth] at hp;omega) hB.1.2 h'.1 h'.2⟩) h.1
  ·exact wpOpIn_mono (fun a' w' h' => ⟨fun _ _ => h'.1,wpAnyT_of_tree hd hsel hQ u fuel _ _ a' w' (by simp only [OT.depth] at hp;omega) hB.2 h'.1 h'.2⟩) h.2
theorem wpIn_region_tree {id : Nat} {a : Act} {w : World} {l : List Oper} (S : World → Prop) (t : OT) (hm : P.follows .mixedOrders = true) (hd : noDef l.toArray = true) (hsel : Region.noSelect l.toArray = true) (hp : decide (t.depth ≤ l.length) = true)
  (hB : otB .any l.toArray t (Array.replicate l.length false) = true) (hQ : ∀ (x : Option Tmp) (v : Value) c a w,Q (.panic c) (a.put x v) w → Q (.panic c) a w) (hS : S w.drew)
  (h : wpOTI F n P l.toArray Q S t a w.drew) : (Code.region id l.toArray true).wpIn F n P Q a w := by
 refine wpIn_region_any hm (wpAnyIn_of_T (C := fun _ => S) _ [] _ _ _ ?_)
 have := wpAnyT_of_tree (md := .any) hd hsel hQ t l.length [] (Array.replicate l.length false) a _ (of_decide_eq_true hp) hB hS h
 simpa using this
def noPanic (Q : Exit → Act → World → Prop) : Exit → Act → World → Prop
 | .panic _,_,_ => False
 | e,a,w => Q e a w
theorem wpIn_region_treeM {id : Nat} {a : Act} {w : World} {l : List Oper} (S : World → Prop) (t : OT) (hm : P.follows .mixedOrders = true) (hd : noDef l.toArray = true) (hsel : Region.noSelect l.toArray = true) (hp : decide (t.depth ≤ l.length) = true)
  (hB : otB .any l.toArray t (Array.replicate l.length false) = true) (hS : S w.drew)
  (h : wpOTI F n P l.toArray (noPanic Q) S t a w.drew) : (Code.region id l.toArray true).wpIn F n P Q a w := by
 refine wpIn_mono (wpIn_region_tree (Q := noPanic Q) S t hm hd hsel hp hB (fun _ _ _ _ _ h => h) hS h) ?_
 intro e a w h
 cases e <;> first | exact h | exact h.elim
theorem wpOTI_done {a : Act} {w : World} (h : Q .normal a w) : wpOTI F n P ops Q S .done a w := h
theorem wpOTI_take {i : Nat} {t : OT} {a : Act} {w : World} {o : Oper} (ho : ops[i]? = some o) (v : Value) (hw : Region.wanted o (yielded ops a.tmps) = true) (hab : ∀ w,o.about P w a.eval = none)
  (hy : ∀ w',S w' → (execOp a.eval o).run P w' = .ok (.value v) w') (h : ∀ K : Act → Prop,(∀ a',wpOTI F n P ops Q S t a' w → K a') → K (a.put o.dst v)) : wpOTI F n P ops Q S (.take i t) a w :=
 ⟨o,v,ho,⟨.inl ⟨hw,hy⟩,hab⟩,h _ fun _ h => h⟩
theorem wpOTI_skip {i : Nat} {t : OT} {a : Act} {w : World} {o : Oper} (ho : ops[i]? = some o) (hw : Region.wanted o (yielded ops a.tmps) = false) (hab : ∀ w,o.about P w a.eval = none)
  (h : ∀ K : Act → Prop,(∀ a',wpOTI F n P ops Q S t a' w → K a') → K (a.put o.dst undef)) : wpOTI F n P ops Q S (.take i t) a w :=
 ⟨o,undef,ho,⟨.inr ⟨hw,rfl⟩,hab⟩,h _ fun _ h => h⟩
theorem wpOpIn_force {i : Nat} {K0 : Act → World → Prop} {a : Act} {w : World} {o : Oper} (ho : ops[i]? = some o) (hw : Region.wanted o (yielded ops a.tmps) = true)
  (h : ∀ K : Act → World → Prop,(∀ a' w',K0 a' w' → K a' w') → o.wpIn F n P a w K Q) : wpOpIn F n P ops Q i K0 a w := by
 unfold wpOpIn
 rw [ho]
 show if Region.wanted o (yielded ops a.tmps) = true then _ else _
 rw [if_pos hw]
 exact h _ fun _ _ h => h
theorem wpOpIn_pass {i : Nat} {K0 : Act → World → Prop} {a : Act} {w : World} {o : Oper} (hF : ∀ f,F.fn f) (ho : ops[i]? = some o) (hw : Region.wanted o (yielded ops a.tmps) = false)
  (h : ∀ K : Act → Prop,(∀ a',K0 a' w → K a') → K (a.put o.dst undef)) : wpOpIn F n P ops Q i K0 a w := by
 unfold wpOpIn
 rw [ho]
 show if Region.wanted o (yielded ops a.tmps) = true then _ else _
 rw [if_neg (by rw [hw];simp)]
 exact ⟨fun f _ => hF f,h (fun a' => K0 a' w) fun _ h => h⟩
theorem wpOTI_one {i : Nat} {t : OT} {a : Act} {w : World} {o : Oper} (ho : ops[i]? = some o) (hw : Region.wanted o (yielded ops a.tmps) = true)
  (h : ∀ K : Act → World → Prop,(∀ a' w',S w' → wpOTI F n P ops Q S t a' w' → K a' w') → o.wpIn F n P a w K Q) : wpOTI F n P ops Q S (.one i t) a w :=
 wpOpIn_force ho hw fun K hK => h K fun a' w' h1 h2 => hK a' w' ⟨h1,h2⟩
theorem wpOTI_pass {i : Nat} {t : OT} {a : Act} {w : World} {o : Oper} (hF : ∀ f,F.fn f) (ho : ops[i]? = some o) (hw : Region.wanted o (yielded ops a.tmps) = false) (hS : S w)
  (h : ∀ K : Act → Prop,(∀ a',wpOTI F n P ops Q S t a' w → K a') → K (a.put o.dst undef)) : wpOTI F n P ops Q S (.one i t) a w :=
 wpOpIn_pass hF ho hw fun K hK => h K fun a' h => hK a' ⟨hS,h⟩
theorem wpOTI_two {i j : Nat} {t u : OT} {a : Act} {w : World} {o o' : Oper} (ho : ops[i]? = some o) (hw : Region.wanted o (yielded ops a.tmps) = true) (ho' : ops[j]? = some o') (hw' : Region.wanted o' (yielded ops a.tmps) = true)
  (h : ∀ K : Act → World → Prop,(∀ a' w',S w' → wpOTI F n P ops Q S t a' w' → K a' w') → o.wpIn F n P a w K Q)
  (h' : ∀ K : Act → World → Prop,(∀ a' w',S w' → wpOTI F n P ops Q S u a' w' → K a' w') → o'.wpIn F n P a w K Q) : wpOTI F n P ops Q S (.two i t j u) a w :=
 ⟨wpOpIn_force ho hw fun K hK => h K fun a' w' h1 h2 => hK a' w' ⟨h1,h2⟩,wpOpIn_force ho' hw' fun K hK => h' K fun a' w' h1 h2 => hK a' w' ⟨h1,h2⟩⟩
end
end Go.Proofs.YtjcpjhlclpdpjaaGreat
