import Derived.Test.YtjcpjhlclpdpjaaGreatS01
set_option linter.unusedVariables false
set_option maxRecDepth 100000
set_option maxHeartbeats 16000000
namespace Go.Proofs.YtjcpjhlclpdpjaaGreat
open Go.RowKit
attribute [local go_sem] Oper.semAt_some
theorem wrap_nat {k : Nat} (h : k < 9223372036854775808) : IntKind.i64.wrap (k : Int) = (k : Int) := by
 simp only [IntKind.wrap,IntKind.bits,IntKind.signed]
 simp
 omega
theorem pow_lt62 {k n : Nat} (h : k ≤ n) (hn : n ≤ 61) : (2 : Nat) ^ k ≤ 2305843009213693952 := by
 have := Nat.pow_le_pow_right (show 2 > 0 by omega) (Nat.le_trans h hn)
 simpa using this
theorem rpower_any (n : Nat) (hn : n ≤ 61) (w : World) : Calls Tryz.prog 20 #[.int .i64 (n : Int)] w fun r w' => r = .returned (.int .i64 ((2 ^ n : Nat) : Int)) ∧ w = w' := by
 go_enter Tryz.func20,Tryz.ntmps20
 go_wp2
 go_loopw [3,4] (fun x i wr => w = wr ∧ ∃ k : Nat,k ≤ n ∧ i = .int .i64 k ∧ x = .int .i64 ((2 ^ k : Nat) : Int)) (fun _ i _ => n - (intOf i).toNat)
 case atStart => exact ⟨rfl,0,Nat.zero_le _,rfl,rfl⟩
 case round =>
  obtain ⟨rfl,k,hk,rfl,rfl⟩ := hrel
  by_cases hlt : k < n
  ·obtain ⟨p,hp⟩ : ∃ p,(2 : Nat) ^ k = p := ⟨_,rfl⟩
   have hp1 : p ≤ 2305843009213693952 := hp ▸ pow_lt62 hk hn
   have hp2 : (2 : Nat) ^ (k + 1) = 2 * p := by rw [Nat.pow_succ,hp];omega
   rw [hp]
   have HP2 := Lib.hid hp2
   clear hp2 hp
   have k1 : (k : Int) < (n : Int) := by omega
   go_wp2
   go_roundw
   case rel => exact ⟨trivial,k + 1,by omega,by go_num,by rw [HP2.out];go_num⟩
   case measure => simp [intOf];omega
  ·obtain rfl : k = n := by omega
   go_wp2
   go_ret
   exact ⟨rfl,rfl⟩
theorem rmember_any (m i : Nat) (hm : m ≤ 4611686018427387904) (hi : i ≤ 61) (w : World) : Calls Tryz.prog 44 #[.int .i64 (m : Int),.int .i64 (i : Int)] w fun r w' => r = .returned (.bool (m.testBit i)) ∧ w = w' := by
 have HR : Hid (m.testBit i = decide (m / 2 ^ i % 2 = 1)) := Nat.testBit_eq_decide_div_mod_eq
 have hpw := pow_lt62 (Nat.le_refl i) hi
 have hp0 : 0 < (2 : Nat) ^ i := Nat.pow_pos (by omega)
 obtain ⟨p,hp⟩ : ∃ p,(2 : Nat) ^ i = p := ⟨_,rfl⟩
 have HP := Lib.hid hp
 rw [hp] at hpw hp0
 clear hp
 have hq : m / p ≤ m := Nat.div_le_self _ _
 obtain ⟨q,hqq⟩ : ∃ q,m / p = q := ⟨_,rfl⟩
 have hdiv : Int.tdiv (m : Int) (p : Int) = (q : Int) := by rw [Int.tdiv_eq_ediv_of_nonneg (by omega),← hqq];rfl
 have HQ := Lib.hid hqq
 rw [hqq] at hq
 have hmod : Int.tmod (q : Int) 2 = ((q % 2 : Nat) : Int) := by rw [Int.tmod_eq_emod_of_nonneg (by omega)];rfl
 obtain ⟨r,hr⟩ : ∃ r,q % 2 = r := ⟨_,rfl⟩
 have HRR := Lib.hid hr
 rw [hr] at hmod
 have hr2 : r < 2 := by rw [← hr];exact Nat.mod_lt _ (by omega)
 clear hqq hr
 go_enter Tryz.func44,Tryz.ntmps44
 go_wp2_with (first | (go_at_call 20;refine (rpower_any i hi _).mono ?_;rw [HP.out];rintro e w' ⟨rfl,rfl⟩) | fail)
 go_ret
 refine ⟨?_,rfl⟩
 rw [HR.out,HP.out,HQ.out,HRR.out]
 show Ending.returned (Value.bool ((r : Int) == 1)) = _
 congr 2
 rw [Bool.eq_iff_iff]
 simp
 omega
theorem Boxed1.next {e : Est} {w w0 w1 : World} (h : Boxed1 e w w0) (hb : Below w0.heap.size w0 w1) : Boxed1 e w w1 :=
 ⟨h.bel.trans (hb.mono (by have := h.lt;omega)),by have := h.lt;have := hb.size;omega,fun i v hv => (hb.cell (p := ⟨w.heap.size,i,none⟩) h.lt).trans (h.row i v hv)⟩
theorem Boxed1.drew {e : Est} {w w0 : World} (h : Boxed1 e w w0) : Boxed1 e w w0.drew := h.next ((Drw.refl w0).drew.below _)
theorem RI.ok.at {w : World} {B : Nat} {r : RI} (h : r.ok w B) {k : Nat} (hk : k < r.d.length) : ∃ b o,r.A = some ⟨b,o,none⟩ ∧ b < B ∧ w.cell? ⟨b,o + k,none⟩ = some (.int .i64 (r.d.getD k 0)) := by
 obtain ⟨b,o,e1,hb,hc⟩ := h.1.2 (by omega)
 refine ⟨b,o,e1,hb,hc k _ ?_⟩
 rw [List.getElem?_map,List.getElem?_eq_getElem hk]
 simp [hk]
theorem RI.ok.allAt {w : World} {B : Nat} {r : RI} (h : r.ok w B) (h0 : 0 < r.d.length) : ∃ b o,r.A = some ⟨b,o,none⟩ ∧ b < B ∧ ∀ W,Below B w W → ∀ k,k < r.d.length → W.cell? ⟨b,o + k,none⟩ = some (.int .i64 (r.d.getD k 0)) := by
 obtain ⟨b,o,e1,hb,hc⟩ := h.1.2 h0
 refine ⟨b,o,e1,hb,fun W hW k hk => (hW.cell (p := ⟨b,o + k,none⟩) hb).trans (hc k _ ?_)⟩
 rw [List.getElem?_map,List.getElem?_eq_getElem hk]
 simp [hk]
def Est.isH (e : Est) (l : List Int) (k : Nat) : Prop := ∀ j,j < k → 0 ≤ e.idx (l.getD j 0) ∧ (0 < j → l.getD (j - 1) 0 < l.getD j 0)
theorem rheirs_any (e : Est) (r : RI) (w : World) (h : e.ok w w.heap.size) (hr : r.ok w w.heap.size) (hn : e.H.length ≤ 1000000) :
  Calls Tryz.prog 35 #[.agg e.cells.toArray,r.cell] w fun x w' => ∃ b,x = .returned (.bool b) ∧ (b = true → e.isH r.d r.d.length) ∧ Below w.heap.size w w' := by
 have hX := boxed1 e w
 have HI : Hid ((Tryz.prog.info? 26).map (·.size) = some e.cells.length) := by show _ = _;kernel_rfl
 obtain ⟨CS,hCS⟩ : ∃ CS,e.cells = CS := ⟨_,rfl⟩
 rw [hCS] at HI
 have HR : Hid (∀ (p : Int) (W : World),Boxed1 e w W → Calls Tryz.prog 21 #[.agg CS.toArray,.int .i64 p] W fun r w' => r = .returned (.int .i64 (e.idx p)) ∧ Below W.heap.size W w') := fun p W hW => by
  rw [← hCS]
  exact rheir_any e p W ((h.below hW.bel).more (by have := hW.lt;omega)) hn
 have HCS : Hid (∀ W,Boxed1 e w W → ∀ i v,CS[i]? = some v → W.cell? ⟨w.heap.size,i,none⟩ = some v) := fun W hW i v hv => hW.row i v (by rw [hCS];exact hv)
 obtain ⟨A,C,d⟩ := r
 have hnc : d.length ≤ C := hr.2.1
 have hcm : C ≤ maxLen := hr.2.2
 unfold maxLen at hcm
 have HH := Lib.hid hr
 show Calls _ _ #[_,.slice A d.length C] _ _
 obtain ⟨n,hnn⟩ : ∃ n,d.length = n := ⟨_,rfl⟩
 rw [hnn] at hnc ⊢
 have HN := Lib.hid hnn
 rw [hCS] at hX ⊢
 clear hr h hnn hCS
 go_enter Tryz.func35,Tryz.ntmps35
 go_wp2
 generalize (w.alloc (.cells CS.toArray 26)) = w0 at hX ⊢
 have HX := Lib.hid hX
 clear hX
 go_loopw [5] (fun i wr => Boxed1 e w wr ∧ ∃ k : Nat,k ≤ n ∧ i = .int .i64 k ∧ e.isH d k) (fun i _ => n - (intOf i).toNat)
 case atStart => exact ⟨HX.out,0,Nat.zero_le _,rfl,fun j hj => absurd hj (by omega)⟩
 case round =>
  clear HX
  obtain ⟨hX,k,hk,rfl,hu⟩ := hrel
  have HX := Lib.hid hX
  have HU := Lib.hid hu
  clear hX hu
  by_cases hlt : k < n
  ·have k1 : (k : Int) < (n : Int) := by omega
   have k0 : (0 : Int) ≤ (k : Int) := by omega
   obtain ⟨b,o,hA1,hb,hall⟩ := HH.out.allAt (show 0 < d.length by rw [HN.out];omega)
   change A = _ at hA1
   subst hA1
   have hall : ∀ W,Boxed1 e w W → ∀ j,j < n → W.cell? ⟨b,o + j,none⟩ = some (.int .i64 (d.getD j 0)) := fun W hW j hj => hall W hW.bel j (by show j < d.length;rw [HN.out];exact hj)
   obtain ⟨P,hP⟩ : ∃ P,d.getD k 0 = P := ⟨_,rfl⟩
   obtain ⟨I,hIx⟩ : ∃ I,e.idx P = I := ⟨_,rfl⟩
   have hix := hIx
   rcases Int.lt_or_le I 0 with hneg | hpos
   ·have e0 : decide (I < 0) = true := decide_eq_true hneg
    have HC : Hid (∀ W,Boxed1 e w W → W.cell? ⟨b,o + k,none⟩ = some (.int .i64 P) ∧ decide (I < 0) = true) := fun W hW => ⟨by rw [hall W hW k hlt,← hP],e0⟩
    clear hIx hall hP e0
    go_wp2
    rename_i Kz hKz
    refine wp_region_ord (fun w' => Boxed1 e w w') [(0,true),(1,true),(2,true),(3,true),(4,true),(5,false),(6,true),(7,true),(8,true),(9,true),(10,true),(11,true),(12,true),(13,true),(14,true),(15,true),(16,true),(17,true),(18,true),(19,true),(20,true),(21,true),(22,true)] (by kernel_rfl) (by kernel_rfl) rfl (by kernel_rfl) (fun x _ _ _ _ h => by cases x <;> exact h) HX.out.drew ?_
    refine wpOrd_take rfl _ (by rfl) (fun w' hS => run_load_exec 26 _ rfl ⟨w.heap.size,0,none⟩ (by rfl) CS _ (fun i v hv => by rw [Addr.add_flat,Nat.zero_add];exact HCS.out w' hS i v hv) Tryz.underlying26 (by rfl) HI.out) fun KK hKK => ?_
    go_simp
    refine hKK _ ?_
    clear hKK KK
    iterate 4 (first | (refine wpOrd_skip rfl (by rfl) fun KK hKK => ?_;go_simp;refine hKK _ ?_;clear hKK KK) | (refine wpOrd_take rfl _ (by rfl) (by intro w' hS;obtain ⟨c0,c1⟩ := HC.out w' hS;go_simp;try with_reducible rfl) fun KK hKK => ?_;go_simp;refine hKK _ ?_;clear hKK KK))
    refine wpOrd_force rfl (by rfl) fun KK hKK => ?_
    go_simp
    refine (HR.out _ _ HX.out.drew).mono ?_
    rintro x w1 ⟨rfl,hb1⟩
    refine hKK _ _ (HX.out.drew.next hb1) ?_
    clear hKK KK
    rw [hix]
    have HX1 := Lib.hid (HX.out.drew.next hb1)
    clear hb1
    iterate 17 (first | (refine wpOrd_skip rfl (by rfl) fun KK hKK => ?_;go_simp;refine hKK _ ?_;clear hKK KK) | (refine wpOrd_take rfl _ (by rfl) (by intro w' hS;obtain ⟨c0,c1⟩ := HC.out w' hS;go_simp;try with_reducible rfl) fun KK hKK => ?_;go_simp;refine hKK _ ?_;clear hKK KK))
    refine wpOrd_nil ?_
    show Kz _ _
    refine hKz _ _ ?_
    go_simp
    go_wp2
    go_ret
    exact ⟨false,rfl,(fun h => by cases h),HX1.out.bel⟩
   ·have e0 : decide (I < 0) = false := decide_eq_false (by omega)
    rcases Nat.eq_zero_or_pos k with rfl | hk0
    ·have HC : Hid (∀ W,Boxed1 e w W → W.cell? ⟨b,o,none⟩ = some (.int .i64 P) ∧ decide (I < 0) = false) := fun W hW => ⟨by have := hall W hW 0 hlt;rw [hP,Nat.add_zero] at this;exact this,e0⟩
     have HU1 : Hid (e.isH d 1) := fun j hj => by
      obtain rfl : j = 0 := by omega
      exact ⟨by rw [hP,hix];exact hpos,fun h => absurd h (by omega)⟩
     clear hIx hall hP e0
     go_wp2
     rename_i Kz hKz
     refine wp_region_ord (fun w' => Boxed1 e w w') [(0,true),(1,true),(2,true),(3,true),(4,true),(5,false),(6,true),(7,true),(8,true),(9,true),(10,true),(11,true),(12,true),(13,true),(14,true),(15,true),(16,true),(17,true),(18,true),(19,true),(20,true),(21,true),(22,true)] (by kernel_rfl) (by kernel_rfl) rfl (by kernel_rfl) (fun x _ _ _ _ h => by cases x <;> exact h) HX.out.drew ?_
     refine wpOrd_take rfl _ (by rfl) (fun w' hS => run_load_exec 26 _ rfl ⟨w.heap.size,0,none⟩ (by rfl) CS _ (fun i v hv => by rw [Addr.add_flat,Nat.zero_add];exact HCS.out w' hS i v hv) Tryz.underlying26 (by rfl) HI.out) fun KK hKK => ?_
     go_simp
     refine hKK _ ?_
     clear hKK KK
     iterate 4 (first | (refine wpOrd_skip rfl (by rfl) fun KK hKK => ?_;go_simp;refine hKK _ ?_;clear hKK KK) | (refine wpOrd_take rfl _ (by rfl) (by intro w' hS;obtain ⟨c0,c1⟩ := HC.out w' hS;go_simp;try with_reducible rfl) fun KK hKK => ?_;go_simp;refine hKK _ ?_;clear hKK KK))
     refine wpOrd_force rfl (by rfl) fun KK hKK => ?_
     go_simp
     refine (HR.out _ _ HX.out.drew).mono ?_
     rintro x w1 ⟨rfl,hb1⟩
     refine hKK _ _ (HX.out.drew.next hb1) ?_
     clear hKK KK
     rw [hix]
     have HX1 := Lib.hid (HX.out.drew.next hb1)
     clear hb1
     iterate 17 (first | (refine wpOrd_skip rfl (by rfl) fun KK hKK => ?_;go_simp;refine hKK _ ?_;clear hKK KK) | (refine wpOrd_take rfl _ (by rfl) (by intro w' hS;obtain ⟨c0,c1⟩ := HC.out w' hS;go_simp;try with_reducible rfl) fun KK hKK => ?_;go_simp;refine hKK _ ?_;clear hKK KK))
     refine wpOrd_nil ?_
     show Kz _ _
     refine hKz _ _ ?_
     go_simp
     go_wp2
     go_roundw
     case rel => exact ⟨HX1.out,1,by omega,by go_num,HU1.out⟩
     case measure => simp [intOf];omega
    ·obtain ⟨j,hj⟩ : ∃ j,k = j + 1 := ⟨k - 1,by omega⟩
     have j0 : (0 : Int) ≤ (j : Int) := by omega
     have j1 : (j : Int) < (n : Int) := by omega
     obtain ⟨P0,hP0⟩ : ∃ P0,d.getD j 0 = P0 := ⟨_,rfl⟩
     by_cases hlt0 : P0 < P
     ·have HC : Hid (∀ W,Boxed1 e w W → W.cell? ⟨b,o + k,none⟩ = some (.int .i64 P) ∧ decide (I < 0) = false ∧ W.cell? ⟨b,o + j,none⟩ = some (.int .i64 P0) ∧ decide (P ≤ P0) = false ∧ decide (0 < (k : Int)) = true ∧ (k : Int) - 1 = (j : Int) ∧ IntKind.i64.wrap (j : Int) = (j : Int)) := fun W hW => ⟨by rw [hall W hW _ hlt,← hP],e0,by rw [hall W hW j (by omega),← hP0],decide_eq_false (by omega),decide_eq_true (by omega),by omega,wrap_nat (by omega)⟩
      have HU1 : Hid (e.isH d (k + 1)) := fun i hi => by
       rcases Nat.lt_or_ge i k with h1 | h1
       ·exact HU.out i h1
       ·obtain rfl : i = k := by omega
        exact ⟨by rw [hP,hix];exact hpos,fun _ => by rw [hP,show i - 1 = j by omega,hP0];exact hlt0⟩
      clear hIx hall hP e0 hP0 hj
      go_wp2
      rename_i Kz hKz
      refine wp_region_ord (fun w' => Boxed1 e w w') [(0,true),(1,true),(2,true),(3,true),(4,true),(5,false),(6,true),(7,true),(8,true),(9,true),(10,true),(11,true),(12,true),(13,true),(14,true),(15,true),(16,true),(17,true),(18,true),(19,true),(20,true),(21,true),(22,true)] (by kernel_rfl) (by kernel_rfl) rfl (by kernel_rfl) (fun x _ _ _ _ h => by cases x <;> exact h) HX.out.drew ?_
      refine wpOrd_take rfl _ (by rfl) (fun w' hS => run_load_exec 26 _ rfl ⟨w.heap.size,0,none⟩ (by rfl) CS _ (fun i v hv => by rw [Addr.add_flat,Nat.zero_add];exact HCS.out w' hS i v hv) Tryz.underlying26 (by rfl) HI.out) fun KK hKK => ?_
      go_simp
      refine hKK _ ?_
      clear hKK KK
      iterate 4 (first | (refine wpOrd_skip rfl (by rfl) fun KK hKK => ?_;go_simp;refine hKK _ ?_;clear hKK KK) | (refine wpOrd_take rfl _ (by rfl) (by intro w' hS;obtain ⟨c0,c1,c2,c3,c4,c5,c6⟩ := HC.out w' hS;go_simp;try with_reducible rfl) fun KK hKK => ?_;go_simp;refine hKK _ ?_;clear hKK KK))
      refine wpOrd_force rfl (by rfl) fun KK hKK => ?_
      go_simp
      refine (HR.out _ _ HX.out.drew).mono ?_
      rintro x w1 ⟨rfl,hb1⟩
      refine hKK _ _ (HX.out.drew.next hb1) ?_
      clear hKK KK
      rw [hix]
      have HX1 := Lib.hid (HX.out.drew.next hb1)
      clear hb1
      iterate 17 (first | (refine wpOrd_skip rfl (by rfl) fun KK hKK => ?_;go_simp;refine hKK _ ?_;clear hKK KK) | (refine wpOrd_take rfl _ (by rfl) (by intro w' hS;obtain ⟨c0,c1,c2,c3,c4,c5,c6⟩ := HC.out w' hS;go_simp;try with_reducible rfl) fun KK hKK => ?_;go_simp;refine hKK _ ?_;clear hKK KK))
      refine wpOrd_nil ?_
      show Kz _ _
      refine hKz _ _ ?_
      go_simp
      go_wp2
      go_roundw
      case rel => exact ⟨HX1.out,k + 1,by omega,by go_num,HU1.out⟩
      case measure => simp [intOf];omega
     ·have HC : Hid (∀ W,Boxed1 e w W → W.cell? ⟨b,o + k,none⟩ = some (.int .i64 P) ∧ decide (I < 0) = false ∧ W.cell? ⟨b,o + j,none⟩ = some (.int .i64 P0) ∧ decide (P ≤ P0) = true ∧ decide (0 < (k : Int)) = true ∧ (k : Int) - 1 = (j : Int) ∧ IntKind.i64.wrap (j : Int) = (j : Int)) := fun W hW => ⟨by rw [hall W hW _ hlt,← hP],e0,by rw [hall W hW j (by omega),← hP0],decide_eq_true (by omega),decide_eq_true (by omega),by omega,wrap_nat (by omega)⟩
      clear hIx hall hP e0 hP0 hj
      go_wp2
      rename_i Kz hKz
      refine wp_region_ord (fun w' => Boxed1 e w w') [(0,true),(1,true),(2,true),(3,true),(4,true),(5,false),(6,true),(7,true),(8,true),(9,true),(10,true),(11,true),(12,true),(13,true),(14,true),(15,true),(16,true),(17,true),(18,true),(19,true),(20,true),(21,true),(22,true)] (by kernel_rfl) (by kernel_rfl) rfl (by kernel_rfl) (fun x _ _ _ _ h => by cases x <;> exact h) HX.out.drew ?_
      refine wpOrd_take rfl _ (by rfl) (fun w' hS => run_load_exec 26 _ rfl ⟨w.heap.size,0,none⟩ (by rfl) CS _ (fun i v hv => by rw [Addr.add_flat,Nat.zero_add];exact HCS.out w' hS i v hv) Tryz.underlying26 (by rfl) HI.out) fun KK hKK => ?_
      go_simp
      refine hKK _ ?_
      clear hKK KK
      iterate 4 (first | (refine wpOrd_skip rfl (by rfl) fun KK hKK => ?_;go_simp;refine hKK _ ?_;clear hKK KK) | (refine wpOrd_take rfl _ (by rfl) (by intro w' hS;obtain ⟨c0,c1,c2,c3,c4,c5,c6⟩ := HC.out w' hS;go_simp;try with_reducible rfl) fun KK hKK => ?_;go_simp;refine hKK _ ?_;clear hKK KK))
      refine wpOrd_force rfl (by rfl) fun KK hKK => ?_
      go_simp
      refine (HR.out _ _ HX.out.drew).mono ?_
      rintro x w1 ⟨rfl,hb1⟩
      refine hKK _ _ (HX.out.drew.next hb1) ?_
      clear hKK KK
      rw [hix]
      have HX1 := Lib.hid (HX.out.drew.next hb1)
      clear hb1
      iterate 17 (first | (refine wpOrd_skip rfl (by rfl) fun KK hKK => ?_;go_simp;refine hKK _ ?_;clear hKK KK) | (refine wpOrd_take rfl _ (by rfl) (by intro w' hS;obtain ⟨c0,c1,c2,c3,c4,c5,c6⟩ := HC.out w' hS;go_simp;try with_reducible rfl) fun KK hKK => ?_;go_simp;refine hKK _ ?_;clear hKK KK))
      refine wpOrd_nil ?_
      show Kz _ _
      refine hKz _ _ ?_
      go_simp
      go_wp2
      go_ret
      exact ⟨false,rfl,(fun h => by cases h),HX1.out.bel⟩
  ·obtain rfl : k = n := by omega
   go_wp2
   go_ret
   exact ⟨true,rfl,fun _ => HU.out,HX.out.bel⟩
end Go.Proofs.YtjcpjhlclpdpjaaGreat
namespace Go.Proofs.YtjcpjhlclpdpjaaGreat
open Go.RowKit
attribute [local go_sem] Oper.semAt_some
def Est.ix (e : Est) (p : Int) : Nat := (e.idx p).toNat
def cntIn (m : Nat) (l : List Nat) : Nat := (l.filter fun i => m.testBit i).length
theorem cntIn_app (m : Nat) (l l' : List Nat) : cntIn m (l ++ l') = cntIn m l + cntIn m l' := by simp [cntIn,List.filter_append]
theorem cntIn_one (m i : Nat) : cntIn m [i] = if m.testBit i = true then 1 else 0 := by unfold cntIn;by_cases h : m.testBit i = true <;> simp [h]
theorem cntIn_le (m : Nat) (l : List Nat) : cntIn m l ≤ l.length := List.length_filter_le _ _
theorem idx_range (e : Est) (p : Int) : e.idx p = -1 ∨ (0 ≤ e.idx p ∧ e.idx p < e.H.length ∧ (e.gh (e.ix p)).p = p) := by
 unfold Est.ix Est.idx
 cases h : e.H.findIdx? (fun h => decide (h.p = p)) with
 | none => exact .inl rfl
 | some i =>
  refine .inr ?_
  rw [List.findIdx?_eq_some_iff_getElem] at h
  obtain ⟨hl,h1,_⟩ := h
  refine ⟨by show (0 : Int) ≤ (i : Int);omega,by show (i : Int) < _;omega,?_⟩
  have hg : e.gh i = e.H[i] := by unfold Est.gh;rw [List.getD_eq_getElem?_getD,List.getElem?_eq_getElem hl];rfl
  show (e.gh ((i : Int).toNat)).p = p
  rw [Int.toNat_natCast,hg]
  simpa using h1
def Est.good (e : Est) (l : List Int) : Prop := ∀ p ∈ l,0 ≤ e.idx p ∧ e.idx p < e.H.length
theorem Est.isH.good {e : Est} {l : List Int} (h : e.isH l l.length) : e.good l := by
 intro p hp
 obtain ⟨j,hj,rfl⟩ := List.mem_iff_getElem.1 hp
 have h1 := (h j hj).1
 rw [List.getD_eq_getElem?_getD,List.getElem?_eq_getElem hj] at h1
 rcases idx_range e l[j] with h2 | h2
 ·simp only [Option.getD_some] at h1;omega
 ·exact ⟨h2.1,h2.2.1⟩
theorem rprice_any (n : Int) (w : World) : Calls Tryz.prog 36 #[.int .i64 n] w fun r w' => r = .returned (.bool (decide (0 ≤ n ∧ n ≤ 1048576))) ∧ w = w' := by
 obtain ⟨B,hB⟩ : ∃ B,decide (0 ≤ n ∧ n ≤ 1048576) = B := ⟨_,rfl⟩
 rw [hB]
 by_cases h0 : 0 ≤ n
 ·by_cases h1 : n ≤ 1048576
  ·obtain rfl : B = true := by rw [← hB];exact decide_eq_true ⟨h0,h1⟩
   clear hB
   go_enter Tryz.func36,Tryz.ntmps36
   go_wp2
   go_ret
   exact ⟨rfl,rfl⟩
  ·obtain rfl : B = false := by rw [← hB];exact decide_eq_false fun h => h1 h.2
   clear hB
   go_enter Tryz.func36,Tryz.ntmps36
   go_wp2
   go_ret
   exact ⟨rfl,rfl⟩
 ·obtain rfl : B = false := by rw [← hB];exact decide_eq_false fun h => h0 h.1
  clear hB
  go_enter Tryz.func36,Tryz.ntmps36
  go_wp2
  go_ret
  exact ⟨rfl,rfl⟩
theorem ramong_any (e : Est) (m : Nat) (r : RI) (w : World) (h : e.ok w w.heap.size) (hr : r.ok w w.heap.size) (hn : e.H.length ≤ 10) (hm : m ≤ 1024) (hg : e.good r.d) (hl : r.d.length ≤ 1000000) :
  Calls Tryz.prog 22 #[.agg e.cells.toArray,.int .i64 (m : Int),r.cell] w fun x w' => x = .returned (.int .i64 ((cntIn m (r.d.map e.ix) : Nat) : Int)) ∧ Below w.heap.size w w' := by
 have hX := boxed1 e w
 have HI : Hid ((Tryz.prog.info? 26).map (·.size) = some e.cells.length) := by show _ = _;kernel_rfl
 have HE : Hid (∀ W,Boxed1 e w W → e.ok W W.heap.size) := fun W hW => (h.below hW.bel).more (by have := hW.lt;omega)
 obtain ⟨CS,hCS⟩ : ∃ CS,e.cells = CS := ⟨_,rfl⟩
 rw [hCS] at HI
 have HR : Hid (∀ (p : Int) (W : World),Boxed1 e w W → Calls Tryz.prog 21 #[.agg CS.toArray,.int .i64 p] W fun r w' => r = .returned (.int .i64 (e.idx p)) ∧ Below W.heap.size W w') := fun p W hW => by
  rw [← hCS]
  exact rheir_any e p W (HE.out W hW) (by omega)
 have HCS : Hid (∀ W,Boxed1 e w W → ∀ i v,CS[i]? = some v → W.cell? ⟨w.heap.size,i,none⟩ = some v) := fun W hW i v hv => hW.row i v (by rw [hCS];exact hv)
 obtain ⟨A,C,d⟩ := r
 have hnc : d.length ≤ C := hr.2.1
 have hcm : C ≤ maxLen := hr.2.2
 unfold maxLen at hcm
 have HH := Lib.hid hr
 show Calls _ _ #[_,_,.slice A d.length C] _ _
 obtain ⟨n,hnn⟩ : ∃ n,d.length = n := ⟨_,rfl⟩
 rw [hnn] at hnc ⊢
 have HN := Lib.hid hnn
 have HG := Lib.hid hg
 have hl' : n ≤ 1000000 := by rw [← hnn];exact hl
 rw [hCS] at hX ⊢
 clear hr h hnn hCS hg hl
 go_enter Tryz.func22,Tryz.ntmps22
 go_wp2
 generalize (w.alloc (.cells CS.toArray 26)) = w0 at hX ⊢
 have HX := Lib.hid hX
 clear hX
 go_loopw [7,8] (fun x i wr => Boxed1 e w wr ∧ ∃ k : Nat,k ≤ n ∧ i = .int .i64 k ∧ x = .int .i64 ((cntIn m ((d.take k).map e.ix) : Nat) : Int)) (fun _ i _ => n - (intOf i).toNat)
 case atStart => exact ⟨HX.out,0,Nat.zero_le _,rfl,rfl⟩
 case round =>
  clear HX
  obtain ⟨hX,k,hk,rfl,rfl⟩ := hrel
  have HX := Lib.hid hX
  clear hX
  by_cases hlt : k < n
  ·have k1 : (k : Int) < (n : Int) := by omega
   have k0 : (0 : Int) ≤ (k : Int) := by omega
   obtain ⟨b,o,hA1,hb,hall⟩ := HH.out.allAt (show 0 < d.length by rw [HN.out];omega)
   change A = _ at hA1
   subst hA1
   obtain ⟨P,hP⟩ : ∃ P,d.getD k 0 = P := ⟨_,rfl⟩
   have HC : Hid (∀ W,Boxed1 e w W → W.cell? ⟨b,o + k,none⟩ = some (.int .i64 P)) := fun W hW => by have := hall W hW.bel k (by show k < d.length;rw [HN.out];exact hlt);rw [← hP];exact this
   have hPd : d[k]? = some P := by rw [← hP,List.getD_eq_getElem?_getD,List.getElem?_eq_getElem (by rw [HN.out];exact hlt)];rfl
   have hPm : P ∈ d := List.mem_of_getElem? hPd
   have hT : d.take (k + 1) = d.take k ++ [P] := by rw [List.take_add_one,hPd];rfl
   obtain ⟨hi0,hi1⟩ := HG.out P hPm
   have hix : e.idx P = ((e.ix P : Nat) : Int) := (Int.toNat_of_nonneg hi0).symm
   have hi2 : e.ix P < e.H.length := by unfold Est.ix;omega
   obtain ⟨I,hI⟩ : ∃ I,e.ix P = I := ⟨_,rfl⟩
   rw [hI] at hix hi2
   have hcs : cntIn m ((d.take (k + 1)).map e.ix) = cntIn m ((d.take k).map e.ix) + if m.testBit I = true then 1 else 0 := by
    rw [hT,List.map_append,cntIn_app,List.map_cons,List.map_nil,cntIn_one,hI]
   have hcl : cntIn m ((d.take k).map e.ix) ≤ 1000000 := by have := cntIn_le m ((d.take k).map e.ix);rw [List.length_map,List.length_take] at this;omega
   obtain ⟨X,hX0⟩ : ∃ X,cntIn m ((d.take k).map e.ix) = X := ⟨_,rfl⟩
   obtain ⟨T,hT0⟩ : ∃ T,m.testBit I = T := ⟨_,rfl⟩
   have HM : Hid (∀ W,Calls Tryz.prog 44 #[.int .i64 (m : Int),.int .i64 (I : Int)] W fun r w' => r = .returned (.bool T) ∧ W = w') := fun W => by rw [← hT0];exact rmember_any m I (by omega) (by omega) W
   rw [hX0,hT0] at hcs
   rw [hX0] at hcl ⊢
   have HCC := Lib.hid hcs
   have HIX := Lib.hid hix
   clear hcs hX0 hT0 hT hPm hPd hP hall hI hi0 hi1
   go_wp2
   rename_i Kz hKz
   refine wp_region_ord (fun w' => Boxed1 e w w') [(0,true),(1,true),(2,true),(3,true),(4,true),(5,true),(6,false),(7,false)] (by kernel_rfl) (by kernel_rfl) rfl (by kernel_rfl) (fun x _ _ _ _ h => by cases x <;> exact h) HX.out.drew ?_
   (refine wpOrd_take rfl _ (by rfl) (by intro w' hS;have c0 := HC.out w' hS;go_simp;try with_reducible rfl) fun KK hKK => ?_;go_simp;refine hKK _ ?_;clear hKK KK)
   refine wpOrd_take rfl _ (by rfl) (fun w' hS => run_load_exec 26 _ rfl ⟨w.heap.size,0,none⟩ (by rfl) CS _ (fun i v hv => by rw [Addr.add_flat,Nat.zero_add];exact HCS.out w' hS i v hv) Tryz.underlying26 (by rfl) HI.out) fun KK hKK => ?_
   go_simp
   refine hKK _ ?_
   clear hKK KK
   iterate 4 (first | (refine wpOrd_skip rfl (by rfl) fun KK hKK => ?_;go_simp;refine hKK _ ?_;clear hKK KK) | (refine wpOrd_take rfl _ (by rfl) (by intro w' hS;have c0 := HC.out w' hS;go_simp;try with_reducible rfl) fun KK hKK => ?_;go_simp;refine hKK _ ?_;clear hKK KK))
   refine wpOrd_force rfl (by rfl) fun KK hKK => ?_
   go_simp
   refine (HR.out _ _ HX.out.drew).mono ?_
   rintro x w1 ⟨rfl,hb1⟩
   rw [HIX.out]
   refine hKK _ _ (HX.out.drew.next hb1) ?_
   clear hKK KK
   have HX1 := Lib.hid (HX.out.drew.next hb1)
   clear hb1
   refine wpOrd_force rfl (by rfl) fun KK hKK => ?_
   go_simp
   refine (HM.out _).mono ?_
   rintro x w2 ⟨rfl,rfl⟩
   refine hKK _ _ HX1.out ?_
   clear hKK KK
   refine wpOrd_nil ?_
   show Kz _ _
   refine hKz _ _ ?_
   go_simp
   cases T with
   | true =>
    have hcs := HCC.out
    simp only [if_true] at hcs
    have HC2 := Lib.hid hcs
    clear hcs
    go_wp2
    go_roundw
    case rel => exact ⟨HX1.out,k + 1,by omega,by go_num,by rw [HC2.out];go_num⟩
    case measure => simp [intOf];omega
   | false =>
    have hcs := HCC.out
    simp only [if_false,Nat.add_zero,Bool.false_eq_true] at hcs
    have HC2 := Lib.hid hcs
    clear hcs
    go_wp2
    go_roundw
    case rel => exact ⟨HX1.out,k + 1,by omega,by go_num,by rw [HC2.out]⟩
    case measure => simp [intOf];omega
  ·obtain rfl : k = n := by omega
   go_wp2
   go_ret
   refine ⟨?_,HX.out.bel⟩
   rw [show d.take k = d by rw [List.take_of_length_le (by rw [HN.out];omega)]]
   rfl
theorem rneed_any (e : Est) (m : Nat) (w : World) (h : e.ok w w.heap.size) (hn : e.H.length ≤ 10) (hm : m ≤ 1024) (hl : e.n.d.length = e.H.length + 1) :
  Calls Tryz.prog 23 #[.agg e.cells.toArray,.int .i64 (m : Int)] w fun x w' => x = .returned (.int .i64 (e.n.d.getD (cntIn m (List.range e.H.length)) 0)) ∧ Below w.heap.size w w' := by
 have hX := boxed1 e w
 have HNE := Lib.hid h.n
 obtain ⟨b,o,hA1,hb,hall⟩ := h.n.allAt (by omega)
 obtain ⟨CS,hCS⟩ : ∃ CS,e.cells = CS := ⟨_,rfl⟩
 have HQ : Hid (∀ W,Boxed1 e w W → W.cell? ⟨w.heap.size,0,none⟩ = some (.slice e.hA e.H.length e.hc) ∧ W.cell? ⟨w.heap.size,2,none⟩ = some (.slice (some ⟨b,o,none⟩) (e.H.length + 1) e.n.c)) := fun W hW => ⟨hW.row 0 _ rfl,by
  have := hW.row 2 _ rfl
  rw [this]
  unfold RI.cell
  rw [hA1,hl]⟩
 have hB : ∀ W,Boxed1 e w W → Below w.heap.size w W := fun W hW => hW.bel
 have HB := Lib.hid hB
 have HAL := Lib.hid hall
 obtain ⟨N,hN⟩ : ∃ N,e.H.length = N := ⟨_,rfl⟩
 rw [hN] at HQ hn hl ⊢
 have hnc : e.n.d.length ≤ e.n.c := HNE.out.2.1
 have hcm : e.n.c ≤ maxLen := HNE.out.2.2
 unfold maxLen at hcm
 obtain ⟨C,hC⟩ : ∃ C,e.n.c = C := ⟨_,rfl⟩
 obtain ⟨hA,hh⟩ : ∃ hA,e.hA = hA := ⟨_,rfl⟩
 obtain ⟨hc,hh2⟩ : ∃ hc,e.hc = hc := ⟨_,rfl⟩
 rw [hC] at HQ hnc hcm
 rw [hh,hh2] at HQ
 rw [hl] at hnc
 rw [hCS] at hX ⊢
 have HL := Lib.hid hl
 clear h hCS hA1 hall hC hh hh2 hN hB hl
 go_enter Tryz.func23,Tryz.ntmps23
 go_wp2
 generalize (w.alloc (.cells CS.toArray 26)) = w0 at hX ⊢
 have HX := Lib.hid hX
 clear hX
 go_loopw [5,6] (fun x i wr => Boxed1 e w wr ∧ ∃ k : Nat,k ≤ N ∧ i = .int .i64 k ∧ x = .int .i64 ((cntIn m (List.range k) : Nat) : Int)) (fun _ i _ => N - (intOf i).toNat)
 case atStart => exact ⟨HX.out,0,Nat.zero_le _,rfl,rfl⟩
 case round =>
  clear HX
  obtain ⟨hX,k,hk,rfl,rfl⟩ := hrel
  obtain ⟨q0,q2⟩ := HQ.out _ hX
  have HX := Lib.hid hX
  clear hX
  have hcl : cntIn m (List.range k) ≤ k := by have := cntIn_le m (List.range k);simpa using this
  by_cases hlt : k < N
  ·have k1 : (k : Int) < (N : Int) := by omega
   have k0 : (0 : Int) ≤ (k : Int) := by omega
   have hcs : cntIn m (List.range (k + 1)) = cntIn m (List.range k) + if m.testBit k = true then 1 else 0 := by
    rw [List.range_succ,cntIn_app,cntIn_one]
   obtain ⟨X,hX0⟩ : ∃ X,cntIn m (List.range k) = X := ⟨_,rfl⟩
   obtain ⟨T,hT0⟩ : ∃ T,m.testBit k = T := ⟨_,rfl⟩
   have hm0 : ∀ W,Calls Tryz.prog 44 #[.int .i64 (m : Int),.int .i64 (k : Int)] W fun r w' => r = .returned (.bool T) ∧ W = w' := fun W => by rw [← hT0];exact rmember_any m k (by omega) (by omega) W
   have HM := Lib.hid hm0
   rw [hX0,hT0] at hcs
   rw [hX0] at hcl ⊢
   have HCC := Lib.hid hcs
   clear hcs hX0 hT0 hm0
   cases T with
   | true =>
    have hcs := HCC.out
    simp only [if_true] at hcs
    have HC2 := Lib.hid hcs
    clear hcs
    go_wp2_with (first | (go_at_call 44;refine (HM.out _).mono ?_;rintro e w' ⟨rfl,rfl⟩) | fail)
    go_roundw
    case rel => exact ⟨HX.out,k + 1,by omega,by go_num,by rw [HC2.out];go_num⟩
    case measure => simp [intOf];omega
   | false =>
    have hcs := HCC.out
    simp only [if_false,Nat.add_zero,Bool.false_eq_true] at hcs
    have HC2 := Lib.hid hcs
    clear hcs
    go_wp2_with (first | (go_at_call 44;refine (HM.out _).mono ?_;rintro e w' ⟨rfl,rfl⟩) | fail)
    go_roundw
    case rel => exact ⟨HX.out,k + 1,by omega,by go_num,by rw [HC2.out]⟩
    case measure => simp [intOf];omega
  ·obtain rfl : k = N := by omega
   obtain ⟨X,hX0⟩ : ∃ X,cntIn m (List.range k) = X := ⟨_,rfl⟩
   rw [hX0] at hcl ⊢
   obtain ⟨Y,hY⟩ : ∃ Y,e.n.d.getD X 0 = Y := ⟨_,rfl⟩
   have q3 : wr.cell? ⟨b,o + X,none⟩ = some (.int .i64 Y) := by rw [HAL.out wr (HB.out wr HX.out) X (by rw [HL.out];omega),hY]
   have HY : Hid (e.n.d.getD (cntIn m (List.range k)) 0 = Y) := by show _ = _;rw [hX0,hY]
   have x0 : (0 : Int) ≤ (X : Int) := by omega
   have x1 : (X : Int) < ((k + 1 : Nat) : Int) := by omega
   clear hX0 hY
   go_wp2
   go_ret
   exact ⟨by rw [HY.out];rfl,HB.out wr HX.out⟩
end Go.Proofs.YtjcpjhlclpdpjaaGreat
namespace Go.Proofs.YtjcpjhlclpdpjaaGreat
open Go.RowKit
attribute [local go_sem] Oper.semAt_some
def sumPow : List Nat → Nat
 | [] => 0
 | i :: l => 2 ^ i + sumPow l
theorem sumPow_app (l l' : List Nat) : sumPow (l ++ l') = sumPow l + sumPow l' := by
 induction l with
 | nil => simp [sumPow]
 | cons a l ih => simp only [List.cons_append,sumPow,ih];omega
theorem sumPow_le {l : List Nat} (h : ∀ i ∈ l,i < 10) : sumPow l ≤ l.length * 512 := by
 induction l with
 | nil => simp [sumPow]
 | cons a l ih =>
  have h1 := ih fun i hi => h i (by simp [hi])
  have h2 : 2 ^ a ≤ 2 ^ 9 := Nat.pow_le_pow_right (by omega) (by have := h a (by simp);omega)
  simp only [sumPow,List.length_cons]
  omega
theorem rnumber_any (e : Est) (r : RI) (w : World) (h : e.ok w w.heap.size) (hr : r.ok w w.heap.size) (hn : e.H.length ≤ 10) (hg : e.good r.d) (hl : r.d.length ≤ 10) :
  Calls Tryz.prog 9 #[.agg e.cells.toArray,r.cell] w fun x w' => x = .returned (.int .i64 ((sumPow (r.d.map e.ix) : Nat) : Int)) ∧ Below w.heap.size w w' := by
 have hX := boxed1 e w
 have HI : Hid ((Tryz.prog.info? 26).map (·.size) = some e.cells.length) := by show _ = _;kernel_rfl
 have HE : Hid (∀ W,Boxed1 e w W → e.ok W W.heap.size) := fun W hW => (h.below hW.bel).more (by have := hW.lt;omega)
 obtain ⟨CS,hCS⟩ : ∃ CS,e.cells = CS := ⟨_,rfl⟩
 rw [hCS] at HI
 have HR : Hid (∀ (p : Int) (W : World),Boxed1 e w W → Calls Tryz.prog 21 #[.agg CS.toArray,.int .i64 p] W fun r w' => r = .returned (.int .i64 (e.idx p)) ∧ Below W.heap.size W w') := fun p W hW => by
  rw [← hCS]
  exact rheir_any e p W (HE.out W hW) (by omega)
 have HCS : Hid (∀ W,Boxed1 e w W → ∀ i v,CS[i]? = some v → W.cell? ⟨w.heap.size,i,none⟩ = some v) := fun W hW i v hv => hW.row i v (by rw [hCS];exact hv)
 obtain ⟨A,C,d⟩ := r
 have hnc : d.length ≤ C := hr.2.1
 have hcm : C ≤ maxLen := hr.2.2
 unfold maxLen at hcm
 have HH := Lib.hid hr
 show Calls _ _ #[_,.slice A d.length C] _ _
 obtain ⟨n,hnn⟩ : ∃ n,d.length = n := ⟨_,rfl⟩
 rw [hnn] at hnc ⊢
 have HN := Lib.hid hnn
 have HG := Lib.hid hg
 have hl' : n ≤ 10 := by rw [← hnn];exact hl
 rw [hCS] at hX ⊢
 clear hr h hnn hCS hg hl
 go_enter Tryz.func9,Tryz.ntmps9
 go_wp2
 generalize (w.alloc (.cells CS.toArray 26)) = w0 at hX ⊢
 have HX := Lib.hid hX
 clear hX
 go_loopw [5,6] (fun x i wr => Boxed1 e w wr ∧ ∃ k : Nat,k ≤ n ∧ i = .int .i64 k ∧ x = .int .i64 ((sumPow ((d.take k).map e.ix) : Nat) : Int)) (fun _ i _ => n - (intOf i).toNat)
 case atStart => exact ⟨HX.out,0,Nat.zero_le _,rfl,rfl⟩
 case round =>
  clear HX
  obtain ⟨hX,k,hk,rfl,rfl⟩ := hrel
  have HX := Lib.hid hX
  clear hX
  by_cases hlt : k < n
  ·have k1 : (k : Int) < (n : Int) := by omega
   have k0 : (0 : Int) ≤ (k : Int) := by omega
   obtain ⟨b,o,hA1,hb,hall⟩ := HH.out.allAt (show 0 < d.length by rw [HN.out];omega)
   change A = _ at hA1
   subst hA1
   obtain ⟨P,hP⟩ : ∃ P,d.getD k 0 = P := ⟨_,rfl⟩
   have HC : Hid (∀ W,Boxed1 e w W → W.cell? ⟨b,o + k,none⟩ = some (.int .i64 P)) := fun W hW => by have := hall W hW.bel k (by show k < d.length;rw [HN.out];exact hlt);rw [← hP];exact this
   have hPd : d[k]? = some P := by rw [← hP,List.getD_eq_getElem?_getD,List.getElem?_eq_getElem (by rw [HN.out];exact hlt)];rfl
   have hPm : P ∈ d := List.mem_of_getElem? hPd
   have hT : d.take (k + 1) = d.take k ++ [P] := by rw [List.take_add_one,hPd];rfl
   obtain ⟨hi0,hi1⟩ := HG.out P hPm
   have hix : e.idx P = ((e.ix P : Nat) : Int) := (Int.toNat_of_nonneg hi0).symm
   have hi2 : e.ix P < e.H.length := by unfold Est.ix;omega
   obtain ⟨I,hI⟩ : ∃ I,e.ix P = I := ⟨_,rfl⟩
   rw [hI] at hix hi2
   have hcs : sumPow ((d.take (k + 1)).map e.ix) = sumPow ((d.take k).map e.ix) + 2 ^ I := by
    rw [hT,List.map_append,sumPow_app,List.map_cons,List.map_nil,hI];rfl
   have hcl : sumPow ((d.take k).map e.ix) ≤ 5120 := by
    have := sumPow_le (l := (d.take k).map e.ix) fun i hi => by
     obtain ⟨p,hp,rfl⟩ := List.mem_map.1 hi
     have := HG.out p (List.mem_of_mem_take hp)
     unfold Est.ix
     omega
    rw [List.length_map,List.length_take] at this;omega
   have hp2 : 2 ^ I ≤ 512 := by
    have : 2 ^ I ≤ 2 ^ 9 := Nat.pow_le_pow_right (by omega) (by omega)
    omega
   obtain ⟨X,hX0⟩ : ∃ X,sumPow ((d.take k).map e.ix) = X := ⟨_,rfl⟩
   have HM : Hid (∀ W,Calls Tryz.prog 20 #[.int .i64 (I : Int)] W fun r w' => r = .returned (.int .i64 ((2 ^ I : Nat) : Int)) ∧ W = w') := fun W => rpower_any I (by omega) W
   obtain ⟨T,hT0⟩ : ∃ T,2 ^ I = T := ⟨_,rfl⟩
   rw [hT0] at HM hp2
   rw [hX0,hT0] at hcs
   rw [hX0] at hcl ⊢
   have HCC := Lib.hid hcs
   have HWX : Hid (IntKind.i64.wrap ((X : Int) + (T : Int)) = ((X + T : Nat) : Int)) := by
    have := wrap_nat (k := X + T) (by omega)
    rwa [Int.natCast_add] at this ⊢
   have HIX := Lib.hid hix
   clear hcs hX0 hT0 hT hPm hPd hP hall hI hi0 hi1
   go_wp2
   rename_i Kz hKz
   refine wp_region_ord (fun w' => Boxed1 e w w') [(0,true),(1,true),(2,true),(3,true),(4,true),(5,true),(6,false),(7,false),(8,true),(9,true)] (by kernel_rfl) (by kernel_rfl) rfl (by kernel_rfl) (fun x _ _ _ _ h => by cases x <;> exact h) HX.out.drew ?_
   (refine wpOrd_take rfl _ (by rfl) (by intro w' hS;have c0 := HC.out w' hS;go_simp;try with_reducible rfl) fun KK hKK => ?_;go_simp;refine hKK _ ?_;clear hKK KK)
   refine wpOrd_take rfl _ (by rfl) (fun w' hS => run_load_exec 26 _ rfl ⟨w.heap.size,0,none⟩ (by rfl) CS _ (fun i v hv => by rw [Addr.add_flat,Nat.zero_add];exact HCS.out w' hS i v hv) Tryz.underlying26 (by rfl) HI.out) fun KK hKK => ?_
   go_simp
   refine hKK _ ?_
   clear hKK KK
   iterate 4 (first | (refine wpOrd_skip rfl (by rfl) fun KK hKK => ?_;go_simp;refine hKK _ ?_;clear hKK KK) | (refine wpOrd_take rfl _ (by rfl) (by intro w' hS;have c0 := HC.out w' hS;go_simp;try with_reducible rfl) fun KK hKK => ?_;go_simp;refine hKK _ ?_;clear hKK KK))
   refine wpOrd_force rfl (by rfl) fun KK hKK => ?_
   go_simp
   refine (HR.out _ _ HX.out.drew).mono ?_
   rintro x w1 ⟨rfl,hb1⟩
   rw [HIX.out]
   refine hKK _ _ (HX.out.drew.next hb1) ?_
   clear hKK KK
   have HX1 := Lib.hid (HX.out.drew.next hb1)
   clear hb1
   refine wpOrd_force rfl (by rfl) fun KK hKK => ?_
   go_simp
   refine (HM.out _).mono ?_
   rintro x w2 ⟨rfl,rfl⟩
   refine hKK _ _ HX1.out ?_
   clear hKK KK
   iterate 2 (first | (refine wpOrd_skip rfl (by rfl) fun KK hKK => ?_;go_simp;refine hKK _ ?_;clear hKK KK) | (refine wpOrd_take rfl _ (by rfl) (by intro w' hS;skip;go_simp;try with_reducible rfl) fun KK hKK => ?_;go_simp;refine hKK _ ?_;clear hKK KK))
   refine wpOrd_nil ?_
   show Kz _ _
   refine hKz _ _ ?_
   go_simp
   go_wp2
   go_roundw
   case rel => exact ⟨HX1.out,k + 1,by omega,by go_num,by rw [HCC.out,HWX.out]⟩
   case measure => simp [intOf];omega
  ·obtain rfl : k = n := by omega
   go_wp2
   go_ret
   refine ⟨?_,HX.out.bel⟩
   rw [show d.take k = d by rw [List.take_of_length_le (by rw [HN.out];omega)]]
   rfl
theorem never_at {w : World} {B : Nat} {e : Est} (h : e.ok w B) {k : Nat} (hk : k < e.V.length) : ∃ b o r,e.vA = some ⟨b,o,none⟩ ∧ b < B ∧ r ∈ e.V ∧ e.V[k]? = some r ∧ ∀ W,Below B w W → W.cell? ⟨b,o + k,none⟩ = some r.cell := by
 obtain ⟨b,o,e1,hb,hc⟩ := h.v.2 (by omega)
 refine ⟨b,o,e.V[k],e1,hb,List.getElem_mem hk,List.getElem?_eq_getElem hk,fun W hW => (hW.cell (p := ⟨b,o + k,none⟩) hb).trans (hc k _ ?_)⟩
 rw [List.getElem?_map,List.getElem?_eq_getElem hk];rfl
def Est.safeTo (e : Est) (m k : Nat) : Prop := ∀ r ∈ e.V.take k,((cntIn m (r.d.map e.ix) : Nat) : Int) < e.n.d.getD (cntIn m (List.range e.H.length)) 0
theorem rsafe_any (e : Est) (m : Nat) (w : World) (h : e.ok w w.heap.size) (hn : e.H.length ≤ 10) (hm : m ≤ 1024) (hl : e.n.d.length = e.H.length + 1) (hv : e.V.length ≤ 16) (hg : ∀ r ∈ e.V,e.good r.d ∧ r.d.length ≤ 1000000) :
  Calls Tryz.prog 10 #[.agg e.cells.toArray,.int .i64 (m : Int)] w fun x w' => ∃ b,x = .returned (.bool b) ∧ (b = true → e.safeTo m e.V.length) ∧ Below w.heap.size w w' := by
 have hX := boxed1 e w
 have HI : Hid ((Tryz.prog.info? 26).map (·.size) = some e.cells.length) := by show _ = _;kernel_rfl
 have HE : Hid (∀ W,Boxed1 e w W → e.ok W W.heap.size) := fun W hW => (h.below hW.bel).more (by have := hW.lt;omega)
 obtain ⟨CS,hCS⟩ : ∃ CS,e.cells = CS := ⟨_,rfl⟩
 rw [hCS] at HI
 have HR : Hid (∀ (p : Int) (W : World),Boxed1 e w W → Calls Tryz.prog 21 #[.agg CS.toArray,.int .i64 p] W fun r w' => r = .returned (.int .i64 (e.idx p)) ∧ Below W.heap.size W w') := fun p W hW => by
  rw [← hCS]
  exact rheir_any e p W (HE.out W hW) (by omega)
 have HCS : Hid (∀ W,Boxed1 e w W → ∀ i v,CS[i]? = some v → W.cell? ⟨w.heap.size,i,none⟩ = some v) := fun W hW i v hv => hW.row i v (by rw [hCS];exact hv)
 have HV : Hid (∀ k,k < e.V.length → ∃ b o r,e.vA = some ⟨b,o,none⟩ ∧ b < w.heap.size ∧ r ∈ e.V ∧ e.V[k]? = some r ∧ ∀ W,Below w.heap.size w W → W.cell? ⟨b,o + k,none⟩ = some r.cell) := fun k hk => never_at h hk
 have HAM : Hid (∀ r ∈ e.V,∀ W,Boxed1 e w W → Calls Tryz.prog 22 #[.agg CS.toArray,.int .i64 (m : Int),r.cell] W fun x w' => x = .returned (.int .i64 ((cntIn m (r.d.map e.ix) : Nat) : Int)) ∧ Below W.heap.size W w') := fun r hr W hW => by
  rw [← hCS]
  exact ramong_any e m r W (HE.out W hW) ((HE.out W hW).vs r hr) hn hm (hg r hr).1 (hg r hr).2
 have HNE : Hid (∀ W,Boxed1 e w W → Calls Tryz.prog 23 #[.agg CS.toArray,.int .i64 (m : Int)] W fun x w' => x = .returned (.int .i64 (e.n.d.getD (cntIn m (List.range e.H.length)) 0)) ∧ Below W.heap.size W w') := fun W hW => by
  rw [← hCS]
  exact rneed_any e m W (HE.out W hW) hn hm hl
 have HQ : Hid (∀ W,Boxed1 e w W → W.cell? ⟨w.heap.size,4,none⟩ = some (.slice e.vA e.V.length e.vc)) := fun W hW => hW.row 4 _ rfl
 obtain ⟨n,hnn⟩ : ∃ n,e.V.length = n := ⟨_,rfl⟩
 obtain ⟨vA,hvA⟩ : ∃ vA,e.vA = vA := ⟨_,rfl⟩
 obtain ⟨vc,hvc⟩ : ∃ vc,e.vc = vc := ⟨_,rfl⟩
 obtain ⟨Y,hY⟩ : ∃ Y,e.n.d.getD (cntIn m (List.range e.H.length)) 0 = Y := ⟨_,rfl⟩
 have HY := Lib.hid hY
 rw [hY] at HNE
 rw [hvA,hnn,hvc] at HQ
 rw [hvA,hnn] at HV
 rw [hnn] at hv ⊢
 have HN := Lib.hid hnn
 rw [hCS] at hX ⊢
 clear h hnn hCS hg hl hvA hvc hY HE
 go_enter Tryz.func10,Tryz.ntmps10
 go_wp2
 generalize (w.alloc (.cells CS.toArray 26)) = w0 at hX ⊢
 have HX := Lib.hid hX
 clear hX
 go_loopw [5] (fun i wr => Boxed1 e w wr ∧ ∃ k : Nat,k ≤ n ∧ i = .int .i64 k ∧ e.safeTo m k) (fun i _ => n - (intOf i).toNat)
 case atStart => exact ⟨HX.out,0,Nat.zero_le _,rfl,fun r hr => by simp at hr⟩
 case round =>
  clear HX
  obtain ⟨hX,k,hk,rfl,hu⟩ := hrel
  have q4 := HQ.out _ hX
  have HX := Lib.hid hX
  have HU := Lib.hid hu
  clear hX hu
  by_cases hlt : k < n
  ·have k1 : (k : Int) < (n : Int) := by omega
   have k0 : (0 : Int) ≤ (k : Int) := by omega
   obtain ⟨b,o,r,hA1,hb,hrm,hrk,hcell⟩ := HV.out k hlt
   subst hA1
   obtain ⟨RC,hRC⟩ : ∃ RC,r.cell = RC := ⟨_,rfl⟩
   have HA2 : Hid (∀ W,Boxed1 e w W → Calls Tryz.prog 22 #[.agg CS.toArray,.int .i64 (m : Int),RC] W fun x w' => x = .returned (.int .i64 ((cntIn m (r.d.map e.ix) : Nat) : Int)) ∧ Below W.heap.size W w') := fun W hW => by rw [← hRC];exact HAM.out r hrm W hW
   have HC : Hid (∀ W,Boxed1 e w W → W.cell? ⟨w.heap.size,4,none⟩ = some (.slice (some ⟨b,o,none⟩) n vc) ∧ W.cell? ⟨b,o + k,none⟩ = some RC) := fun W hW => ⟨HQ.out W hW,by rw [← hRC];exact hcell W hW.bel⟩
   obtain ⟨X,hX0⟩ : ∃ X,cntIn m (r.d.map e.ix) = X := ⟨_,rfl⟩
   have HU2 : Hid ((X : Int) < Y → e.safeTo m (k + 1)) := fun hlt2 r' hr' => by
    rw [List.take_add_one,hrk,List.mem_append] at hr'
    rcases hr' with h1 | h1
    ·exact HU.out r' h1
    ·obtain rfl : r' = r := by simpa using h1
     rw [hX0,HY.out];exact hlt2
   rw [hX0] at HA2
   clear hX0 hrk hrm hcell hRC
   rcases Int.lt_or_le (X : Int) Y with hless | hmore
   ·have e0 : decide (Y ≤ (X : Int)) = false := decide_eq_false (by omega)
    have HD := Lib.hid e0
    go_wp2
    rename_i Kz hKz
    refine wp_region_ord (fun w' => Boxed1 e w w') [(0,true),(1,true),(2,true),(3,true),(4,true),(5,true),(6,true),(8,true),(9,true),(7,false),(10,false),(11,true)] (by kernel_rfl) (by kernel_rfl) rfl (by kernel_rfl) (fun x _ _ _ _ h => by cases x <;> exact h) HX.out.drew ?_
    refine wpOrd_take rfl _ (by rfl) (fun w' hS => run_load_exec 26 _ rfl ⟨w.heap.size,0,none⟩ (by rfl) CS _ (fun i v hv => by rw [Addr.add_flat,Nat.zero_add];exact HCS.out w' hS i v hv) Tryz.underlying26 (by rfl) HI.out) fun KK hKK => ?_
    go_simp
    refine hKK _ ?_
    clear hKK KK
    iterate 6 (first | (refine wpOrd_skip rfl (by rfl) fun KK hKK => ?_;go_simp;refine hKK _ ?_;clear hKK KK) | (refine wpOrd_take rfl _ (by rfl) (by intro w' hS;obtain ⟨c4,c5⟩ := HC.out w' hS;go_simp;try with_reducible rfl) fun KK hKK => ?_;go_simp;refine hKK _ ?_;clear hKK KK))
    refine wpOrd_take rfl _ (by rfl) (fun w' hS => run_load_exec 26 _ rfl ⟨w.heap.size,0,none⟩ (by rfl) CS _ (fun i v hv => by rw [Addr.add_flat,Nat.zero_add];exact HCS.out w' hS i v hv) Tryz.underlying26 (by rfl) HI.out) fun KK hKK => ?_
    go_simp
    refine hKK _ ?_
    clear hKK KK
    iterate 1 (first | (refine wpOrd_skip rfl (by rfl) fun KK hKK => ?_;go_simp;refine hKK _ ?_;clear hKK KK) | (refine wpOrd_take rfl _ (by rfl) (by intro w' hS;obtain ⟨c4,c5⟩ := HC.out w' hS;go_simp;try with_reducible rfl) fun KK hKK => ?_;go_simp;refine hKK _ ?_;clear hKK KK))
    refine wpOrd_force rfl (by rfl) fun KK hKK => ?_
    go_simp
    refine (HA2.out _ HX.out.drew).mono ?_
    rintro x w1 ⟨rfl,hb1⟩
    refine hKK _ _ (HX.out.drew.next hb1) ?_
    clear hKK KK
    have HX1 := Lib.hid (HX.out.drew.next hb1)
    clear hb1
    refine wpOrd_force rfl (by rfl) fun KK hKK => ?_
    go_simp
    refine (HNE.out _ HX1.out).mono ?_
    rintro x w2 ⟨rfl,hb2⟩
    refine hKK _ _ (HX1.out.next hb2) ?_
    clear hKK KK
    have HX2 := Lib.hid (HX1.out.next hb2)
    clear hb2
    iterate 1 (first | (refine wpOrd_skip rfl (by rfl) fun KK hKK => ?_;go_simp;refine hKK _ ?_;clear hKK KK) | (refine wpOrd_take rfl _ (by rfl) (by intro w' hS;have c0 := HD.out;go_simp;try with_reducible rfl) fun KK hKK => ?_;go_simp;refine hKK _ ?_;clear hKK KK))
    refine wpOrd_nil ?_
    show Kz _ _
    refine hKz _ _ ?_
    go_simp
    have HU3 := Lib.hid (HU2.out hless)
    go_wp2
    go_roundw
    case rel => exact ⟨HX2.out,k + 1,by omega,by go_num,HU3.out⟩
    case measure => simp [intOf];omega
   ·have e0 : decide (Y ≤ (X : Int)) = true := decide_eq_true (by omega)
    have HD := Lib.hid e0
    go_wp2
    rename_i Kz hKz
    refine wp_region_ord (fun w' => Boxed1 e w w') [(0,true),(1,true),(2,true),(3,true),(4,true),(5,true),(6,true),(8,true),(9,true),(7,false),(10,false),(11,true)] (by kernel_rfl) (by kernel_rfl) rfl (by kernel_rfl) (fun x _ _ _ _ h => by cases x <;> exact h) HX.out.drew ?_
    refine wpOrd_take rfl _ (by rfl) (fun w' hS => run_load_exec 26 _ rfl ⟨w.heap.size,0,none⟩ (by rfl) CS _ (fun i v hv => by rw [Addr.add_flat,Nat.zero_add];exact HCS.out w' hS i v hv) Tryz.underlying26 (by rfl) HI.out) fun KK hKK => ?_
    go_simp
    refine hKK _ ?_
    clear hKK KK
    iterate 6 (first | (refine wpOrd_skip rfl (by rfl) fun KK hKK => ?_;go_simp;refine hKK _ ?_;clear hKK KK) | (refine wpOrd_take rfl _ (by rfl) (by intro w' hS;obtain ⟨c4,c5⟩ := HC.out w' hS;go_simp;try with_reducible rfl) fun KK hKK => ?_;go_simp;refine hKK _ ?_;clear hKK KK))
    refine wpOrd_take rfl _ (by rfl) (fun w' hS => run_load_exec 26 _ rfl ⟨w.heap.size,0,none⟩ (by rfl) CS _ (fun i v hv => by rw [Addr.add_flat,Nat.zero_add];exact HCS.out w' hS i v hv) Tryz.underlying26 (by rfl) HI.out) fun KK hKK => ?_
    go_simp
    refine hKK _ ?_
    clear hKK KK
    iterate 1 (first | (refine wpOrd_skip rfl (by rfl) fun KK hKK => ?_;go_simp;refine hKK _ ?_;clear hKK KK) | (refine wpOrd_take rfl _ (by rfl) (by intro w' hS;obtain ⟨c4,c5⟩ := HC.out w' hS;go_simp;try with_reducible rfl) fun KK hKK => ?_;go_simp;refine hKK _ ?_;clear hKK KK))
    refine wpOrd_force rfl (by rfl) fun KK hKK => ?_
    go_simp
    refine (HA2.out _ HX.out.drew).mono ?_
    rintro x w1 ⟨rfl,hb1⟩
    refine hKK _ _ (HX.out.drew.next hb1) ?_
    clear hKK KK
    have HX1 := Lib.hid (HX.out.drew.next hb1)
    clear hb1
    refine wpOrd_force rfl (by rfl) fun KK hKK => ?_
    go_simp
    refine (HNE.out _ HX1.out).mono ?_
    rintro x w2 ⟨rfl,hb2⟩
    refine hKK _ _ (HX1.out.next hb2) ?_
    clear hKK KK
    have HX2 := Lib.hid (HX1.out.next hb2)
    clear hb2
    iterate 1 (first | (refine wpOrd_skip rfl (by rfl) fun KK hKK => ?_;go_simp;refine hKK _ ?_;clear hKK KK) | (refine wpOrd_take rfl _ (by rfl) (by intro w' hS;have c0 := HD.out;go_simp;try with_reducible rfl) fun KK hKK => ?_;go_simp;refine hKK _ ?_;clear hKK KK))
    refine wpOrd_nil ?_
    show Kz _ _
    refine hKz _ _ ?_
    go_simp
    go_wp2
    go_ret
    exact ⟨false,rfl,(fun h => by cases h),HX2.out.bel⟩
  ·obtain rfl : k = n := by omega
   go_wp2
   go_ret
   exact ⟨true,rfl,fun _ => HU.out,HX.out.bel⟩
end Go.Proofs.YtjcpjhlclpdpjaaGreat
namespace Go.Proofs.YtjcpjhlclpdpjaaGreat
open Go.RowKit
attribute [local go_sem] Oper.semAt_some
def pc (m : Nat) : Nat := cntIn m [0,1,2,3,4,5]
def oc1 (x : Int) : Int := IntKind.u64.wrap (bits BinOp.and IntKind.u64 (x / 2) 6148914691236517205 + bits BinOp.and IntKind.u64 x 6148914691236517205)
def oc2 (x : Int) : Int := IntKind.u64.wrap (bits BinOp.and IntKind.u64 (x / 4) 3689348814741910323 + bits BinOp.and IntKind.u64 x 3689348814741910323)
def oc3 (x : Int) : Int := bits BinOp.and IntKind.u64 (IntKind.u64.wrap (x / 16 + x)) 1085102592571150095
def oc4 (x : Int) : Int := IntKind.u64.wrap (x + x / 256)
def oc5 (x : Int) : Int := IntKind.u64.wrap (x + x / 65536)
def oc6 (x : Int) : Int := IntKind.u64.wrap (x + x / 4294967296)
theorem oc_all : ∀ m < 64,bits BinOp.and IntKind.i64 (wrap64 (oc6 (oc5 (oc4 (oc3 (oc2 (oc1 (m : Nat)))))))) 127 = ((pc m : Nat) : Int) := by decide +kernel
theorem ones_any (m : Nat) (hm : m < 64) (w : World) : Calls Tryz.prog 91 #[.int .u64 (m : Int)] w fun r w' => r = .returned (.int .i64 ((pc m : Nat) : Int)) ∧ w = w' := by
 have hoc := oc_all m hm
 obtain ⟨X1,h1⟩ : ∃ X,oc1 m = X := ⟨_,rfl⟩
 rw [h1] at hoc
 obtain ⟨X2,h2⟩ : ∃ X,oc2 X1 = X := ⟨_,rfl⟩
 rw [h2] at hoc
 obtain ⟨X3,h3⟩ : ∃ X,oc3 X2 = X := ⟨_,rfl⟩
 rw [h3] at hoc
 obtain ⟨X4,h4⟩ : ∃ X,oc4 X3 = X := ⟨_,rfl⟩
 rw [h4] at hoc
 obtain ⟨X5,h5⟩ : ∃ X,oc5 X4 = X := ⟨_,rfl⟩
 rw [h5] at hoc
 obtain ⟨X6,h6⟩ : ∃ X,oc6 X5 = X := ⟨_,rfl⟩
 rw [h6] at hoc
 unfold oc1 at h1
 unfold oc2 at h2
 unfold oc3 at h3
 unfold oc4 at h4
 unfold oc5 at h5
 unfold oc6 at h6
 have HOC := Lib.hid hoc
 clear hoc
 go_enter Tryz.func91,Tryz.ntmps91
 go_wp2
 go_ret
 exact ⟨by rw [← HOC.out];rfl,rfl⟩
theorem onesCount_any (m : Nat) (hm : m < 64) (w : World) : Calls Tryz.prog 65 #[.int .u64 (m : Int)] w fun r w' => r = .returned (.int .i64 ((pc m : Nat) : Int)) ∧ w = w' := by
 go_enter Tryz.func65,Tryz.ntmps65
 go_wp2_with (first | (go_at_call 91;refine (ones_any m hm _).mono ?_;rintro e w' ⟨rfl,rfl⟩) | fail)
 go_ret
 exact ⟨rfl,rfl⟩
theorem size_any (m : Nat) (hm : m < 64) (w : World) : Calls Tryz.prog 43 #[.int .u64 (m : Int)] w fun r w' => r = .returned (.int .i64 ((pc m : Nat) : Int)) ∧ w = w' := by
 go_enter Tryz.func43,Tryz.ntmps43
 go_wp2_with (first | (go_at_call 65;refine (onesCount_any m hm _).mono ?_;rintro e w' ⟨rfl,rfl⟩) | fail)
 go_ret
 exact ⟨rfl,rfl⟩
end Go.Proofs.YtjcpjhlclpdpjaaGreat
namespace Go.Proofs.YtjcpjhlclpdpjaaGreat
open Go.RowKit
attribute [local go_sem] Oper.semAt_some
structure HouseV where
 g : Nat
 mm : Nat
 am : Nat
 vA : Option Addr
 vc : Nat
 vs : List Nat
structure Hs (e : Est) (H : HouseV) (B : Nat) (w : World) : Prop where
 ok : e.ok w B
 g : H.g < B
 c0 : w.cell? ⟨H.g,0,none⟩ = some (.slice e.hA e.H.length e.hc)
 c1 : w.cell? ⟨H.g,1,none⟩ = some (.int .u64 (H.mm : Int))
 c2 : w.cell? ⟨H.g,2,none⟩ = some (.int .u64 (H.am : Int))
 c3 : w.cell? ⟨H.g,3,none⟩ = some (.slice e.n.A e.n.d.length e.n.c)
 c4 : w.cell? ⟨H.g,4,none⟩ = some (.slice H.vA H.vs.length H.vc)
 v : Rd w B 1 H.vA H.vs.length (H.vs.map fun m => Value.int .u64 ((m : Nat) : Int))
theorem Hs.below {e : Est} {H : HouseV} {B : Nat} {w w' : World} (h : Hs e H B w) (hb : Below B w w') : Hs e H B w' :=
 ⟨h.ok.below hb,h.g,(hb.cell (p := ⟨H.g,0,none⟩) h.g).trans h.c0,(hb.cell (p := ⟨H.g,1,none⟩) h.g).trans h.c1,(hb.cell (p := ⟨H.g,2,none⟩) h.g).trans h.c2,(hb.cell (p := ⟨H.g,3,none⟩) h.g).trans h.c3,(hb.cell (p := ⟨H.g,4,none⟩) h.g).trans h.c4,h.v.below hb⟩
theorem Hs.drew {e : Est} {H : HouseV} {B : Nat} {w : World} (h : Hs e H B w) : Hs e H B w.drew := h.below ((Drw.refl w).drew.below _)
structure HsN (e : Est) (H : HouseV) : Prop where
 n : e.H.length ≤ 6
 nl : e.n.d.length = e.H.length + 1
 nc : e.n.d.length ≤ e.n.c
 ncm : e.n.c ≤ 9223372036854775807
 vl : H.vs.length ≤ 16
 mm : H.mm < 2 ^ e.H.length
 am : H.am < 2 ^ e.H.length
 vs : ∀ v ∈ H.vs,v < 2 ^ e.H.length
theorem pow_le64 {n : Nat} (h : n ≤ 6) : 2 ^ n ≤ 64 := by
 have : 2 ^ n ≤ 2 ^ 6 := Nat.pow_le_pow_right (by omega) h
 omega
def Est.nd (e : Est) (m : Nat) : Int := e.n.d.getD (pc m) 0
def Est.en (e : Est) (m p : Nat) : Bool := decide (e.nd m ≤ ((pc (m &&& p) : Nat) : Int))
def Est.sf (e : Est) (vs : List Nat) (m : Nat) : Bool := !(vs.any fun c => e.en m c)
theorem pc_le_all : ∀ n ≤ 6,∀ m < 2 ^ n,pc m ≤ n := by decide +kernel
theorem pc_le {n m : Nat} (hn : n ≤ 6) (hm : m < 2 ^ n) : pc m ≤ n := pc_le_all n hn m hm
theorem and_bits_all : ∀ a < 64,∀ b < 64,bits .and .u64 ((a : Nat) : Int) ((b : Nat) : Int) = ((a &&& b : Nat) : Int) := by decide +kernel
theorem or_bits_all : ∀ a < 64,∀ b < 64,bits .or .u64 ((a : Nat) : Int) ((b : Nat) : Int) = ((a ||| b : Nat) : Int) := by decide +kernel
theorem xor_bits_all : ∀ a < 64,∀ b < 64,bits .xor .u64 ((a : Nat) : Int) ((b : Nat) : Int) = ((a ^^^ b : Nat) : Int) := by decide +kernel
theorem enough_any (e : Est) (H : HouseV) (B m p : Nat) (w : World) (h : Hs e H B w) (hN : HsN e H) (hm : m < 2 ^ e.H.length) (hp : p < 2 ^ e.H.length) :
  Calls Tryz.prog 19 #[.pointer (some ⟨H.g,0,none⟩),.int .u64 (m : Int),.int .u64 (p : Int)] w fun r w' => r = .returned (.bool (e.en m p)) ∧ Drw w w' := by
 have h64 := pow_le64 hN.n
 have hm64 : m < 64 := by omega
 have hand := and_bits_all m hm64 p (by omega)
 have hmp : m &&& p ≤ m := Nat.and_le_left
 obtain ⟨b,o,hA1,hb,hall⟩ := h.ok.n.allAt (by have := hN.nl;omega)
 have hpc : pc m < e.n.d.length := by have := pc_le hN.n hm;have := hN.nl;omega
 have hS0 : ∀ W,Drw w W → W.cell? ⟨H.g,3,none⟩ = some (.slice (some ⟨b,o,none⟩) e.n.d.length e.n.c) ∧ W.cell? ⟨b,o + pc m,none⟩ = some (.int .i64 (e.nd m)) := fun W hW => ⟨by rw [hW.cell,h.c3,hA1],hall W (hW.below _) _ hpc⟩
 have HE := Lib.hid hS0
 obtain ⟨Z,hZ⟩ : ∃ Z,e.nd m = Z := ⟨_,rfl⟩
 obtain ⟨X,hX⟩ : ∃ X,m &&& p = X := ⟨_,rfl⟩
 have HEN : Hid (e.en m p = decide (Z ≤ ((pc X : Nat) : Int))) := by show _ = _;rw [← hZ,← hX];rfl
 have HSX : Hid (∀ W,Calls Tryz.prog 43 #[.int .u64 (X : Int)] W fun r w' => r = .returned (.int .i64 ((pc X : Nat) : Int)) ∧ W = w') := size_any X (by omega)
 have HSM : Hid (∀ W,Calls Tryz.prog 43 #[.int .u64 (m : Int)] W fun r w' => r = .returned (.int .i64 ((pc m : Nat) : Int)) ∧ W = w') := size_any m hm64
 have hnc := hN.nc
 have hcm := hN.ncm
 obtain ⟨M,hM⟩ : ∃ M,pc m = M := ⟨_,rfl⟩
 obtain ⟨Y,hY⟩ : ∃ Y,pc X = Y := ⟨_,rfl⟩
 obtain ⟨N,hNN⟩ : ∃ N,e.n.d.length = N := ⟨_,rfl⟩
 obtain ⟨C,hC⟩ : ∃ C,e.n.c = C := ⟨_,rfl⟩
 rw [hZ,hM,hNN,hC] at HE
 rw [hM] at HSM hpc
 rw [hY] at HEN HSX
 rw [hX] at hand
 rw [hNN] at hnc hpc
 rw [hC] at hnc hcm
 have p0 : (0 : Int) ≤ (M : Int) := by omega
 have p1 : (M : Int) < (N : Int) := by omega
 clear hZ hX hM hY hNN hC hall hS0
 go_enter Tryz.func19,Tryz.ntmps19
 go_wp2
 rename_i Kz hKz
 refine wp_region_ord (fun w' => Drw w w') [(0,true),(1,true),(2,true),(4,true),(5,true),(6,true),(7,true),(8,true),(3,false),(9,false),(10,true),(11,true),(12,true),(13,true)] (by kernel_rfl) (by kernel_rfl) rfl (by kernel_rfl) (fun x _ _ _ _ h => by cases x <;> exact h) (Drw.refl w).drew ?_
 iterate 8 (first | (refine wpOrd_skip rfl (by rfl) fun KK hKK => ?_;go_simp;refine hKK _ ?_;clear hKK KK) | (refine wpOrd_take rfl _ (by rfl) (by intro w' hS;obtain ⟨e0,e1⟩ := HE.out w' hS;go_simp;try with_reducible rfl) fun KK hKK => ?_;go_simp;refine hKK _ ?_;clear hKK KK))
 refine wpOrd_force rfl (by rfl) fun KK hKK => ?_
 go_simp
 refine (HSX.out _).mono ?_
 rintro x w1 ⟨rfl,rfl⟩
 refine hKK _ _ (Drw.refl w).drew ?_
 clear hKK KK
 refine wpOrd_force rfl (by rfl) fun KK hKK => ?_
 go_simp
 refine (HSM.out _).mono ?_
 rintro x w1 ⟨rfl,rfl⟩
 refine hKK _ _ (Drw.refl w).drew ?_
 clear hKK KK
 iterate 4 (first | (refine wpOrd_skip rfl (by rfl) fun KK hKK => ?_;go_simp;refine hKK _ ?_;clear hKK KK) | (refine wpOrd_take rfl _ (by rfl) (by intro w' hS;obtain ⟨e0,e1⟩ := HE.out w' hS;go_simp;try with_reducible rfl) fun KK hKK => ?_;go_simp;refine hKK _ ?_;clear hKK KK))
 refine wpOrd_nil ?_
 show Kz _ _
 refine hKz _ _ ?_
 go_simp
 go_wp2
 go_ret
 exact ⟨by rw [HEN.out];rfl,(Drw.refl w).drew⟩
end Go.Proofs.YtjcpjhlclpdpjaaGreat
