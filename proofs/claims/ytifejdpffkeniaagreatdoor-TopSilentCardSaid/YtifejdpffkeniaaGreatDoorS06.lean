import Derived.Deep.LoopGhost
import Derived.Handy
import Derived.IntWalk
import Derived.Outline
import Derived.WalkLawsBesides
import Derived.WalkSpells
import Derived.Test.YtifejdpffkeniaaGreatDoorS05
import Derived.Test.YtifejdpffkeniaaGreatDoorS03
set_option linter.unusedVariables false
set_option maxRecDepth 100000
set_option maxHeartbeats 40000000
namespace Go.Proofs.YtifejdpffkeniaaGreatDoor
open Go.RowKit
attribute [local go_sem] Oper.semAt_some
theorem ret_intU {k : IntKind} {a b : Int} (h : a = b) : Ending.returned (.int k a) = .returned (.int k b) := by rw [h]
theorem tmod_pos {n : Int} (h : 0 ≤ n.tmod 1073741789) : n.tmod 1073741789 = Fm.md n := by
 unfold Fm.md
 by_cases h0 : 0 ≤ n
 ·rw [Int.tmod_eq_emod_of_nonneg h0]
 ·obtain ⟨m,rfl⟩ : ∃ m,n = -m := ⟨-n,by omega⟩
  rw [Int.neg_tmod,Int.tmod_eq_emod_of_nonneg (by omega)] at *;omega
theorem tmod_neg {n : Int} (h : n.tmod 1073741789 < 0) : n.tmod 1073741789 + 1073741789 = Fm.md n ∧ -1073741789 < n.tmod 1073741789 := by
 unfold Fm.md
 by_cases h0 : 0 ≤ n
 ·rw [Int.tmod_eq_emod_of_nonneg h0] at h
  omega
 ·obtain ⟨m,rfl⟩ : ∃ m,n = -m := ⟨-n,by omega⟩
  rw [Int.neg_tmod,Int.tmod_eq_emod_of_nonneg (by omega)] at *;omega
theorem ret_bool {a b : Bool} (h : a = b) : Ending.returned (.bool a) = .returned (.bool b) := by rw [h]
theorem mod_any (n : Int) (w : World) : Calls Tryz.prog 115 #[.int .i64 n] w fun e w' => e = .returned (.int .i64 (Fm.md n)) ∧ w = w' := by
 by_cases h : n.tmod 1073741789 < 0
 ·have h2 := tmod_neg h
  have H := Lib.hid h2.1;have h3 := h2.2;clear h2;go_enter Tryz.func115,Tryz.ntmps115;go_wp2;go_ret;exact ⟨ret_intU H.out,rfl⟩
 ·have h' : 0 ≤ n.tmod 1073741789 := by omega
  have H := Lib.hid (tmod_pos h');go_enter Tryz.func115,Tryz.ntmps115;go_wp2;go_ret;exact ⟨ret_intU H.out,rfl⟩
theorem mul_bd (a b : Int) : 0 ≤ Fm.md a * Fm.md b ∧ Fm.md a * Fm.md b ≤ 1152921427297436944 := by
 have h1 := Fm.md_lo a;have h2 := Fm.md_lo b;have h3 := Fm.md_hi a;have h4 := Fm.md_hi b;refine ⟨Int.mul_nonneg h1 h2,?_⟩;have : Fm.md a * Fm.md b ≤ 1073741788 * 1073741788 := Int.mul_le_mul (by omega) (by omega) h2 (by decide);omega
theorem mul_eq (a b : Int) : (Fm.md a * Fm.md b) % 1073741789 = Fm.ml a b := Fm.cg_mul (Fm.cg_md a) (Fm.cg_md b)
theorem mul_any (a b : Int) (w : World) : Calls Tryz.prog 51 #[.int .i64 a,.int .i64 b] w fun e w' => e = .returned (.int .i64 (Fm.ml a b)) ∧ w = w' := by
 obtain ⟨h1,h2⟩ := mul_bd a b;have H := Lib.hid (mul_eq a b);go_enter Tryz.func51,Tryz.ntmps51
 go_wp2_with (go_at_call 115;refine (mod_any _ _).mono ?_;rintro e w' ⟨rfl,rfl⟩)
 go_ret;exact ⟨ret_intU H.out,rfl⟩
theorem ret_tup2 {j k : IntKind} {a b c d : Int} (h : a = c) (h' : b = d) : Ending.returned (.tuple #[.int j a,.int k b]) = .returned (.tuple #[.int j c,.int k d]) := by rw [h,h']
theorem inv_any (n : Int) (w : World) : Calls Tryz.prog 131 #[.int .i64 n] w fun e w' => e = .returned (.tuple #[.int .i64 (Fm.inv n),.int .i64 (Fm.invE n)]) ∧ w = w' := by
 by_cases h : Fm.md n = 0
 ·have H1 := Lib.hid (Fm.inv_zero h)
  have H2 := Lib.hid (Fm.invE_zero h);go_enter Tryz.func131,Tryz.ntmps131
  go_wp2_with fail
  go_step3
  go_wp2_with (go_at_call 115;refine (mod_any _ _).mono ?_;rintro e w' ⟨rfl,rfl⟩)
  rw [Exit.noGoto_ret];go_ret2;exact ⟨ret_tup2 H1.out.symm H2.out.symm,rfl⟩
 ·have H2 := Lib.hid (Fm.invE_ne h)
  have hs := Fm.pw_start n Fm.expo;have H3 : Hid (∀ v,v = n ^ Fm.expo % 1073741789 → v = Fm.inv n) := fun v h => h;generalize n ^ Fm.expo = v at hs H3;have hb : (Fm.md n == 0) = false := beq_eq_false_iff_ne.2 h;clear h;go_enter Tryz.func131,Tryz.ntmps131
  go_wp2_with (first | (go_at_call 115;refine (mod_any _ _).mono ?_;rintro e w' ⟨rfl,rfl⟩))
  go_step3
  go_wp2_with (first | (go_at_call 115;refine (mod_any _ _).mono ?_;rintro e w' ⟨rfl,rfl⟩))
  go_step3
  go_wp2
  go_loopg [2,4,5] Fm.expo (fun g x l a wx => w = wx ∧ ∃ xi ai : Int,∃ ni : Nat,g = ni ∧ x = .int .i64 xi ∧ a = .int .i64 ai ∧ l = .int .i64 ni ∧ ni ≤ 1073741789 ∧ 0 ≤ xi ∧ xi < 1073741789 ∧ Fm.pw xi ai ni v)
  case atStart => exact ⟨rfl,1,n,Fm.expo,rfl,rfl,rfl,rfl,by decide,by omega,by omega,hs⟩
  case round =>
   obtain ⟨rfl,xi,ai,ni,rfl,rfl,rfl,rfl,b1,b2,b3,hp⟩ := hrel
   by_cases hz : 0 < gk
   ·by_cases ho : gk % 2 = 1
    ·have hp2 := Fm.pw_odd hp ho
     have c1 := Fm.ml_lo xi ai;have c2 := Fm.ml_hi xi ai
     go_wp2_with (go_at_call 51;refine (mul_any _ _ _).mono ?_;rintro e w' ⟨rfl,rfl⟩)
     go_roundg (gk / 2)
     case rel => exact ⟨rfl,_,_,gk / 2,rfl,rfl,rfl,by go_num,by omega,c1,c2,hp2⟩
     case measure => omega
    ·have hp2 := Fm.pw_even hp (by omega)
     have ho' : gk % 2 = 0 := by omega
     go_wp2_with (go_at_call 51;refine (mul_any _ _ _).mono ?_;rintro e w' ⟨rfl,rfl⟩)
     go_roundg (gk / 2)
     case rel => exact ⟨rfl,_,_,gk / 2,rfl,rfl,rfl,by go_num,by omega,b2,b3,hp2⟩
     case measure => omega
   ·obtain rfl : gk = 0 := by omega
    have H := Lib.hid (H3.out _ (Fm.pw_end hp b2 b3));go_wp2;rw [Exit.noGoto_ret];go_ret2;exact ⟨ret_tup2 H.out H2.out.symm,rfl⟩
theorem sum_eq (a b : Int) : (Fm.md a % 1073741789 + Fm.md b) % 1073741789 = Fm.ad a b := by
 unfold Fm.md Fm.ad;omega
theorem sum_two (b : Nat) (x y : Int) (w : World) (h0 : w.cell? ⟨b,0,none⟩ = some (.int .i64 x)) (h1 : w.cell? ⟨b,1,none⟩ = some (.int .i64 y)) :
  Calls Tryz.prog 114 #[.slice (some ⟨b,0,none⟩) 2 2] w fun e w' => e = .returned (.int .i64 (Fm.ad x y)) ∧ w = w' := by
 have H := Lib.hid (sum_eq x y);have b1 := Fm.md_lo x;have b2 := Fm.md_hi x;have b3 := Fm.md_lo y;have b4 := Fm.md_hi y;go_enter Tryz.func114,Tryz.ntmps114;go_wp2;refine wp_loop_rounds 3 ?_;rw [rounds_succ]
 go_wp2_with (go_at_call 115;refine (mod_any _ _).mono ?_;rintro e w' ⟨rfl,rfl⟩)
 rw [rounds_succ]
 go_wp2_with (go_at_call 115;refine (mod_any _ _).mono ?_;rintro e w' ⟨rfl,rfl⟩)
 rw [rounds_succ];go_wp2;go_ret;exact ⟨ret_intU H.out,rfl⟩
theorem sum_new (a b : Int) (w : World) : Calls Tryz.prog 114 #[.slice (some ⟨w.heap.size,0,none⟩) 2 2] (w.alloc (.cells #[.int .i64 a,.int .i64 b] 3))
  fun e w' => e = .returned (.int .i64 (Fm.ad a b)) ∧ w.alloc (.cells #[.int .i64 a,.int .i64 b] 3) = w' :=
 sum_two _ a b _ (by go_cell) (by go_cell)
theorem add_any (a b : Int) (w : World) : Calls Tryz.prog 50 #[.int .i64 a,.int .i64 b] w fun e w' => e = .returned (.int .i64 (Fm.ad a b)) ∧ w.alloc (.cells #[.int .i64 a,.int .i64 b] 3) = w' := by
 go_enter Tryz.func50,Tryz.ntmps50
 go_wp2_with (go_at_call 114;refine (sum_new _ _ _).mono ?_;rintro e w' ⟨rfl,rfl⟩)
 go_ret;exact ⟨rfl,rfl⟩
structure RI where
 A : Option Addr
 c : Nat
 d : List Int
def RI.cell (r : RI) : Value := .slice r.A r.d.length r.c
def RI.ok (w : World) (B : Nat) (r : RI) : Prop := Rd w B 1 r.A r.d.length (r.d.map (Value.int .i64)) ∧ r.d.length ≤ r.c ∧ r.c ≤ maxLen
theorem RI.ok.below {w w' : World} {B : Nat} {r : RI} (h : r.ok w B) (hb : Below B w w') : r.ok w' B := ⟨h.1.below hb,h.2⟩
theorem RI.ok.more {w : World} {B B' : Nat} {r : RI} (h : r.ok w B) (hB : B ≤ B') : r.ok w B' := ⟨h.1.more hB,h.2⟩
structure RdM (w : World) (B : Nat) (A : Option Addr) (rs : List RI) : Prop where
 top : Rd w B 1 A rs.length (rs.map RI.cell)
 rows : ∀ r ∈ rs,r.ok w B
theorem RdM.below {w w' : World} {B : Nat} {A : Option Addr} {rs : List RI} (h : RdM w B A rs) (hb : Below B w w') : RdM w' B A rs := ⟨h.top.below hb,fun r hr => (h.rows r hr).below hb⟩
theorem RdM.more {w : World} {B B' : Nat} {A : Option Addr} {rs : List RI} (h : RdM w B A rs) (hB : B ≤ B') : RdM w B' A rs := ⟨h.top.more hB,fun r hr => (h.rows r hr).more hB⟩
structure FRow (L : Nat) (r : RI) : Prop where
 len : r.d.length = L
 lo : ∀ x ∈ r.d,0 ≤ x
 hi : ∀ x ∈ r.d,x < 1073741789
def r0 : RI := ⟨none,0,[]⟩
theorem getD_mem' {rs : List RI} {k : Nat} (hk : k < rs.length) : rs.getD k r0 ∈ rs ∧ rs[k]? = some (rs.getD k r0) := by
 have : rs.getD k r0 = rs[k] := by rw [List.getD_eq_getElem?_getD,List.getElem?_eq_getElem hk];rfl
 rw [this];exact ⟨List.getElem_mem hk,List.getElem?_eq_getElem hk⟩
theorem RdM.at {w : World} {B : Nat} {A : Option Addr} {rs : List RI} (h : RdM w B A rs) (h0 : 0 < rs.length) : ∃ b o,A = some ⟨b,o,none⟩ ∧ b < B ∧ ∀ k,k < rs.length → ∀ W,Below B w W → W.cell? ⟨b,o + k,none⟩ = some (rs.getD k r0).cell := by
 obtain ⟨b,o,e1,hb,hc⟩ := h.top.2 h0;refine ⟨b,o,e1,hb,fun k hk W hW => (hW.cell (p := ⟨b,o + k,none⟩) hb).trans (hc k _ ?_)⟩;rw [List.getElem?_map,(getD_mem' hk).2]
 rfl
theorem RI.at {w : World} {B : Nat} {r : RI} (h : r.ok w B) (h0 : 0 < r.d.length) : ∃ b o,r.A = some ⟨b,o,none⟩ ∧ b < B ∧ ∀ k,k < r.d.length → ∀ W,Below B w W → W.cell? ⟨b,o + k,none⟩ = some (.int .i64 (r.d.getD k 0)) := by
 obtain ⟨_,b,o,e1,hb,hc⟩ := i64at h.1 h0;exact ⟨b,o,e1,hb,hc⟩
theorem need_any (e : Int) (w : World) : Calls Tryz.prog 129 #[.bool true,.int .i64 e] w fun r w' => r = .returned (.tuple #[]) ∧ w = w' := by
 go_enter Tryz.func129,Tryz.ntmps129;go_wp2;refine bodyPost_end (results_none' rfl _ _ _ rfl) rfl ?_;exact ⟨rfl,rfl⟩
theorem check1_any (n : Int) (w : World) (h0 : 0 ≤ n) (h1 : n < 1073741789) : Calls Tryz.prog 146 #[.int .i64 n] w fun r w' => r = .returned (.bool false) ∧ w = w' := by
 have a0 : decide (n < 0) = false := decide_eq_false (by omega);have a1 : decide (1073741789 ≤ n) = false := decide_eq_false (by omega);go_enter Tryz.func146,Tryz.ntmps146;go_wp2;go_ret;exact ⟨rfl,rfl⟩
theorem ciI_any  (A : Option Addr) (n c : Nat) (hn : n ≤ 4096) (p : Nat → Int) (I : Nat → World → Prop) (w : World) (h0 : I 0 w)
  (hA : 0 < n → ∃ b o,A = some ⟨b,o,none⟩ ∧ ∀ k,k < n → ∀ W,I k W → W.cell? ⟨b,o + k,none⟩ = some (.int .i64 (p k)))
  (hcall : ∀ k,k < n → ∀ W,I k W → Calls Tryz.prog 146 #[.int .i64 (p k)] W fun r w' => r = .returned (.bool false) ∧ I (k + 1) w') :
  Calls Tryz.prog 126 #[.slice A n c,(.func (.func 146) #[] #[])] w fun r w' => r = .returned (.int .i64 (-1)) ∧ I n w' := by
 have HA := Lib.hid hA;have HC := Lib.hid hcall;have H0 := Lib.hid h0;clear hA hcall h0;go_enter Tryz.func126,Tryz.ntmps126;go_wp2
 go_loopw [8] (fun i wr => ∃ k : Nat,k ≤ n ∧ i = .int .i64 k ∧ I k wr) (fun i _ => n - (intOf i).toNat)
 case atStart => exact ⟨0,Nat.zero_le _,rfl,H0.out⟩
 case round =>
  clear H0;obtain ⟨k,hk,rfl,hi⟩ := hrel;have HI := Lib.hid hi;clear hi
  by_cases hlt : k < n
  ·have k1 : (k : Int) < (n : Int) := by omega
   have k0 : (0 : Int) ≤ (k : Int) := by omega
   obtain ⟨b,o,hA1,hcc⟩ := HA.out (by omega);subst hA1;have hcc := hcc k hlt wr HI.out;have hC := HC.out k hlt wr HI.out;obtain ⟨P0,hP0⟩ : ∃ P,p k = P := ⟨_,rfl⟩;rw [hP0] at hC hcc;have HC2 := Lib.hid hC;clear hC hP0 HA HC;obtain x0 := hcc
   go_wp2_with fail
   refine HC2.out.mono ?_;rintro x w1 ⟨rfl,hi1⟩;have HI1 := Lib.hid hi1;clear hi1;go_wp2;go_roundw
   case rel => exact ⟨k + 1,by omega,by go_num,HI1.out⟩
   case measure => simp [intOf];omega
  ·obtain rfl : k = n := by omega
   go_wp2;go_ret;exact ⟨rfl,HI.out⟩
theorem ciC_any  (A : Option Addr) (n c : Nat) (hn : n ≤ 4096) (p : Nat → Int) (I : Nat → World → Prop) (w : World) (h0 : I 0 w)
  (hA : 0 < n → ∃ b o,A = some ⟨b,o,none⟩ ∧ ∀ k,k < n → ∀ W,I k W → W.cell? ⟨b,o + k,none⟩ = some (.int .i64 (p k)))
  (hcall : ∀ k,k < n → ∀ W,I k W → Calls Tryz.prog 146 #[.int .i64 (p k)] W fun r w' => r = .returned (.bool false) ∧ I (k + 1) w') :
  Calls Tryz.prog 79 #[.slice A n c,(.func (.func 146) #[] #[])] w fun r w' => r = .returned (.bool false) ∧ I n w' := by
 have HI := Lib.hid (ciI_any  A n c hn p I w h0 hA hcall);clear hA hcall h0;go_enter Tryz.func79,Tryz.ntmps79
 go_wp2_with fail
 refine HI.out.mono ?_;rintro x w1 ⟨rfl,hi⟩;have HI1 := Lib.hid hi;clear hi;go_wp2;go_ret;exact ⟨rfl,HI1.out⟩
theorem inField_any (L : Nat) (r : RI) (B : Nat) (w : World) (h : r.ok w B) (hf : FRow L r) (hL : L ≤ 64) :
  Calls Tryz.prog 79 #[r.cell,.func (.func 146) #[] #[]] w fun x w' => x = .returned (.bool false) ∧ w = w' := by
 have hl := hf.len;refine ciC_any r.A r.d.length r.c (by omega) (fun k => r.d.getD k 0) (fun _ V => w = V) w rfl (fun h0 => ?_) (fun k hk V hV => ?_)
 ·obtain ⟨b,o,e1,_,hc⟩ := RI.at h h0
  exact ⟨b,o,e1,fun k hk W hW => by subst hW;exact hc k hk _ (Below.refl _ _)⟩
 ·subst hV
  have e : r.d.getD k 0 = r.d[k] := by rw [List.getD_eq_getElem?_getD,List.getElem?_eq_getElem hk];rfl
  show Calls _ _ #[.int .i64 (r.d.getD k 0)] _ _;rw [e];exact check1_any _ _ (hf.lo _ (List.getElem_mem hk)) (hf.hi _ (List.getElem_mem hk))
theorem RI.cell_eq (r : RI) : r.cell = .slice r.A r.d.length r.c := rfl
theorem lcheck_any (L : Nat) (A : Option Addr) (c : Nat) (rs : List RI) (B : Nat) (w : World) (h : RdM w B A rs) (hf : ∀ r ∈ rs,FRow L r) (hL : L ≤ 64) (hn : rs.length ≤ 64) :
  Calls Tryz.prog 130 #[.slice A rs.length c] w fun x w' => x = .returned (.tuple #[]) ∧ w = w' := by
 have HA : Hid (0 < rs.length → ∃ b o,A = some ⟨b,o,none⟩ ∧ ∀ k,k < rs.length → ∃ rA rc,w.cell? ⟨b,o + k,none⟩ = some (.slice rA L rc) ∧ Calls Tryz.prog 79 #[.slice rA L rc,.func (.func 146) #[] #[]] w fun x w' => x = .returned (.bool false) ∧ w = w') := fun h0 => by
  obtain ⟨b,o,e1,_,hc⟩ := h.at h0;refine ⟨b,o,e1,fun k hk => ?_⟩;have hm := (getD_mem' hk).1;have h1 := hc k hk _ (Below.refl _ _);have h2 := inField_any L _ B w (h.rows _ hm) (hf _ hm) hL;rw [RI.cell_eq,(hf _ hm).len] at h1 h2;exact ⟨_,_,h1,h2⟩
 obtain ⟨n,hnn⟩ : ∃ n,rs.length = n := ⟨_,rfl⟩;rw [hnn] at HA hn ⊢;clear h hf hnn;have hL1 : (L : Int) ≤ 64 := by omega
 go_enter Tryz.func130,Tryz.ntmps130;go_wp2
 go_loopw [9] (fun i wr => w = wr ∧ ∃ k : Nat,k ≤ n ∧ i = .int .i64 k) (fun i _ => n - (intOf i).toNat)
 case atStart => exact ⟨rfl,0,Nat.zero_le _,rfl⟩
 case round =>
  obtain ⟨rfl,k,hk,rfl⟩ := hrel
  by_cases hlt : k < n
  ·have k1 : (k : Int) < (n : Int) := by omega
   have k0 : (0 : Int) ≤ (k : Int) := by omega
   obtain ⟨b,o,hA1,hcc⟩ := HA.out (by omega);subst hA1;obtain ⟨rA,rc,q0,_⟩ := hcc k hlt;clear hcc
   go_wp2_with (go_at_call 129;refine (need_any _ _).mono ?_;rintro x w1 ⟨rfl,rfl⟩)
   go_roundw
   case rel => exact ⟨trivial,k + 1,by omega,by go_num⟩
   case measure => simp [intOf];omega
  ·obtain rfl : k = n := by omega
   go_wp2
   go_loopw [20] (fun i wr => w = wr ∧ ∃ j : Nat,j ≤ k ∧ i = .int .i64 j) (fun i _ => k - (intOf i).toNat)
   case atStart => exact ⟨rfl,0,Nat.zero_le _,rfl⟩
   case round =>
    obtain ⟨rfl,j,hj,rfl⟩ := hrel
    by_cases hlt : j < k
    ·have k1 : (j : Int) < (k : Int) := by omega
     have k0 : (0 : Int) ≤ (j : Int) := by omega
     have k2 : (0 : Int) < (k : Int) := by omega
     obtain ⟨b,o,hA1,hcc⟩ := HA.out (by omega);subst hA1;obtain ⟨rA,rc,q0,hC⟩ := hcc j hlt;obtain ⟨sA,sc,q1,_⟩ := hcc 0 (by omega);rw [Nat.add_zero] at q1;have HC := Lib.hid hC;clear hcc hC
     go_wp2_with (first | (go_at_call 129;refine (need_any _ _).mono ?_;rintro x w1 ⟨rfl,rfl⟩) | (go_at_call 79;refine HC.out.mono ?_;rintro x w1 ⟨rfl,rfl⟩))
     go_roundw
     case rel => exact ⟨trivial,j + 1,by omega,by go_num⟩
     case measure => simp [intOf];omega
    ·obtain rfl : j = k := by omega
     go_wp2;refine bodyPost_end (results_none' rfl _ _ _ rfl) rfl ?_;exact ⟨rfl,rfl⟩
theorem examine_any (L : Nat) (A : Option Addr) (c : Nat) (rs : List RI) (t : RI) (w : World) (h : RdM w w.heap.size A rs) (hf : ∀ r ∈ rs,FRow L r) (ht : t.ok w w.heap.size) (htf : FRow L t) (hL : L ≤ 64) (hn : rs.length ≤ 64) :
  Calls Tryz.prog 88 #[.slice A rs.length c,t.cell] w fun x w' => x = .returned (.tuple #[]) ∧ Below w.heap.size w w' := by
 have HB : Hid (Below w.heap.size w (w.alloc (.cells #[t.cell] 23))) := (Below.refl _ _).alloc (Nat.le_refl _) _;have H1 : Hid (Calls Tryz.prog 130 #[.slice A rs.length c] w fun x w' => x = .returned (.tuple #[]) ∧ w = w') := lcheck_any L A c rs _ w h hf hL hn
 have H2 : Hid (Calls Tryz.prog 130 #[.slice (some ⟨w.heap.size,0,none⟩) 1 1] (w.alloc (.cells #[t.cell] 23)) fun x w' => x = .returned (.tuple #[]) ∧ (w.alloc (.cells #[t.cell] 23)) = w') := by
  refine lcheck_any L (some ⟨w.heap.size,0,none⟩) 1 [t] (w.heap.size + 1) _ ⟨⟨rfl,fun _ => ⟨_,_,rfl,by omega,fun j u hu => ?_⟩⟩,fun r hr => ?_⟩ (fun r hr => ?_) hL (by simp)
  ·match j,hu with
   | 0,hu => exact (Row.fresh w _ [t.cell]).cell hu
   | j + 1,hu => simp at hu
  ·obtain rfl : r = t := by simpa using hr
   exact (ht.below HB.out).more (by omega)
  ·obtain rfl : r = t := by simpa using hr
   exact htf
 have HA : Hid (0 < rs.length → ∃ b o,A = some ⟨b,o,none⟩ ∧ ∃ rA rc,(w.alloc (.cells #[t.cell] 23)).cell? ⟨b,o,none⟩ = some (.slice rA L rc)) := fun h0 => by
  obtain ⟨b,o,e1,hb,hc⟩ := h.at h0;have h1 := hc 0 h0 _ HB.out;have hm := (getD_mem' h0).1;rw [RI.cell_eq (rs.getD 0 r0),(hf _ hm).len,Nat.add_zero] at h1;exact ⟨b,o,e1,_,_,h1⟩
 obtain ⟨tA,tc,td⟩ := t;have htl : td.length = L := htf.len;obtain ⟨n,hnn⟩ : ∃ n,rs.length = n := ⟨_,rfl⟩;change Hid (Below w.heap.size w (w.alloc (.cells #[.slice tA td.length tc] 23))) at HB;change Hid (Calls Tryz.prog 130 #[.slice (some ⟨w.heap.size,0,none⟩) 1 1] (w.alloc (.cells #[.slice tA td.length tc] 23)) fun x w' => x = .returned (.tuple #[]) ∧ (w.alloc (.cells #[.slice tA td.length tc] 23)) = w') at H2;change Hid (0 < rs.length → ∃ b o,A = some ⟨b,o,none⟩ ∧ ∃ rA rc,(w.alloc (.cells #[.slice tA td.length tc] 23)).cell? ⟨b,o,none⟩ = some (.slice rA L rc)) at HA;show Calls _ _ #[_,.slice tA td.length tc] _ _;rw [htl] at HB H2 HA ⊢;rw [hnn] at H1 HA hn ⊢;clear h hf ht htf hnn htl;have hL1 : (L : Int) ≤ 64 := by omega
 have hn1 : (n : Int) ≤ 64 := by omega
 rcases Nat.eq_zero_or_pos n with h0 | h0
 ·subst h0
  go_enter Tryz.func88,Tryz.ntmps88
  go_wp2_with fail
  refine (need_any _ _).mono ?_;rintro x w1 ⟨rfl,rfl⟩
  go_wp2_with fail
  refine H1.out.mono ?_;rintro x w1 ⟨rfl,rfl⟩
  go_wp2_with fail
  refine H2.out.mono ?_;rintro x w1 ⟨rfl,rfl⟩
  go_wp2_with fail
  refine (need_any _ _).mono ?_;rintro x w1 ⟨rfl,rfl⟩;go_wp2;refine bodyPost_end (results_none' rfl _ _ _ rfl) rfl ?_;exact ⟨rfl,HB.out⟩
 ·have e0 : ((n : Int) == 0) = false := by simp;omega
  have k2 : (0 : Int) < (n : Int) := by omega
  obtain ⟨b,o,hA1,rA,rc,q0⟩ := HA.out h0;subst hA1;have HQ := Lib.hid q0;clear q0;go_enter Tryz.func88,Tryz.ntmps88
  go_wp2_with fail
  refine (need_any _ _).mono ?_;rintro x w1 ⟨rfl,rfl⟩
  go_wp2_with fail
  refine H1.out.mono ?_;rintro x w1 ⟨rfl,rfl⟩
  go_wp2_with fail
  refine H2.out.mono ?_;rintro x w1 ⟨rfl,rfl⟩;have q0 := HQ.out
  go_wp2_with fail
  refine (need_any _ _).mono ?_;rintro x w1 ⟨rfl,rfl⟩;go_wp2;refine bodyPost_end (results_none' rfl _ _ _ rfl) rfl ?_;exact ⟨rfl,HB.out⟩
def gk (gs : List (Nat × Nat)) (i : Nat) : Nat × Nat := gs.getD i (0,0)
def rowV (M : Nat → Nat → Int) (L i : Nat) : List Value := (List.range L).map fun j => .int .i64 (M i j)
structure Tab (w : World) (B tb : Nat) (gs : List (Nat × Nat)) (L : Nat) (M : Nat → Nat → Int) : Prop where
 top : Row w tb 23 (gs.map fun g => .slice (some ⟨g.1,0,none⟩) L g.2)
 row : ∀ i,i < gs.length → w.ownsRow B 3 1 (.slice (some ⟨(gk gs i).1,0,none⟩) L (gk gs i).2) L (rowV M L i)
 inj : ∀ i j,i < gs.length → j < gs.length → (gk gs i).1 = (gk gs j).1 → i = j
 ne : ∀ i,i < gs.length → (gk gs i).1 ≠ tb
 lo : B ≤ tb
section
variable {w w' : World} {B tb L : Nat} {gs : List (Nat × Nat)} {M : Nat → Nat → Int}
theorem rowV_get {i j : Nat} (hj : j < L) : (rowV M L i)[j]? = some (.int .i64 (M i j)) := by
 unfold rowV;rw [List.getElem?_map,List.getElem?_range hj];rfl
theorem Tab.glt (h : Tab w B tb gs L M) {i : Nat} (hi : i < gs.length) : B ≤ (gk gs i).1 ∧ (gk gs i).1 < w.heap.size := (h.row i hi).lt _ rfl
theorem Tab.tlt (h : Tab w B tb gs L M) : tb < w.heap.size := h.top.lt
theorem Tab.cap (h : Tab w B tb gs L M) {i : Nat} (hi : i < gs.length) (hL : 0 < L) : L ≤ (gk gs i).2 ∧ (gk gs i).2 ≤ maxLen := by
 rcases (h.row i hi).2 with ⟨h1,h2⟩ | ⟨g,cap,cur,e,_,_,h3,h4,_⟩
 ·omega
 ·injection e with _ _ e;subst e;exact ⟨h3,h4⟩
theorem Tab.tcell (h : Tab w B tb gs L M) {i : Nat} (hi : i < gs.length) : w.cell? ⟨tb,i,none⟩ = some (.slice (some ⟨(gk gs i).1,0,none⟩) L (gk gs i).2) := h.top.cell (by
 have : gk gs i = gs[i] := by unfold gk;rw [List.getD_eq_getElem?_getD,List.getElem?_eq_getElem hi];rfl
 rw [List.getElem?_map,List.getElem?_eq_getElem hi,this];rfl)
theorem Tab.cell (h : Tab w B tb gs L M) {i j : Nat} (hi : i < gs.length) (hj : j < L) : w.cell? ⟨(gk gs i).1,j,none⟩ = some (.int .i64 (M i j)) := by
 rw [(h.row i hi).cellAt j (by omega),rowV_get hj]
theorem Tab.fz (h : Tab w B tb gs L M) {i : Nat} (hi : i < gs.length) (j : Nat) : w.frozen? ⟨(gk gs i).1,j,none⟩ = false := (h.row i hi).frozenAt j
theorem Tab.kept (h : Tab w B tb gs L M) {row : Option Nat} (hg : w.grownBy w' row) (hne : ∀ r,row = some r → r ≠ tb ∧ ∀ i,i < gs.length → (gk gs i).1 ≠ r) : Tab w' B tb gs L M :=
 ⟨h.top.grown hg (fun e => (hne tb e.symm).1 rfl),fun i hi => (h.row i hi).kept hg (.inr fun e => (hne _ e.symm).2 i hi rfl),h.inj,h.ne,h.lo⟩
theorem grown_of_below (h : Below w.heap.size w w') : w.grownBy w' none := ⟨h.os,h.tape,h.output,h.size,fun k hk _ => h.block k hk⟩
theorem Tab.next (h : Tab w B tb gs L M) (hb : Below w.heap.size w w') : Tab w' B tb gs L M := h.kept (grown_of_below hb) (fun r e => by cases e)
theorem own_belowU {w w' : World} {B C : Nat} {e : TypeId} {size : Nat} {v : Value} {n : Nat} {xs : List Value} (h : w.ownsRow B e size v n xs) (hb : Below C w w') (hv : ∀ g,v.ownBlock = some g → g < C) : w'.ownsRow B e size v n xs := by
 refine ⟨h.1,?_⟩
 rcases h.2 with h2 | ⟨g,cap,cur,e1,e2,e3,e4⟩
 ·exact .inl h2
 ·exact .inr ⟨g,cap,cur,e1,e2,(hb.block g (hv g (by rw [e1];rfl))).trans e3,e4⟩
theorem Tab.congr (h : Tab w B tb gs L M) {M' : Nat → Nat → Int} (he : ∀ i j,i < gs.length → j < L → M i j = M' i j) : Tab w B tb gs L M' :=
 ⟨h.top,fun i hi => by
  have : rowV M' L i = rowV M L i := by
   unfold rowV;refine List.map_congr_left fun j hj => ?_;rw [he i j hi (List.mem_range.1 hj)]
  rw [this];exact h.row i hi,h.inj,h.ne,h.lo⟩
def setM (M : Nat → Nat → Int) (i j : Nat) (v : Int) : Nat → Nat → Int := fun r k => if r = i ∧ k = j then v else M r k
theorem Tab.set (h : Tab w B tb gs L M) {i j : Nat} (hi : i < gs.length) (hj : j < L) (v : Int) : Tab (w.setCell ⟨(gk gs i).1,j,none⟩ (.int .i64 v)) B tb gs L (setM M i j v) := by
 obtain ⟨h1,h2⟩ := (h.row i hi).stored j (.int .i64 v);refine ⟨h.top.away (h.ne i hi).symm _,fun k hk => ?_,h.inj,h.ne,h.lo⟩
 by_cases e : k = i
 ·subst e
  have : rowV (setM M k j v) L k = (rowV M L k).set j (.int .i64 v) := by
   refine List.ext_getElem? fun q => ?_
   by_cases hq : q < L
   ·rw [rowV_get hq,List.getElem?_set]
    by_cases e : j = q
    ·subst e;simp [setM,rowV,hq]
    ·have e' : ¬ q = j := fun h => e h.symm
     simp [setM,e,e',rowV_get hq]
   ·rw [List.getElem?_eq_none (by unfold rowV;simp;omega),List.getElem?_eq_none (by unfold rowV;simp;omega)]
  rw [this];exact h1
 ·have : rowV (setM M i j v) L k = rowV M L k := by unfold rowV setM;simp [e]
  rw [this];exact (h.row k hk).kept h2 (.inr fun e' => e (h.inj _ _ hk hi (by injection e')))
theorem Tab.isc (h : Tab w B tb gs L M) (hL : 0 < L) {i : Nat} (hi : i < gs.length) {o : Obj} (ho : w.heap[(gk gs i).1]? = some o) : o.isCells = true := by
 rcases (h.row i hi).2 with ⟨h1,h2⟩ | ⟨g,cap,cur,e,_,h3,_⟩
 ·omega
 ·injection e with e _ _
  injection e with e
  injection e with e
  rw [e,h3] at ho
  cases ho
  rfl
end
theorem after_any (A : Option Addr) (n c : Nat) (k : Int) (w : World) : Calls Tryz.prog 132 #[.slice A n c,.int .i64 k] w fun r w' =>
  r = .returned (.func (.func 147) #[] #[.pointer (some ⟨w.heap.size + 1,0,none⟩),.pointer (some ⟨w.heap.size,0,none⟩)]) ∧
  (w.alloc (.cells #[.slice A n c] 23)).alloc (.cells #[.int .i64 k] 3) = w' := by
 go_enter Tryz.func132,Tryz.ntmps132;go_wp2;go_ret;exact ⟨rfl,rfl⟩
theorem after1_hands (c L cap g sc sr : Nat) (v : Nat → Int) (hc : c ≤ L) (hL : L ≤ 4096) (hcap : L ≤ cap) (w0 : World) (I : Nat → World → Prop)
  (hI : ∀ s W,I s W → Row W sc 3 [.int .i64 (c : Int)] ∧ Row W sr 23 [.slice (some ⟨g,0,none⟩) L cap] ∧ (s < L → W.cell? ⟨g,s,none⟩ = some (.int .i64 (v s)))) :
  Hands Fence.wide 8 Tryz.prog 147 #[.pointer (some ⟨sc,0,none⟩),.pointer (some ⟨sr,0,none⟩)] w0 I (fun s vs s' _ => s' = s + 1 ∧ c ≤ s ∧ s < L ∧ vs = #[.int .i64 (s : Int),.int .i64 (v s)]) c (fun s => s = L) := by
 intro l J Jx W hb hJI hJ hJx hY h0
 have HI : Hid (∀ s V,J s V → V.cell? ⟨sc,0,none⟩ = some (.int .i64 (c : Int)) ∧ V.cell? ⟨sr,0,none⟩ = some (.slice (some ⟨g,0,none⟩) L cap) ∧ (s < L → V.cell? ⟨g,s,none⟩ = some (.int .i64 (v s)))) := fun s V h => by
  obtain ⟨q1,q2,q3⟩ := hI s V (hJI s V h);exact ⟨q1.cell (i := 0) rfl,q2.cell (i := 0) rfl,q3⟩
 have HY := Lib.hid hY;have H0 := Lib.hid h0;refine callsIn_of_wp Tryz.func147 rfl trivial ?_ rfl;obtain ⟨c2,c0,_⟩ := HI.out _ _ h0;clear hI hJI hJ hJx hY h0 hb;simp only [Tryz.ntmps147,List.size_toArray,List.length_cons,List.length_nil,Nat.reduceAdd,Nat.reduceSub,Array.replicate_succ,Array.replicate_zero,List.push_toArray,List.append_toArray,List.nil_append,List.cons_append];gi_wp2;clear c2 c0
 gi_loopw [4] (fun x wr => ∃ k : Nat,c ≤ k ∧ k ≤ L ∧ x = .int .i64 k ∧ J k wr) (fun x _ => L - (intOf x).toNat)
 case atStart => exact ⟨c,by omega,by omega,rfl,H0.out⟩
 case round =>
  clear H0;obtain ⟨k,hk0,hk,rfl,hj⟩ := hrel;have HJ := Lib.hid hj;obtain ⟨c2,c0,hq⟩ := HI.out _ _ hj;clear hj
  by_cases hlt : k < L
  ·have k1 : (k : Int) < (L : Int) := by omega
   have k0 : (0 : Int) ≤ (k : Int) := by omega
   have q0 := hq hlt;clear hq;obtain ⟨V,hV⟩ : ∃ V,v k = V := ⟨_,rfl⟩;have hy0 := HY.out k #[.int .i64 (k : Int),.int .i64 V] (k + 1) wr HJ.out ⟨rfl,hk0,hlt,by rw [hV]⟩;rw [hV] at q0;obtain ⟨fn,tmps,assign,body,hy,hRR⟩ := hy0;have HRR := Lib.hid hRR;clear hRR hV
   gi_wp2_with fail
   refine HRR.out.mono ?_;rintro x W3 (⟨rfl,hJ3⟩ | ⟨rfl,hJ3⟩)
   ·have HJ3 := Lib.hid hJ3
    clear hJ3 q0 c2 c0 hy
    gi_wp2_with fail
    go_roundw
    case rel => exact ⟨k + 1,by omega,by omega,by go_num,HJ3.out⟩
    case measure => simp [intOf];omega
   ·have HJ3 := Lib.hid hJ3
    clear hJ3 q0 c2 c0 hy
    gi_wp2_with fail
    refine bodyPost_ret (results_none' rfl _ _ _ rfl) rfl ?_;exact ⟨⟨_,rfl⟩,.inr ⟨_,HJ3.out⟩⟩
  ·obtain rfl : k = L := by omega
   clear hq
   gi_wp2_with fail
   refine bodyPost_end (results_none' rfl _ _ _ rfl) rfl ?_;exact ⟨⟨_,rfl⟩,.inl ⟨_,rfl,HJ.out⟩⟩
def clrTo (M : Nat → Nat → Int) (i b c k : Nat) : Nat → Nat → Int := fun r j => if r = i ∧ c ≤ j ∧ j < k then Fm.ad (M i j) (-(Fm.ml (M i c) (M b j))) else M r j
theorem clrTo_start (M : Nat → Nat → Int) (i b c : Nat) : clrTo M i b c c = M := by
 funext r j
 unfold clrTo;rw [if_neg (by omega)]
theorem clrTo_next (M : Nat → Nat → Int) {i b c k : Nat} (hk : c ≤ k) (hib : i ≠ b) : setM (clrTo M i b c k) i k (Fm.ad (clrTo M i b c k i k) (-(Fm.ml (M i c) (M b k)))) = clrTo M i b c (k + 1) := by
 funext r j
 unfold setM clrTo
 by_cases h : r = i ∧ j = k
 ·obtain ⟨rfl,rfl⟩ := h
  rw [if_pos ⟨rfl,rfl⟩,if_neg (by omega),if_pos ⟨rfl,hk,by omega⟩]
 ·rw [if_neg h]
  by_cases h2 : r = i ∧ c ≤ j ∧ j < k
  ·rw [if_pos h2,if_pos ⟨h2.1,h2.2.1,by omega⟩]
  ·rw [if_neg h2,if_neg (by rintro ⟨h3,h4,h5⟩;exact h2 ⟨h3,h4,by
    rcases Nat.lt_or_ge j k with h6 | h6
    ·exact h6
    ·exact absurd ⟨h3,by omega⟩ h⟩)]
theorem clrTo_zero (M : Nat → Nat → Int) {i b c k L n : Nat} (hz : M i c = 0) (hr : ∀ r j,r < n → j < L → 0 ≤ M r j ∧ M r j < 1073741789) (hi : i < n) : ∀ r j,r < n → j < L → M r j = clrTo M i b c k r j := by
 intro r j hrn hj;unfold clrTo
 split
 ·rename_i h
  obtain ⟨rfl,_⟩ := h;have := hr r j hrn hj;rw [hz];unfold Fm.ad Fm.ml;simp;omega
 ·rfl
structure ClrM (s tb n tc i : Nat) (nv : Int) (W : World) : Prop where
 r0 : Row W s 162 [.slice (some ⟨tb,0,none⟩) n tc]
 r1 : Row W (s + 1) 3 [.int .i64 (i : Int)]
 r2 : Row W (s + 1 + 1) 3 [.int .i64 nv]
theorem ClrM.grown {s tb n tc i : Nat} {nv : Int} {W W' : World} {row : Option Nat} (h : ClrM s tb n tc i nv W) (hg : W.grownBy W' row) (hr : ∀ r,row = some r → r < s ∨ s + 1 + 1 < r) : ClrM s tb n tc i nv W' :=
 ⟨h.r0.grown hg (fun e => by have := hr _ e.symm;omega),h.r1.grown hg (fun e => by have := hr _ e.symm;omega),h.r2.grown hg (fun e => by have := hr _ e.symm;omega)⟩
theorem ClrM.set3 {s tb n tc i : Nat} {nv : Int} {W : World} (h : ClrM s tb n tc i nv W) {p : Addr} (hp : p.block < s) (v : Value) : ClrM s tb n tc i nv (W.setCell p v) :=
 ⟨h.r0.away (by omega) v,h.r1.away (by omega) v,h.r2.away (by omega) v⟩
theorem ClrM.next {s tb n tc i : Nat} {nv : Int} {W W' : World} (h : ClrM s tb n tc i nv W) (hb : Below W.heap.size W W') : ClrM s tb n tc i nv W' := h.grown (grown_of_below hb) (fun r e => by cases e)
theorem clear_any (B tb tc : Nat) (gs : List (Nat × Nat)) (L : Nat) (M : Nat → Nat → Int) (i b c : Nat) (w : World) (hT : Tab w B tb gs L M) (hi : i < gs.length) (hb : b < gs.length) (hib : i ≠ b) (hc : c < L) (hL : L ≤ 64) (hn : gs.length ≤ 64) (htc : gs.length ≤ tc)
  (hr : ∀ r j,r < gs.length → j < L → 0 ≤ M r j ∧ M r j < 1073741789) (hB : B ≤ w.heap.size) :
  Calls Tryz.prog 133 #[.slice (some ⟨tb,0,none⟩) gs.length tc,.int .i64 (i : Int),.int .i64 (b : Int),.int .i64 (c : Int)] w fun r w' => r = .returned (.tuple #[]) ∧ Tch (fun q => q = (gk gs i).1) w w' ∧ Tab w' B tb gs L (clrTo M i b c L) := by
 obtain ⟨s,hs⟩ : ∃ s,w.heap.size = s := ⟨_,rfl⟩;obtain ⟨NV,hNV⟩ : ∃ x,M i c = x := ⟨_,rfl⟩;obtain ⟨n,hnn⟩ : ∃ n,gs.length = n := ⟨_,rfl⟩;obtain ⟨w3,hw3⟩ : ∃ w3,((w.alloc (.cells #[.slice (some ⟨tb,0,none⟩) n tc] 162)).alloc (.cells #[.int .i64 (i : Int)] 3)).alloc (.cells #[.int .i64 NV] 3) = w3 := ⟨_,rfl⟩;have hz3 : w3.heap.size = s + 1 + 1 + 1 := by rw [← hw3];simp [hs]
 have hbel : Below w.heap.size w w3 := by rw [← hw3];exact (((Below.refl _ w).alloc (Nat.le_refl _) _).alloc (by simp) _).alloc (by simp;omega) _
 have hT3 := hT.next hbel
 have hC3 : ClrM s tb n tc i NV w3 := by
  rw [← hw3];exact ⟨((Row.fresh' w _ _ hs).alloc _).alloc _,(Row.fresh' _ _ _ (by simp [hs])).alloc _,Row.fresh' _ _ _ (by simp [hs])⟩
 have hbB : Tch (fun q => q = (gk gs i).1) w w3 := Tch.of_bel hbel;have t0 := hT.tcell hi;have t1 := hT.cell hi hc;have l0 := hT.tlt;have l1 := (hT.glt hi).2;have t2 := hT3.tcell hb;have HCP := Lib.hid (hT.cap hb (by omega));rw [hNV] at t1;have HT := Lib.hid hT;have HT3 := Lib.hid (And.intro hT3 (And.intro hC3 hbB));have HR := Lib.hid hr;have HS := Lib.hid hs;have HNV := Lib.hid hNV;have HN := Lib.hid hnn;have i0 : (0 : Int) ≤ (i : Int) := by omega
 have i1 : (i : Int) < (n : Int) := by rw [← hnn];omega
 have b0 : (0 : Int) ≤ (b : Int) := by omega
 have b1 : (b : Int) < (n : Int) := by rw [← hnn];omega
 have c0 : (0 : Int) ≤ (c : Int) := by omega
 have c1 : (c : Int) < (L : Int) := by omega
 rw [hnn] at hi hb hn htc ⊢;have HZ3 := Lib.hid hz3;clear hT hT3 hC3 hbel hr hs hNV hbB hnn hz3
 by_cases hz : NV = 0
 ·subst hz
  go_enter Tryz.func133,Tryz.ntmps133;subst hw3;go_wp2;refine bodyPost_ret (results_none' rfl _ _ _ rfl) rfl ?_;exact ⟨rfl,HT3.out.2.2,HT3.out.1.congr (by rw [HN.out];exact clrTo_zero M HNV.out (by rw [← HN.out];exact HR.out) hi)⟩
 ·have hne : (NV == 0) = false := by simpa using hz
  have HHN := Lib.hid hw3;subst hw3;clear HHN;refine (callsIn_wide (n := 9)).1 ?_;refine callsIn_of_wp_marks Tryz.func133 rfl trivial ?_ rfl;simp only [Tryz.ntmps133,List.size_toArray,List.length_cons,List.length_nil,Nat.reduceAdd,Nat.reduceSub,Array.replicate_succ,Array.replicate_zero,List.push_toArray,List.append_toArray,List.nil_append,List.cons_append]
  gi_wp2_with (refine ⟨trivial,?_⟩;gi_at_call 132;refine (callsIn_wide.2 (after_any _ _ _ _ _)).mono ?_;rintro e w' ⟨rfl,hw4⟩)
  obtain ⟨hT3,hC3,hB3⟩ := HT3.out;have hz3 := HZ3.out;rw [HS.out];obtain ⟨G,hG⟩ : ∃ x,(gk gs b).1 = x := ⟨_,rfl⟩;obtain ⟨GC,hGC⟩ : ∃ x,(gk gs b).2 = x := ⟨_,rfl⟩;rw [hG,hGC] at hw4;generalize hw3 : ((w.alloc (.cells #[.slice (some ⟨tb,0,none⟩) n tc] 162)).alloc (.cells #[.int .i64 (i : Int)] 3)).alloc (.cells #[.int .i64 NV] 3) = w3 at hw4 hT3 hC3 hB3 hz3 ⊢;have hb4 : Below w3.heap.size w3 w' := by rw [← hw4];exact ((Below.refl _ _).alloc (Nat.le_refl _) _).alloc (by simp) _
  have hz4 : w'.heap.size = s + 1 + 1 + 1 + 1 + 1 := by rw [← hw4];simp [hz3]
  have hra : Row w' (s + 1 + 1 + 1) 23 [.slice (some ⟨G,0,none⟩) L GC] := by rw [← hw4];exact (Row.fresh' _ _ _ hz3).alloc _
  have hrc : Row w' (s + 1 + 1 + 1 + 1) 3 [.int .i64 (c : Int)] := by rw [← hw4];exact Row.fresh' _ _ _ (by simp [hz3])
  have hT4 := hT3.next hb4;have hC4 := hC3.next hb4;have hB4 : Tch (fun q => q = (gk gs i).1) w w' := hB3.next hb4;clear hb4 hw4 hT3 hC3 hB3 HT3 hw3 w3 hz3 t0 t1 t2;generalize w' = w4 at hz4 hra hrc hT4 hC4 hB4 ⊢;have hgl : ∀ k,k < gs.length → (gk gs k).1 < s := fun k hk => by have := (HT.out.glt hk).2;rw [HS.out] at this;exact this
  have htl : tb < s := by have := HT.out.tlt;rw [HS.out] at this;exact this
  have hBs : B ≤ s := by rw [← HS.out];exact hB
  refine wpIn_range_hands (F := Fence.wide) (σ := Nat) rfl (by omega) (gf := 147) (lb := #[.pointer (some ⟨s + 1 + 1 + 1 + 1,0,none⟩),.pointer (some ⟨s + 1 + 1 + 1,0,none⟩)]) rfl trivial (enters_of Tryz.func147 (by kernel_rfl) rfl)
   (fun (k : Nat) W => Tch (fun q => q = (gk gs i).1) w4 W ∧ w4.heap.size ≤ W.heap.size ∧ Tab W B tb gs L (clrTo M i b c k) ∧ ClrM s tb n tc i NV W ∧ Row W (s + 1 + 1 + 1) 23 [.slice (some ⟨G,0,none⟩) L GC] ∧ Row W (s + 1 + 1 + 1 + 1) 3 [.int .i64 (c : Int)])
   (fun _ (k : Nat) W => False)
   (fun (s : Nat) vs s' _ => s' = s + 1 ∧ c ≤ s ∧ s < L ∧ vs = #[.int .i64 (s : Int),.int .i64 (M b s)]) c (fun (s : Nat) => s = L) w4 (Below.refl _ _) ?hsq
   ?oi (fun _ _ _ _ _ h _ _ => h) ⟨Tch.refl _ _,Nat.le_refl _,by rw [clrTo_start];exact hT4,hC4,hra,hrc⟩ (fun _ _ _ _ h => by rw [h.2.2.2];rfl)
   (fun (k : Nat) a' W => (∃ j : Nat,k = j + 1 ∧ c ≤ j ∧ j < L ∧ a'.tmps.getD 9 undef = .int .i64 (j : Int) ∧ a'.tmps.getD 10 undef = .int .i64 (M b j) ∧ Tch (fun q => q = (gk gs i).1) w4 W ∧ w4.heap.size ≤ W.heap.size ∧ Tab W B tb gs L (clrTo M i b c j) ∧ ClrM s tb n tc i NV W ∧ Row W (s + 1 + 1 + 1) 23 [.slice (some ⟨G,0,none⟩) L GC] ∧ Row W (s + 1 + 1 + 1 + 1) 3 [.int .i64 (c : Int)]) ∧ a'.tmps.size = 46 ∧ a'.tmps.getD 4 undef = .pointer (some ⟨s,0,none⟩) ∧ a'.tmps.getD 5 undef = .pointer (some ⟨s + 1,0,none⟩) ∧ a'.tmps.getD 8 undef = .pointer (some ⟨s + 1 + 1,0,none⟩) ∧ a'.defers = []) ?oa ?assign ?body ?done ?stop
  case hsq =>
   refine after1_hands c L GC G _ _ (M b) (by omega) (by omega) (by rw [← hGC];exact HCP.out.1) w4 _ ?_;rintro k W ⟨q1,q2,q3,q4,q5,q6⟩;refine ⟨q6,q5,fun hk => ?_⟩;have := q3.cell (i := b) (j := k) (by rw [HN.out];exact hb) hk;rw [hG] at this;rw [this];unfold clrTo;rw [if_neg (by rintro ⟨h,_⟩;exact hib h.symm)]
  case oi =>
   rintro k W W' row ⟨q1,q2,q3,q4,q5,q6⟩ hg hr;have hr' : ∀ r,row = some r → s + 1 + 1 + 1 + 1 < r := fun r e => by have := (hr r e).1;omega
   exact ⟨q1.grown hg (fun r e => .inl (hr r e).1),Nat.le_trans q2 hg.size,q3.kept hg (fun r e => ⟨by have := hr' r e;omega,fun k hk => by have := hr' r e;have := hgl k hk;omega⟩),q4.grown hg (fun r e => .inr (by have := hr' r e;omega)),q5.grown hg (fun e => by have := hr' _ e.symm;omega),q6.grown hg (fun e => by have := hr' _ e.symm;omega)⟩
  case oa =>
   rintro k a' _ W W' row ⟨⟨j,p1,p2,p3,p4,p5,q1,q2,q3,q4,q5,q6⟩,q7⟩ hg hr;have hr' : ∀ r,row = some r → s + 1 + 1 + 1 + 1 < r := fun r e => by have := (hr r e).1;omega
   exact ⟨⟨j,p1,p2,p3,p4,p5,q1.grown hg (fun r e => .inl (hr r e).1),Nat.le_trans q2 hg.size,q3.kept hg (fun r e => ⟨by have := hr' r e;omega,fun k hk => by have := hr' r e;have := hgl k hk;omega⟩),q4.grown hg (fun r e => .inr (by have := hr' r e;omega)),q5.grown hg (fun e => by have := hr' _ e.symm;omega),q6.grown hg (fun e => by have := hr' _ e.symm;omega)⟩,q7⟩
  case assign =>
   rintro l k vs k' W K ⟨q1,q2,q3,q4,q5,q6⟩ ⟨rfl,hk0,hk,rfl⟩ hK;obtain ⟨X,hX⟩ : ∃ x,M b k = x := ⟨_,rfl⟩;have HK := Lib.hid hK;have HX := Lib.hid hX;rw [hX,show ∀ (a b : Value),(#[26,27] : Array Tmp).zip #[a,b] = #[(26,a),(27,b)] from fun a b => by simp];clear hK hX;gi_wp2;exact HK.out _ _ (KeepsFrom.refl _ _) ⟨⟨k,rfl,hk0,hk,by rfl,by rw [HX.out];rfl,q1,q2,q3,q4,q5,q6⟩,by rfl,by rfl,by rfl,by rfl,by rfl⟩
  case body =>
   rintro l k a' W hl ⟨⟨j,rfl,hj0,hj,e9,e10,q1,q2,q3,q4,q5,q6⟩,h46,e4,e5,e8,hdf⟩;obtain ⟨T2,ds2⟩ := a';dsimp only at h46 e4 e5 e8 e9 e10 hdf;subst hdf;obtain ⟨v2,hT,hv⟩ := arr_fun T2 46 h46;have e' : ((List.range 46).map v2).toArray = #[v2 0,v2 1,v2 2,v2 3,v2 4,v2 5,v2 6,v2 7,v2 8,v2 9,v2 10,v2 11,v2 12,v2 13,v2 14,v2 15,v2 16,v2 17,v2 18,v2 19,v2 20,v2 21,v2 22,v2 23,v2 24,v2 25,v2 26,v2 27,v2 28,v2 29,v2 30,v2 31,v2 32,v2 33,v2 34,v2 35,v2 36,v2 37,v2 38,v2 39,v2 40,v2 41,v2 42,v2 43,v2 44,v2 45] := rfl;rw [show v2 4 = _ from (hv 4).symm.trans e4,show v2 5 = _ from (hv 5).symm.trans e5,show v2 8 = _ from (hv 8).symm.trans e8,show v2 9 = _ from (hv 9).symm.trans e9,show v2 10 = _ from (hv 10).symm.trans e10] at e';rw [hT,e'];clear hT hv e' e4 e5 e8 e9 e10 h46;have hig : i < gs.length := by rw [HN.out];exact hi
   have hgi := (q3.glt hig).1;obtain ⟨Y,hY⟩ : ∃ x,M b j = x := ⟨_,rfl⟩;rw [hY];obtain ⟨X,hX⟩ : ∃ x,clrTo M i b c j i j = x := ⟨_,rfl⟩;have hcell := q3.cell hig hj;have hfrz := q3.fz hig j;have htc := q3.tcell hig;have hset : ∀ V,Tab V B tb gs L (clrTo M i b c j) → Tab (V.setCell ⟨(gk gs i).1,j,none⟩ (.int .i64 (Fm.ad X (-(Fm.ml NV Y))))) B tb gs L (setM (clrTo M i b c j) i j (Fm.ad X (-(Fm.ml NV Y)))) := fun V hV => hV.set hig hj _;have hisc : ∀ o,W.heap[(gk gs i).1]? = some o → o.isCells = true := fun o ho => q3.isc (by omega) hig ho;have hnext := clrTo_next M (i := i) (b := b) hj0 hib;rw [HNV.out,hY,hX] at hnext;rw [hnext] at hset;have hxl := q3.glt hig;rw [hX] at hcell;have hcp := q3.cap hig (by omega);have htop := q3.top;have htopr := hgl i hig;have hne1 := q3.ne i hig;obtain ⟨GI,hGI⟩ : ∃ x,(gk gs i).1 = x := ⟨_,rfl⟩;obtain ⟨CI,hCI⟩ : ∃ x,(gk gs i).2 = x := ⟨_,rfl⟩;obtain ⟨TP,hTP⟩ : ∃ x,(gs.map fun g => Value.slice (some ⟨g.1,0,none⟩) L g.2) = x := ⟨_,rfl⟩
   have hti : TP[i]? = some (.slice (some ⟨GI,0,none⟩) L CI) := by
    rw [← hTP,← hGI,← hCI,List.getElem?_map,List.getElem?_eq_getElem hig];unfold gk;rw [List.getD_eq_getElem?_getD,List.getElem?_eq_getElem hig]
    rfl
   rw [hGI] at hcell hfrz hset hisc hxl htopr hgi hne1;rw [hCI] at hcp;rw [hTP] at htop;have j0 : (0 : Int) ≤ (j : Int) := by omega
   have j1 : (j : Int) < (L : Int) := by omega
   have hmb := Fm.ml_lo NV Y;have hmh := Fm.ml_hi NV Y;obtain ⟨ML,hML⟩ : ∃ x,Fm.ml NV Y = x := ⟨_,rfl⟩;have hmul : ∀ V,Calls Tryz.prog 51 #[.int .i64 NV,.int .i64 Y] V fun e w' => e = .returned (.int .i64 ML) ∧ V = w' := fun V => by rw [← hML];exact mul_any NV Y V
   rw [hML] at hset hmb hmh;have hwn : IntKind.i64.wrap (-ML) = -ML := by rw [IntKind.wrap];simp only [IntKind.bits,IntKind.signed];simp;omega
   have hadd : ∀ V,Calls Tryz.prog 50 #[.int .i64 X,.int .i64 (-ML)] V fun e w' => e = .returned (.int .i64 (Fm.ad X (-ML))) ∧ V.alloc (.cells #[.int .i64 X,.int .i64 (-ML)] 3) = w' := fun V => add_any X (-ML) V;obtain ⟨RS,hRS⟩ : ∃ x,Fm.ad X (-ML) = x := ⟨_,rfl⟩;rw [hRS] at hset hadd;have HGI := Lib.hid hGI;have HQ := Lib.hid (And.intro q1 (And.intro q2 (And.intro q5 q6)));have HCL := Lib.hid (And.intro q4 htop);have HMU := Lib.hid hmul;have HAD := Lib.hid hadd;have HWN := Lib.hid hwn;have HTI := Lib.hid hti;have HSET := Lib.hid (And.intro hset (And.intro hisc (And.intro hxl (And.intro htopr hne1))));have HQ3 := Lib.hid q3;have HCX := Lib.hid (And.intro hcell hfrz);have HJB := Lib.hid (And.intro j0 j1);clear q1 q2 q3 q4 q5 q6 htop hmul hadd hwn hti hset hisc hcell hfrz htc hnext hcp hxl htopr hgi hY hX hGI hCI hTP hML hRS j0 j1 hne1
   gi_wp2_with fail
   rename_i Kz hKz;obtain ⟨j0,j1⟩ := HJB.out;refine wpIn_region_treeM (fun w' => ClrM s tb n tc i NV w' ∧ Row w' tb 23 TP) (.take 0 (.take 1 (.take 2 (.take 3 (.take 4 (.take 5 (.take 6 (.take 7 (.take 8 (.take 9 (.take 10 (.take 12 (.take 13 (.two 11 (.one 14 (.take 15 (.one 16 (.take 17 (.one 18 .done))))) 14 (.take 15 (.one 11 (.one 16 (.take 17 (.one 18 .done))))))))))))))))))) (by kernel_rfl) (by kernel_rfl) (by kernel_rfl) (by kernel_rfl) (by kernel_rfl) ⟨HCL.out.1.next (Below.refl _ _).drew,HCL.out.2.below (Below.refl _ _).drew HCL.out.2.lt⟩ ?_
   iterate 13 (refine wpOTI_take rfl _ (by rfl) (fun _ => rfl) (by intro w' hS;obtain ⟨hC,hR⟩ := hS;have c4 := hC.r0.cell (i := 0) rfl;have c5 := hC.r1.cell (i := 0) rfl;have c8 := hC.r2.cell (i := 0) rfl;have t0 := hR.cell HTI.out;have hwn := HWN.out;go_simp;try with_reducible rfl) fun KK hKK => ?_;go_simp;refine hKK _ ?_;clear hKK KK)
   refine wpOTI_two rfl (by rfl) rfl (by rfl) (fun KK hKK => ?_) (fun KK hKK => ?_)
   ·have cx := HCX.out.1
    go_simp;refine hKK _ _ ⟨HCL.out.1.next (Below.refl _ _).drew,HCL.out.2.below (Below.refl _ _).drew HCL.out.2.lt⟩ ?_;clear hKK KK cx;refine wpOTI_one rfl (by rfl) fun KK hKK => ?_;go_simp;refine ⟨trivial,?_⟩
    with_reducible refine (CallsIn.inRound l (callsIn_wide.2 (HMU.out _))).mono ?_
    rintro e5 w8 ⟨rfl,rfl⟩;refine hKK _ _ ⟨HCL.out.1.next (Below.refl _ _).drew,HCL.out.2.below (Below.refl _ _).drew HCL.out.2.lt⟩ ?_;clear hKK KK;refine wpOTI_take rfl _ (by rfl) (fun _ => rfl) (by intro w' hS;obtain ⟨hC,hR⟩ := hS;have c4 := hC.r0.cell (i := 0) rfl;have c5 := hC.r1.cell (i := 0) rfl;have c8 := hC.r2.cell (i := 0) rfl;have t0 := hR.cell HTI.out;have hwn := HWN.out;go_simp;try with_reducible rfl) fun KK hKK => ?_;go_simp;refine hKK _ ?_;clear hKK KK;refine wpOTI_one rfl (by rfl) fun KK hKK => ?_;go_simp;refine ⟨trivial,?_⟩
    with_reducible refine (CallsIn.inRound l (callsIn_wide.2 (HAD.out _))).mono ?_
    rintro e5 w8 ⟨rfl,hw8⟩;have hb8 : Below W.heap.size W w8 := by rw [← hw8];exact (Below.refl W.heap.size W).drew.alloc (Nat.le_refl _) _
    have HS8 := Lib.hid (And.intro (HCL.out.1.next hb8) (HCL.out.2.below hb8 HCL.out.2.lt));have HB8 := Lib.hid hb8;clear hb8 hw8;refine hKK _ _ HS8.out ?_;clear hKK KK;refine wpOTI_take rfl _ (by rfl) (fun _ => rfl) (by intro w' hS;obtain ⟨hC,hR⟩ := hS;have c4 := hC.r0.cell (i := 0) rfl;have c5 := hC.r1.cell (i := 0) rfl;have c8 := hC.r2.cell (i := 0) rfl;have t0 := hR.cell HTI.out;have hwn := HWN.out;go_simp;try with_reducible rfl) fun KK hKK => ?_;go_simp;refine hKK _ ?_;clear hKK KK;refine wpOTI_one rfl (by rfl) fun KK hKK => ?_;have cx := (HB8.out.cell (p := ⟨GI,j,none⟩) HSET.out.2.2.1.2).trans HCX.out.1;have fx := (HB8.out.frozen (p := ⟨GI,j,none⟩) HSET.out.2.2.1.2).trans HCX.out.2;go_simp;refine hKK _ _ ⟨HS8.out.1.set3 (p := ⟨GI,j,none⟩) HSET.out.2.2.2.1 _,HS8.out.2.away (fun e => HSET.out.2.2.2.2 e.symm) _⟩ ?_;clear hKK KK cx fx;refine wpOTI_done ?_;show KeepsFrom _ _ _ ∧ _;obtain ⟨q1,q2,q5,q6⟩ := HQ.out;have hsz := HB8.out.size;refine ⟨((Tch.of_bel (ex := fun k => k = GI) HB8.out).set (p := ⟨GI,j,none⟩) (.inr rfl) _).keepsFrom (by rintro k rfl o ho;exact HSET.out.2.1 o ho),(q1.next HB8.out).set (p := ⟨GI,j,none⟩) (.inr HGI.out.symm) _,by rw [World.size_setCell];omega,HSET.out.1 _ (HQ3.out.next HB8.out),HS8.out.1.set3 (p := ⟨GI,j,none⟩) HSET.out.2.2.2.1 _,(q5.below HB8.out q5.lt).away (by show s + 1 + 1 + 1 ≠ GI;have := HSET.out.2.2.2.1;omega) _,(q6.below HB8.out q6.lt).away (by show s + 1 + 1 + 1 + 1 ≠ GI;have := HSET.out.2.2.2.1;omega) _⟩
   ·go_simp
    refine ⟨trivial,?_⟩
    with_reducible refine (CallsIn.inRound l (callsIn_wide.2 (HMU.out _))).mono ?_
    rintro e5 w8 ⟨rfl,rfl⟩;refine hKK _ _ ⟨HCL.out.1.next (Below.refl _ _).drew,HCL.out.2.below (Below.refl _ _).drew HCL.out.2.lt⟩ ?_;clear hKK KK;refine wpOTI_take rfl _ (by rfl) (fun _ => rfl) (by intro w' hS;obtain ⟨hC,hR⟩ := hS;have c4 := hC.r0.cell (i := 0) rfl;have c5 := hC.r1.cell (i := 0) rfl;have c8 := hC.r2.cell (i := 0) rfl;have t0 := hR.cell HTI.out;have hwn := HWN.out;go_simp;try with_reducible rfl) fun KK hKK => ?_;go_simp;refine hKK _ ?_;clear hKK KK;refine wpOTI_one rfl (by rfl) fun KK hKK => ?_;have cx := HCX.out.1;go_simp;refine hKK _ _ ⟨HCL.out.1.next (Below.refl _ _).drew,HCL.out.2.below (Below.refl _ _).drew HCL.out.2.lt⟩ ?_;clear hKK KK cx;refine wpOTI_one rfl (by rfl) fun KK hKK => ?_;go_simp;refine ⟨trivial,?_⟩
    with_reducible refine (CallsIn.inRound l (callsIn_wide.2 (HAD.out _))).mono ?_
    rintro e5 w8 ⟨rfl,hw8⟩;have hb8 : Below W.heap.size W w8 := by rw [← hw8];exact (Below.refl W.heap.size W).drew.alloc (Nat.le_refl _) _
    have HS8 := Lib.hid (And.intro (HCL.out.1.next hb8) (HCL.out.2.below hb8 HCL.out.2.lt));have HB8 := Lib.hid hb8;clear hb8 hw8;refine hKK _ _ HS8.out ?_;clear hKK KK;refine wpOTI_take rfl _ (by rfl) (fun _ => rfl) (by intro w' hS;obtain ⟨hC,hR⟩ := hS;have c4 := hC.r0.cell (i := 0) rfl;have c5 := hC.r1.cell (i := 0) rfl;have c8 := hC.r2.cell (i := 0) rfl;have t0 := hR.cell HTI.out;have hwn := HWN.out;go_simp;try with_reducible rfl) fun KK hKK => ?_;go_simp;refine hKK _ ?_;clear hKK KK;refine wpOTI_one rfl (by rfl) fun KK hKK => ?_;have cx := (HB8.out.cell (p := ⟨GI,j,none⟩) HSET.out.2.2.1.2).trans HCX.out.1;have fx := (HB8.out.frozen (p := ⟨GI,j,none⟩) HSET.out.2.2.1.2).trans HCX.out.2;go_simp;refine hKK _ _ ⟨HS8.out.1.set3 (p := ⟨GI,j,none⟩) HSET.out.2.2.2.1 _,HS8.out.2.away (fun e => HSET.out.2.2.2.2 e.symm) _⟩ ?_;clear hKK KK cx fx;refine wpOTI_done ?_;show KeepsFrom _ _ _ ∧ _;obtain ⟨q1,q2,q5,q6⟩ := HQ.out;have hsz := HB8.out.size;refine ⟨((Tch.of_bel (ex := fun k => k = GI) HB8.out).set (p := ⟨GI,j,none⟩) (.inr rfl) _).keepsFrom (by rintro k rfl o ho;exact HSET.out.2.1 o ho),(q1.next HB8.out).set (p := ⟨GI,j,none⟩) (.inr HGI.out.symm) _,by rw [World.size_setCell];omega,HSET.out.1 _ (HQ3.out.next HB8.out),HS8.out.1.set3 (p := ⟨GI,j,none⟩) HSET.out.2.2.2.1 _,(q5.below HB8.out q5.lt).away (by show s + 1 + 1 + 1 ≠ GI;have := HSET.out.2.2.2.1;omega) _,(q6.below HB8.out q6.lt).away (by show s + 1 + 1 + 1 + 1 ≠ GI;have := HSET.out.2.2.2.1;omega) _⟩
  case done =>
   rintro D k W hD rfl ⟨q1,q2,q3,q4,q5,q6⟩ hd;have hm : Marks (s + 1 + 1 + 1 + 1 + 1) W.heap.size [{ target := .collected D,args := #[] }] W := (Marks.nil (s + 1 + 1 + 1 + 1 + 1) (s + 1 + 1 + 1 + 1 + 1) W).cons (by omega) (by omega) (heap_lt hd) hd;show LeavesInM _ _ _ _ _ _ _ _ _;refine leaves_marks (C := W.heap.size) _ _ hm fun w' hb' => ?_;refine ⟨_,results_none' rfl _ _ _ rfl,rfl,?_,?_⟩
   ·have h4 := hB4.trans q1
    have hsz := HS.out;exact ⟨hb'.os.trans h4.os,hb'.tape.trans h4.tape,hb'.output.trans h4.output,Nat.le_trans h4.size hb'.size,fun k hk hx => (hb'.block k (by omega)).trans (h4.block k hk hx)⟩
   exact ⟨q3.top.below hb' (by omega),fun k hk => own_belowU (q3.row k hk) hb' (fun g e => by have h1 := hgl k hk;have e' : (gk gs k).1 = g := (by simpa [Value.ownBlock] using e);omega),q3.inj,q3.ne,q3.lo⟩
  case stop =>
   rintro D c k W hD h;exact h.elim
end Go.Proofs.YtifejdpffkeniaaGreatDoor
