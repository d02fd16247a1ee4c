import Derived.Lib.AppendZeros
import Derived.Lib.RabinKarpLaws
import Derived.Test.YtifejdpffkeniaaGreatDoorS10
import Derived.Test.YtifejdpffkeniaaGreatDoorS03
import Derived.Test.YtifejdpffkeniaaGreatDoorS09
set_option linter.unusedVariables false
set_option maxRecDepth 100000
set_option maxHeartbeats 40000000
namespace Go.Proofs.YtifejdpffkeniaaGreatDoor
open Go.RowKit
attribute [local go_sem] Oper.semAt_some
theorem least_any (n : Int) (g : Nat) (w : World) (h1 : -1073741789 < n) (h2 : n < 1073741789) (hc : w.cell? ⟨g,0,none⟩ = some (.int .i64 n)) :
  Calls Tryz.prog 85 #[.slice (some ⟨g,0,none⟩) 1 1] w fun r w' => r = .returned (.int .i64 (n % 1073741789)) ∧ w = w' := by
 have hm : n.tmod 1073741789 = n := by
  rcases (show n < 0 ∨ 0 ≤ n by omega) with h | h
  ·have h3 : (-n).tmod 1073741789 = -n := by rw [Int.tmod_eq_emod_of_nonneg (by omega)];exact Int.emod_eq_of_lt (by omega) (by omega)
   rw [Int.neg_tmod] at h3;omega
  ·rw [Int.tmod_eq_emod_of_nonneg h];exact Int.emod_eq_of_lt h h2
 have he : (n + 1073741789) % 1073741789 = n % 1073741789 := by omega
 have HE := Lib.hid he;clear he;go_enter Tryz.func85,Tryz.ntmps85;go_wp2;refine wp_loop_rounds 2 ?_;rw [rounds_succ];go_wp2;rw [rounds_succ];go_wp2;go_ret;exact ⟨congrArg (fun x => Ending.returned (.int .i64 x)) HE.out,rfl⟩
theorem squares_any (a n : Int) (w : World) : Calls Tryz.prog 84 #[.int .i64 a,.int .i64 n] w fun r w' =>
  r = .returned (.func (.func 127) #[] #[.pointer (some ⟨w.heap.size + 1,0,none⟩),.pointer (some ⟨w.heap.size,0,none⟩)]) ∧
  (w.alloc (.cells #[.int .i64 a] 3)).alloc (.cells #[.int .i64 n] 3) = w' := by
 go_enter Tryz.func84,Tryz.ntmps84;go_wp2;go_ret;exact ⟨rfl,rfl⟩
def sqi (s : Nat × Bool) : Nat := if s.2 then s.1 - 1 else s.1
structure SqB (a n pa pn : Nat) (s : Nat × Bool) (W : World) : Prop where
 ra : Row W pa 3 [.int .i64 (Gm.pw (a * 2 ^ sqi s) : Int)]
 rn : Row W pn 3 [.int .i64 ((n / 2 ^ sqi s : Nat) : Int)]
structure SqT (a n : Nat) (s : Nat × Bool) (vs : Array Value) (s' : Nat × Bool) : Prop where
 mid : s.2 = false
 pos : 0 < n / 2 ^ s.1
 val : vs = #[.int .i64 (Gm.pw (a * 2 ^ s.1) : Int),.bool (decide (n / 2 ^ s.1 % 2 = 1))]
 next : s' = (s.1 + 1,true)
structure SqM (a n pa pn : Nat) (s : Nat × Bool) (X Y : World) : Prop where
 mid : s.2 = true
 ra : Row X pa 3 [.int .i64 (Gm.pw (a * 2 ^ sqi s) : Int)]
 rn : Row X pn 3 [.int .i64 ((n / 2 ^ sqi s : Nat) : Int)]
 ra' : Row Y pa 3 [.int .i64 (Gm.pw (a * 2 ^ s.1) : Int)]
 rn' : Row Y pn 3 [.int .i64 ((n / 2 ^ s.1 : Nat) : Int)]
 tch : Tch (fun g => g = pa ∨ g = pn) X Y
theorem sq_step (a j : Nat) : Gm.pw (a * 2 ^ j) * Gm.pw (a * 2 ^ j) % 2147483579 = Gm.pw (a * 2 ^ (j + 1)) := by
 rw [Gm.pw_mul,Nat.pow_succ];congr 1;rw [← Nat.mul_assoc,Nat.mul_two]
def wInt (W : World) (g : Nat) : Nat := match W.cell? ⟨g,0,none⟩ with | some v => (intOf v).toNat | none => 0
theorem squares1_hands (a n pa pn : Nat) (hpn : pa ≠ pn) (hn : n < 1073741789) (w0 : World) (I : Nat × Bool → World → Prop) (hI : ∀ s W,I s W → SqB a n pa pn s W) :
  HandsB Fence.wide 8 Tryz.prog 127 #[.pointer (some ⟨pn,0,none⟩),.pointer (some ⟨pa,0,none⟩)] w0 I (fun s vs s' _ => SqT a n s vs s') (fun s => (s.1,false)) (SqM a n pa pn) (0,false) (fun s => s.2 = false ∧ n / 2 ^ s.1 = 0) := by
 intro l J Jx W hb hJI hJ hJx hM hY h0;have HI : Hid (∀ s V,J s V → SqB a n pa pn s V) := fun s V h => hI s V (hJI s V h);have HY := Lib.hid hY;have HM := Lib.hid hM;have H0 := Lib.hid h0;refine callsIn_of_wp Tryz.func127 rfl trivial ?_ rfl;have hB0 := HI.out _ _ h0;have c1 := hB0.ra.cell (i := 0) rfl;have c2 := hB0.rn.cell (i := 0) rfl;clear hI hJI hJ hJx hM hY h0 hb;simp only [Tryz.ntmps127,List.size_toArray,List.length_cons,List.length_nil,Nat.reduceAdd,Nat.reduceSub,Array.replicate_succ,Array.replicate_zero,List.push_toArray,List.append_toArray,List.nil_append,List.cons_append];gi_wp2;clear c1 c2 hB0
 gi_loopw [5] (fun _ wr => ∃ j : Nat,J (j,false) wr) (fun _ wr => wInt wr pn)
 case atStart => exact ⟨0,H0.out⟩
 case round =>
  clear H0;obtain ⟨j,hj⟩ := hrel;have HJ := Lib.hid hj;have hb := HI.out _ _ hj;clear hj;have d1 : wr.cell? ⟨pa,0,none⟩ = some (.int .i64 (Gm.pw (a * 2 ^ j) : Int)) := hb.ra.cell (i := 0) rfl;have d2 : wr.cell? ⟨pn,0,none⟩ = some (.int .i64 ((n / 2 ^ j : Nat) : Int)) := hb.rn.cell (i := 0) rfl
  by_cases hlt : 0 < n / 2 ^ j
  ·have hy0 := HY.out (j,false) #[.int .i64 (Gm.pw (a * 2 ^ j) : Int),.bool (decide (n / 2 ^ j % 2 = 1))] (j + 1,true) wr HJ.out ⟨rfl,hlt,rfl,rfl⟩
   have hle : n / 2 ^ j ≤ n := Nat.div_le_self _ _;have hand := and_one (n / 2 ^ j) (by omega);obtain ⟨X,hX⟩ : ∃ X : Int,(Gm.pw (a * 2 ^ j) : Int) = X := ⟨_,rfl⟩;obtain ⟨M,hM⟩ : ∃ M : Int,((n / 2 ^ j : Nat) : Int) = M := ⟨_,rfl⟩
   have hbit : (decide (n / 2 ^ j % 2 = 1)) = (((n / 2 ^ j % 2 : Nat) : Int) == 1) := by
    rcases Nat.mod_two_eq_zero_or_one (n / 2 ^ j) with h | h <;> rw [h] <;> rfl
   rw [hbit] at hy0;have hM0 : 0 < M := by omega
   have hM1 : M < 1073741789 := by omega
   have hX0 : 0 ≤ X := by omega
   have hX1 : X < 2147483579 := by have := Gm.pw_lt (a * 2 ^ j);omega
   have hXX0 : 0 ≤ X * X := Int.mul_nonneg hX0 hX0;have hXX1 : X * X ≤ 2147483578 * 2147483578 := Int.mul_le_mul (by omega) (by omega) hX0 (by decide);have hXX2 : X * X ≤ 4611686001247518084 := Int.le_trans hXX1 (by decide);clear hXX1;have hsq : X * X % 2147483579 = (Gm.pw (a * 2 ^ (j + 1)) : Int) := by rw [← sq_step,← hX];omega
   have hnx : M / 2 = ((n / 2 ^ (j + 1) : Nat) : Int) := by rw [← hM,Nat.pow_succ,← Nat.div_div_eq_div_mul];omega
   obtain ⟨Z,hZ⟩ : ∃ Z : Int,((n / 2 ^ j % 2 : Nat) : Int) = Z := ⟨_,rfl⟩;rw [hX] at d1 hy0;rw [hM] at d2 hand;rw [hZ] at hand hy0;obtain ⟨fn,tmps,assign,body,hy,hRR⟩ := hy0;have HRR := Lib.hid hRR;have HX := Lib.hid hX;have HMM := Lib.hid hM;have HL : Hid (n / 2 ^ (j + 1) < n / 2 ^ j) := by show _ < _;rw [Nat.pow_succ,← Nat.div_div_eq_div_mul];omega
   clear hRR hX hM hZ hbit hle hlt hb
   gi_wp2_with fail
   refine HRR.out.mono ?_;rintro x W3 (⟨rfl,hJ3⟩ | ⟨rfl,hJ3⟩)
   ·have HJ3 := Lib.hid hJ3
    have hb3 := HI.out _ _ hJ3;have f1 : W3.cell? ⟨pa,0,none⟩ = some (.int .i64 X) := by rw [← HX.out];exact hb3.ra.cell (i := 0) rfl
    have f2 : W3.cell? ⟨pn,0,none⟩ = some (.int .i64 M) := by rw [← HMM.out];exact hb3.rn.cell (i := 0) rfl
    have z1 := hb3.ra.fz 0;have z2 := hb3.rn.fz 0;have HB3 := Lib.hid hb3;clear hJ3 d1 d2 hy hb3
    gi_wp2_with fail
    go_roundw
    case rel =>
     refine ⟨j + 1,HM.out (j + 1,true) W3 _ HJ3.out ⟨rfl,HB3.out.ra,HB3.out.rn,?_,?_,?_⟩⟩
     ·exact (HB3.out.ra.put 0 _).away (p := ⟨pn,0,none⟩) hpn _
     ·exact (HB3.out.rn.away (p := ⟨pa,0,none⟩) (fun h => hpn h.symm) _).put 0 _
     ·exact ((Tch.refl _ _).set (.inr (.inl rfl)) _).set (.inr (.inr rfl)) _
    case measure =>
     have q1 := ((HB3.out.rn.away (p := ⟨pa,0,none⟩) (fun h => hpn h.symm) (.int .i64 (Gm.pw (a * 2 ^ (j + 1)) : Int))).put 0 (.int .i64 ((n / 2 ^ (j + 1) : Nat) : Int))).cell (i := 0) rfl;have q2 := (HI.out _ _ HJ.out).rn.cell (i := 0) rfl;have q3 : wInt ((W3.setCell ⟨pa,0,none⟩ (.int .i64 (Gm.pw (a * 2 ^ (j + 1)) : Int))).setCell ⟨pn,0,none⟩ (.int .i64 ((n / 2 ^ (j + 1) : Nat) : Int))) pn = n / 2 ^ (j + 1) := by unfold wInt;rw [q1];rfl
     have q4 : wInt wr pn = n / 2 ^ j := by unfold wInt;rw [q2];rfl
     rw [q4];exact q3.symm ▸ HL.out
   ·have HJ3 := Lib.hid hJ3
    clear hJ3 d1 d2 hy
    gi_wp2_with fail
    refine bodyPost_ret (results_none' rfl _ _ _ rfl) rfl ?_;exact ⟨⟨_,rfl⟩,.inr ⟨_,HJ3.out⟩⟩
  ·have hz : n / 2 ^ j = 0 := Nat.eq_zero_of_not_pos hlt
   rw [hz] at d2;have HZ := Lib.hid hz;clear hz hb
   gi_wp2_with fail
   refine bodyPost_end (results_none' rfl _ _ _ rfl) rfl ?_;exact ⟨⟨_,rfl⟩,.inl ⟨_,⟨rfl,HZ.out⟩,HJ.out⟩⟩
theorem results_ct {P : Program} {fn : Func} {p q : Tmp} {ty : TypeId} (h : fn.results = #[.cell p ty,.tmp q]) (tmps : Array Value) (w : World) (g : Nat) (v : Value)
  (hp : tmps.getD p undef = .pointer (some ⟨g,0,none⟩)) (hc : w.cell? ⟨g,0,none⟩ = some v) (ha : (isAgg ty).run P w = .ok false w) : (results fn tmps).run P w = .ok (.tuple #[v,tmps.getD q undef]) w := by
 have hp' : tmps[p]?.getD undef = .pointer (some ⟨g,0,none⟩) := by simpa using hp
 simp [results,h,hp',asAddr,loadVar,ha,hc]
theorem isAgg_int' (w : World) : (isAgg 3).run Tryz.prog w = .ok false w := by kernel_rfl
theorem pow_acc (a m j : Nat) (h : m / 2 ^ j % 2 = 1) : Gm.pw (a * (m % 2 ^ j)) * Gm.pw (a * 2 ^ j) % 2147483579 = Gm.pw (a * (m % 2 ^ (j + 1))) := by
 rw [Gm.pw_mul,Nat.mod_pow_succ,h,Nat.mul_one,Nat.mul_add]
theorem pow_no (a m j : Nat) (h : ¬ m / 2 ^ j % 2 = 1) : Gm.pw (a * (m % 2 ^ j)) = Gm.pw (a * (m % 2 ^ (j + 1))) := by
 rw [Nat.mod_pow_succ,show m / 2 ^ j % 2 = 0 by omega,Nat.mul_zero,Nat.add_zero]
theorem pow_end (m j : Nat) (h : m / 2 ^ j = 0) : m % 2 ^ j = m := by
 have h1 := Nat.div_add_mod m (2 ^ j);rw [h,Nat.mul_zero] at h1;omega
theorem mul_gany (a b : Nat) (w : World) : Calls Tryz.prog 63 #[.int .i64 (Gm.pw a : Int),.int .i64 (Gm.pw b : Int)] w fun r w' => r = .returned (.tuple #[.int .i64 (Gm.pw (a + b) : Int),.int .i64 0]) ∧ w = w' := by
 have HA : Hid (∀ W,Calls Tryz.prog 62 #[.int .i64 (Gm.pw a : Int)] W fun r w' => r = .returned (.bool true) ∧ W = w') := fun W => valid_any a W;have HB : Hid (∀ W,Calls Tryz.prog 62 #[.int .i64 (Gm.pw b : Int)] W fun r w' => r = .returned (.bool true) ∧ W = w') := fun W => valid_any b W;have h1 := Gm.pw_lt a;have h2 := Gm.pw_lt b;have h3 : (Gm.pw a : Int) * (Gm.pw b : Int) % 2147483579 = (Gm.pw (a + b) : Int) := by rw [← Gm.pw_mul];omega
 obtain ⟨X,hX⟩ : ∃ X : Int,(Gm.pw a : Int) = X := ⟨_,rfl⟩;obtain ⟨Y,hY⟩ : ∃ Y : Int,(Gm.pw b : Int) = Y := ⟨_,rfl⟩;have hX0 : 0 ≤ X := by omega
 have hX1 : X < 2147483579 := by omega
 have hY0 : 0 ≤ Y := by omega
 have hY1 : Y < 2147483579 := by omega
 have hXX0 : 0 ≤ X * Y := Int.mul_nonneg hX0 hY0;have hXX1 : X * Y ≤ 2147483578 * 2147483578 := Int.mul_le_mul (by omega) (by omega) hY0 (by decide);have hXX2 : X * Y ≤ 4611686001247518084 := Int.le_trans hXX1 (by decide);rw [hX] at HA h3 ⊢;rw [hY] at HB h3 ⊢;have H3 := Lib.hid h3;clear h1 h2 h3 hX hY hXX1;go_enter Tryz.func63,Tryz.ntmps63
 go_wp2_with first | (with_reducible refine (HA.out _).mono ?_;rintro r w1 ⟨rfl,rfl⟩) | (with_reducible refine (HB.out _).mono ?_;rintro r w1 ⟨rfl,rfl⟩)
 go_ret2;exact ⟨congrArg (fun x => Ending.returned (.tuple #[.int .i64 x,.int .i64 0])) H3.out,rfl⟩
theorem pow_gany (a : Nat) (n : Int) (w : World) (h1 : -1073741789 < n) (h2 : n < 1073741789) : Calls Tryz.prog 31 #[.int .i64 (Gm.pw a : Int),.int .i64 n] w fun r w' =>
  r = .returned (.tuple #[.int .i64 (Gm.pw (a * (n % 1073741789).toNat) : Int),.int .i64 0]) ∧ Below w.heap.size w w' := by
 obtain ⟨s,hs⟩ : ∃ s,w.heap.size = s := ⟨_,rfl⟩;obtain ⟨m,hm⟩ : ∃ m : Nat,n % 1073741789 = (m : Int) := ⟨(n % 1073741789).toNat,by omega⟩;have hmQ : m < 1073741789 := by omega
 have hmt : (n % 1073741789).toNat = m := by omega
 have HV : Hid (∀ W,Calls Tryz.prog 62 #[.int .i64 (Gm.pw a : Int)] W fun r w' => r = .returned (.bool true) ∧ W = w') := fun W => valid_any a W
 have HL : Hid (∀ W g,W.cell? ⟨g,0,none⟩ = some (.int .i64 n) → Calls Tryz.prog 85 #[.slice (some ⟨g,0,none⟩) 1 1] W fun r w' => r = .returned (.int .i64 (m : Int)) ∧ W = w') := fun W g hc => by
  have := least_any n g W h1 h2 hc
  rwa [hm] at this
 rw [hmt];obtain ⟨X,hX⟩ : ∃ X : Int,(Gm.pw a : Int) = X := ⟨_,rfl⟩;have HX : Hid ((Gm.pw a : Int) = X) := hX;rw [hX] at HV ⊢;have HS := Lib.hid hs;clear hm hmt hX;obtain ⟨M,hM⟩ : ∃ M : Int,(m : Int) = M := ⟨_,rfl⟩;have HM : Hid ((m : Int) = M) := hM;have hM0 : 0 ≤ M := by omega
 have hM1 : M < 1073741789 := by omega
 rw [hM] at HL;have HMQ := Lib.hid hmQ;clear hM hs hmQ;refine (callsIn_wide (n := 9)).1 ?_;refine callsIn_of_wp_marks Tryz.func31 rfl trivial ?_ rfl;simp only [Tryz.ntmps31,List.size_toArray,List.length_cons,List.length_nil,Nat.reduceAdd,Nat.reduceSub,Array.replicate_succ,Array.replicate_zero,List.push_toArray,List.append_toArray,List.nil_append,List.cons_append]
 gi_wp2_with fail
 refine ⟨trivial,(callsIn_wide.2 (HV.out _)).mono ?_⟩;rintro r w4 ⟨rfl,rfl⟩
 gi_wp2_with fail
 rw [HS.out]
 have h0c : ((w.alloc (.cells #[.int .i64 1] 3)).alloc (.cells #[.int .i64 n] 3)).cell? ⟨s + 1,0,none⟩ = some (.int .i64 n) := by
  have := (Row.fresh' (w.alloc (.cells #[.int .i64 1] 3)) 3 [.int .i64 n] (s := s + 1) (by simp [HS.out])).cell (i := 0) rfl;exact this
 refine ⟨trivial,(callsIn_wide.2 (HL.out _ _ h0c)).mono ?_⟩;rintro r w5 ⟨rfl,rfl⟩
 gi_wp2_with fail
 refine ⟨trivial,(callsIn_wide.2 (squares_any _ _ _)).mono ?_⟩;rintro r w5 ⟨rfl,hw5⟩;have hr0 : Row w5 s 3 [.int .i64 1] := by rw [← hw5];exact (((Row.fresh' w _ _ HS.out).alloc _).alloc _).alloc _
 have hr2 : Row w5 (s + 1 + 1) 3 [.int .i64 X] := by rw [← hw5];exact (Row.fresh' _ _ _ (by simp [HS.out])).alloc _
 have hr3 : Row w5 (s + 1 + 1 + 1) 3 [.int .i64 M] := by rw [← hw5];exact Row.fresh' _ _ _ (by simp [HS.out])
 have hb5 : Below s w w5 := by rw [← hw5];exact ((((Below.refl _ w).alloc (by rw [HS.out];omega) _).alloc (by simp [HS.out]) _).alloc (by simp [HS.out];omega) _).alloc (by simp [HS.out];omega) _
 have hz5 : w5.heap.size = s + 1 + 1 + 1 + 1 := by rw [← hw5];simp [HS.out]
 rw [show ((w.alloc (.cells #[.int .i64 1] 3)).alloc (.cells #[.int .i64 n] 3)).heap.size = s + 1 + 1 by simp [HS.out]];clear hw5 h0c
 gi_wp2_with fail
 refine wpIn_range_handsB (F := Fence.wide) (σ := Nat × Bool) rfl (by omega) (gf := 127) (lb := #[.pointer (some ⟨s + 1 + 1 + 1,0,none⟩),.pointer (some ⟨s + 1 + 1,0,none⟩)]) rfl trivial (enters_of Tryz.func127 (by kernel_rfl) rfl)
  (fun (q : Nat × Bool) W => Tch (fun k => k = s ∨ k = s + 1 + 1 ∨ k = s + 1 + 1 + 1) w5 W ∧ SqB a m (s + 1 + 1) (s + 1 + 1 + 1) q W ∧ Row W s 3 [.int .i64 (Gm.pw (a * (m % 2 ^ q.1)) : Int)])
  (fun _ _ _ => False)
  (fun (q : Nat × Bool) vs q' _ => SqT a m q vs q') (fun q => (q.1,false)) (SqM a m (s + 1 + 1) (s + 1 + 1 + 1)) ?mI ?mK (0,false) (fun q => q.2 = false ∧ m / 2 ^ q.1 = 0) w5 (Below.refl _ _)
  (squares1_hands a m (s + 1 + 1) (s + 1 + 1 + 1) (by omega) HMQ.out w5 _ (fun q W h => h.2.1))
  ?oi ?ox ⟨Tch.refl _ _,⟨?ra,?rn⟩,?rc⟩ (fun q vs q' _ h => by rw [h.val];rfl)
  (fun (q : Nat × Bool) a' W => (∃ j : Nat,q = (j + 1,true) ∧ Tch (fun k => k = s ∨ k = s + 1 + 1 ∨ k = s + 1 + 1 + 1) w5 W ∧ SqB a m (s + 1 + 1) (s + 1 + 1 + 1) (j,false) W ∧ Row W s 3 [.int .i64 (Gm.pw (a * (m % 2 ^ j)) : Int)] ∧ a'.tmps.getD 6 undef = .int .i64 (Gm.pw (a * 2 ^ j) : Int) ∧ a'.tmps.getD 7 undef = .bool (decide (m / 2 ^ j % 2 = 1))) ∧ a'.tmps.size = 24 ∧ a'.tmps.getD 4 undef = .pointer (some ⟨s,0,none⟩) ∧ a'.defers = []) ?oa ?assign ?body ?done ?stop
 case mI =>
  rintro q X Y ⟨q1,q2,q3⟩ hm;exact ⟨q1.trans (hm.tch.mono (by rintro i _ (h | h);exact .inr (.inl h);exact .inr (.inr h))) ,⟨hm.ra',hm.rn'⟩,hm.tch.row q3 (by omega)⟩
 case mK =>
  intro q X Y hm;refine hm.tch.keepsFrom ?_;rintro k (rfl | rfl) o ho
  ·exact hm.ra.isc ho
  ·exact hm.rn.isc ho
 case oi =>
  rintro q W W' row ⟨q1,⟨q2,q3⟩,q4⟩ hg hr;exact ⟨q1.grown hg (fun g e => .inl (hr g e).1),⟨q2.grown hg (fun e => by have := (hr _ e.symm).1;omega),q3.grown hg (fun e => by have := (hr _ e.symm).1;omega)⟩,q4.grown hg (fun e => by have := (hr _ e.symm).1;omega)⟩
 case ox =>
  rintro c q W W' row h;exact h.elim
 case ra => show Row w5 _ _ [.int .i64 (Gm.pw (a * 2 ^ 0) : Int)];rw [Nat.pow_zero,Nat.mul_one,HX.out];exact hr2
 case rn => show Row w5 _ _ [.int .i64 ((m / 2 ^ 0 : Nat) : Int)];rw [Nat.pow_zero,Nat.div_one,HM.out];exact hr3
 case rc => show Row w5 _ _ [.int .i64 (Gm.pw (a * (m % 2 ^ 0)) : Int)];rw [Nat.pow_zero,Nat.mod_one,Nat.mul_zero,Gm.pw_zero];exact hr0
 case oa =>
  rintro q a' _ W W' row ⟨⟨j,q0,q1,⟨q2,q3⟩,q4,q5⟩,q6⟩ hg hr;exact ⟨⟨j,q0,q1.grown hg (fun g e => .inl (hr g e).1),⟨q2.grown hg (fun e => by have := (hr _ e.symm).1;omega),q3.grown hg (fun e => by have := (hr _ e.symm).1;omega)⟩,q4.grown hg (fun e => by have := (hr _ e.symm).1;omega),q5⟩,q6⟩
 case assign =>
  rintro l ⟨j,mid⟩ vs k' W K ⟨q1,q2,q3⟩ hT hK;obtain ⟨hmid,hpos,rfl,rfl⟩ := hT;change mid = false at hmid;subst hmid;rw [show (#[16,17] : Array Tmp).zip #[Value.int .i64 (Gm.pw (a * 2 ^ j) : Int),Value.bool (decide (m / 2 ^ j % 2 = 1))] = #[(16,Value.int .i64 (Gm.pw (a * 2 ^ j) : Int)),(17,Value.bool (decide (m / 2 ^ j % 2 = 1)))] by simp];gi_wp2;exact hK _ _ (KeepsFrom.refl _ _) ⟨⟨j,rfl,q1,q2,q3,by rfl,by rfl⟩,by rfl,by rfl,by rfl⟩
 case body =>
  rintro l q a' W hl ⟨⟨j,rfl,q1,q2,q3,e6,e7⟩,h24,e4,hdf⟩;obtain ⟨T2,ds2⟩ := a';dsimp only at h24 e4 e6 e7 hdf;subst hdf;obtain ⟨v2,hT,hv⟩ := arr_fun T2 24 h24;have e' : ((List.range 24).map v2).toArray = #[v2 0,v2 1,v2 2,v2 3,v2 4,v2 5,v2 6,v2 7,v2 8,v2 9,v2 10,v2 11,v2 12,v2 13,v2 14,v2 15,v2 16,v2 17,v2 18,v2 19,v2 20,v2 21,v2 22,v2 23] := rfl;rw [show v2 4 = _ from (hv 4).symm.trans e4,show v2 6 = _ from (hv 6).symm.trans e6,show v2 7 = _ from (hv 7).symm.trans e7] at e';rw [hT,e'];have c4 := q3.cell (i := 0) rfl;have f4 := q3.fz 0;have HQ := Lib.hid (And.intro q1 (And.intro q2 q3));have h1 := Gm.pw_lt (a * (m % 2 ^ j));have h2 := Gm.pw_lt (a * 2 ^ j);have h5 := pow_acc a m j;have h6 := pow_no a m j;clear hT hv e' e4 e6 e7 h24 q1 q2 q3 hr0 hr2 hr3 hb5 hz5;obtain ⟨D,hD⟩ : ∃ D,m / 2 ^ j % 2 = D := ⟨_,rfl⟩;rw [hD] at h5 h6 ⊢
  by_cases hd : D = 1
  ·have hd1 : decide (D = 1) = true := decide_eq_true hd
   have h7 : (Gm.pw (a * (m % 2 ^ j)) : Int) * (Gm.pw (a * 2 ^ j) : Int) % 2147483579 = (Gm.pw (a * (m % 2 ^ (j + 1))) : Int) := by rw [← h5 hd];omega
   obtain ⟨C,hC⟩ : ∃ C : Int,(Gm.pw (a * (m % 2 ^ j)) : Int) = C := ⟨_,rfl⟩;obtain ⟨Y,hY⟩ : ∃ Y : Int,(Gm.pw (a * 2 ^ j) : Int) = Y := ⟨_,rfl⟩;obtain ⟨N,hN⟩ : ∃ N : Int,(Gm.pw (a * (m % 2 ^ (j + 1))) : Int) = N := ⟨_,rfl⟩;have hC0 : 0 ≤ C := by omega
   have hC1 : C < 2147483579 := by omega
   have hY0 : 0 ≤ Y := by omega
   have hY1 : Y < 2147483579 := by omega
   have hXX0 : 0 ≤ C * Y := Int.mul_nonneg hC0 hY0;have hXX1 : C * Y ≤ 2147483578 * 2147483578 := Int.mul_le_mul (by omega) (by omega) hY0 (by decide);have hXX2 : C * Y ≤ 4611686001247518084 := Int.le_trans hXX1 (by decide);rw [hC] at c4 h7;rw [hY] at h7 ⊢;rw [hN] at h7;have HN := Lib.hid hN;clear h1 h2 h5 h6 hXX1 hC hY hN hD
   gi_wp2_with fail
   obtain ⟨q1,q2,q3⟩ := HQ.out;refine ⟨((Tch.refl (fun k => k = s) W).set (.inr rfl) _).keepsFrom ?_,q1.set (.inr (.inl rfl)) _,⟨q2.ra.away (p := ⟨s,0,none⟩) (by show s + 1 + 1 ≠ s;omega) _,q2.rn.away (p := ⟨s,0,none⟩) (by show s + 1 + 1 + 1 ≠ s;omega) _⟩,?_⟩
   ·rintro k rfl o ho
    exact q3.isc ho
   ·show Row _ s 3 [.int .i64 (Gm.pw (a * (m % 2 ^ (j + 1))) : Int)]
    rw [HN.out];exact q3.put 0 (.int .i64 N)
  ·have hd1 : decide (D = 1) = false := decide_eq_false hd
   have H6 := Lib.hid (h6 hd);clear h1 h2 h5 h6 hD
   gi_wp2_with fail
   obtain ⟨q1,q2,q3⟩ := HQ.out;refine ⟨KeepsFrom.refl _ _,q1,⟨q2.ra,q2.rn⟩,?_⟩;show Row _ s 3 [.int .i64 (Gm.pw (a * (m % 2 ^ (j + 1))) : Int)];rw [← H6.out];exact q3
 case done =>
  rintro D ⟨j,mid⟩ W hD ⟨hmid,hz⟩ ⟨q1,q2,q3⟩ hd;rw [pow_end _ _ hz] at q3;have f4 := q3.fz 0;have c4 := q3.cell (i := 0) rfl;have HQ := Lib.hid (And.intro q1 q3);have HD := Lib.hid (And.intro hD hd);have HB := Lib.hid (And.intro hb5 hz5);clear q1 q2 q3 hd hD hr0 hr2 hr3 hmid hz hb5 hz5
  gi_wp2_with fail
  have hD := HD.out.1;have hz5 := HB.out.2;have hm : Marks (s + 1 + 1 + 1) W.heap.size [{ target := .collected D,args := #[] }] W := (Marks.nil (s + 1 + 1 + 1) (s + 1 + 1 + 1) W).cons (by omega) (by omega) (heap_lt HD.out.2) HD.out.2;refine leaves_marks (C := W.heap.size) _ _ (hm.chgT (ex := fun k => k = s) ((Tch.refl (fun k => k = s) _).set (p := ⟨s,0,none⟩) (.inr rfl) _) (by rintro k rfl o ho;exact HQ.out.2.isc ho) (Nat.le_refl _)) fun w' hb' => ?_;refine ⟨_,results_ct rfl _ _ s (.int .i64 (Gm.pw (a * m) : Int)) (by rfl) ((hb'.cell (p := ⟨s,0,none⟩) (by show s < s + 1 + 1 + 1;omega)).trans ((HQ.out.2.put 0 _).cell (i := 0) rfl)) (isAgg_int' _),by rfl,?_⟩;have hfin : Tch (fun k => k = s ∨ k = s + 1 + 1 ∨ k = s + 1 + 1 + 1) w5 (W.setCell ⟨s,0,none⟩ (.int .i64 (Gm.pw (a * m) : Int))) := HQ.out.1.set (.inr (.inl rfl)) _;rw [HS.out];exact (HB.out.1.trans (hfin.below (by omega) (by intro i hi;omega))).trans (hb'.mono (by omega))
 case stop =>
  rintro D c q W hD h hd;exact h.elim
theorem turnM_eq (rs : List RI) (tg : List Int) : turnM rs tg = Gs.turnD (rs.map RI.d) tg := by
 funext k j
 unfold turnM Gs.turnD;rw [List.length_map]
 by_cases h : j < rs.length
 ·rw [if_pos h,if_pos h]
  have : (rs.map RI.d).getD j [] = (rs.getD j r0).d := by
   rw [List.getD_eq_getElem?_getD,List.getElem?_map,List.getElem?_eq_getElem h,List.getD_eq_getElem?_getD,List.getElem?_eq_getElem h];rfl
  rw [this]
 ·rw [if_neg h,if_neg h]
def CombR (SOL : Bool → List Int → Prop) (s N : Nat) (x : Ending) (w' : World) : Prop := ∃ v b ys,x = .returned (.tuple #[v,.bool b,.int .i64 0]) ∧ SOL b ys ∧ (b = false → v = .slice none 0 0) ∧ (b = true → ∃ yb,v = .slice (some ⟨yb,0,none⟩) N N ∧ Row w' yb 3 (ivs ys) ∧ s ≤ yb)
theorem combG_any (C : Nat) (A : Option Addr) (c : Nat) (rs : List RI) (t : RI) (w : World) (h : RdM w w.heap.size A rs) (hf : ∀ r ∈ rs,FRow C r) (ht : t.ok w w.heap.size) (htf : FRow C t) (hC0 : 0 < C) (hC : C ≤ 60) (hn : rs.length ≤ 60) :
  Calls Tryz.prog 33 #[.slice A rs.length c,t.cell] w fun x w' => CombR (Gs.Sol C (rs.map RI.d) t.d) w.heap.size rs.length x w' ∧ Below w.heap.size w w' := by
 obtain ⟨s,hs⟩ : ∃ s,w.heap.size = s := ⟨_,rfl⟩;obtain ⟨N,hN⟩ : ∃ N,rs.length = N := ⟨_,rfl⟩
 have HEX : Hid (∀ W,Below s w W → Calls Tryz.prog 88 #[.slice A N c,.slice t.A C t.c] W fun x w' => x = .returned (.tuple #[]) ∧ Below W.heap.size W w') := fun W hW => by
  have := examine_any C A c rs t W ((h.below (by rw [hs];exact hW)).more (by have := hW.size;omega)) hf ((ht.below (by rw [hs];exact hW)).more (by have := hW.size;omega)) htf (by omega) (by omega);rw [RI.cell_eq,htf.len,hN] at this;exact this
 have HTU : Hid (∀ W,Below s w W → Calls Tryz.prog 89 #[.slice A N c,.slice t.A C t.c] W fun x w' => ∃ gs,x = .returned (.slice (some ⟨W.heap.size,0,none⟩) C C) ∧ gs.length = C ∧ Tab w' W.heap.size W.heap.size gs (N + 1) (turnM rs t.d) ∧ Below W.heap.size W w') := fun W hW => by
  have := turned_any C A c rs t W ((h.below (by rw [hs];exact hW)).more (by have := hW.size;omega)) hf ((ht.below (by rw [hs];exact hW)).more (by have := hW.size;omega)) htf.len hC0 (by omega) (by omega);rw [RI.cell_eq,htf.len,hN] at this;exact this
 have HRNG : Hid (∀ i j,i < C → j < N + 1 → 0 ≤ turnM rs t.d i j ∧ turnM rs t.d i j < 1073741789) := fun i j hi hj => by
  unfold turnM
  split
  ·have hm := (getD_mem' (rs := rs) (k := j) (by omega)).1
   have hl := (hf _ hm).len;rw [List.getD_eq_getElem?_getD (l := (rs.getD j r0).d),List.getElem?_eq_getElem (by omega)];exact ⟨(hf _ hm).lo _ (List.getElem_mem _),(hf _ hm).hi _ (List.getElem_mem _)⟩
  ·have hl := htf.len
   rw [List.getD_eq_getElem?_getD (l := t.d),List.getElem?_eq_getElem (by omega)];exact ⟨htf.lo _ (List.getElem_mem _),htf.hi _ (List.getElem_mem _)⟩
 have HSOL : Hid (∀ ps M b,Gs.Rex C (N + 1) (turnM rs t.d) M N ps → (b = true ↔ ∀ i,ps.length ≤ i → i < C → M i N = 0) → Gs.Sol C (rs.map RI.d) t.d b (Gs.ysTo N ps M ps.length)) := fun ps M b h1 h2 => by
  have hl : (rs.map RI.d).length = N := by rw [List.length_map,hN]
  refine ⟨ps,M,?_,?_,?_⟩
  ·rw [hl,← turnM_eq];exact h1
  ·rw [hl];exact h2
  ·rw [hl]
 obtain ⟨SOL,hSOL⟩ : ∃ S,Gs.Sol C (rs.map RI.d) t.d = S := ⟨_,rfl⟩;rw [hSOL] at HSOL ⊢;obtain ⟨M0,hM0⟩ : ∃ M,turnM rs t.d = M := ⟨_,rfl⟩;rw [hM0] at HTU HRNG HSOL;obtain ⟨tA,tc,td⟩ := t;change Hid (∀ W,Below s w W → Calls Tryz.prog 88 #[.slice A N c,.slice tA C tc] W fun x w' => x = .returned (.tuple #[]) ∧ Below W.heap.size W w') at HEX;change Hid (∀ W,Below s w W → Calls Tryz.prog 89 #[.slice A N c,.slice tA C tc] W fun x w' => ∃ gs,x = .returned (.slice (some ⟨W.heap.size,0,none⟩) C C) ∧ gs.length = C ∧ Tab w' W.heap.size W.heap.size gs (N + 1) M0 ∧ Below W.heap.size W w') at HTU;have htl : td.length = C := htf.len;show Calls _ _ #[_,.slice tA td.length tc] _ _;rw [htl,hN];rw [hs];rw [hN] at hn;have HS := Lib.hid hs;clear h hf ht htf hM0 htl hN hs hSOL;have HB0 : Hid (Below s w (w.alloc (.cells #[.int .i64 0] 33))) := by show Below _ _ _;rw [← HS.out];exact (Below.refl _ w).alloc (Nat.le_refl _) _
 have HE0 : Hid (Row (w.alloc (.cells #[.int .i64 0] 33)) s 33 [.int .i64 0]) := Row.fresh' _ _ _ HS.out
 go_enter_defers Tryz.func33,Tryz.ntmps33
 go_wp2_with fail
 rw [HS.out];generalize (w.alloc (.cells #[.int .i64 0] 33)) = w0 at HB0 HE0 ⊢;refine (HEX.out _ HB0.out).mono ?_;rintro x w1 ⟨rfl,hb1⟩;have HB1 : Hid (Below s w w1) := HB0.out.trans (hb1.mono (by have := HE0.out.lt;omega));have HE1 := Lib.hid (HE0.out.below hb1 HE0.out.lt);clear hb1 HB0 HE0
 go_wp2_with fail
 refine (HTU.out _ HB1.out).mono ?_;rintro x w2 ⟨gs,rfl,hgl,hT,hb2⟩;have HB2 : Hid (Below s w w2) := HB1.out.trans (hb2.mono (by have := HE1.out.lt;omega));have HE2 := Lib.hid (HE1.out.below hb2 HE1.out.lt);obtain ⟨tb,htb⟩ : ∃ x,w1.heap.size = x := ⟨_,rfl⟩;have hstb : s < tb := by have := HE1.out.lt;omega
 rw [htb] at hT;rw [htb];have htlt := hT.tlt;have hRD := reduce_any tb tb C gs (N + 1) N M0 w2 hT (by omega) (by omega) (by omega) (by omega) (by omega) (by omega) (by rw [hgl];exact HRNG.out) (by omega);rw [hgl] at hRD;have HRD := Lib.hid hRD;have HBT : Hid (tb < w2.heap.size) := htlt;clear hRD hT hb2 hgl htb htlt HB1 HE1
 go_wp2_with fail
 refine HRD.out.mono ?_;rintro x w3 ⟨ps,pv,gs3,M,rfl,hRM,hred⟩;have hown := hRM.own;obtain ⟨r,hr⟩ : ∃ r,ps.length = r := ⟨_,rfl⟩;have hrC : r ≤ C := by rw [← hr];exact hred.len
 rw [hr] at hown
 obtain ⟨PA,pc,rfl⟩ : ∃ PA pc,pv = .slice PA r pc := by
  rcases hown.2 with ⟨e1,e2⟩ | ⟨g,cap,cur,e1,_⟩
  ·exact ⟨none,0,by rw [e1,e2]⟩
  ·exact ⟨_,_,e1⟩
 have HPS : Hid (∀ k,k < r → ∃ pg,PA = some ⟨pg,0,none⟩ ∧ pg < w3.heap.size ∧ ∃ q : Nat,ps.getD k 0 = q ∧ q < N ∧ ∀ V,Below w3.heap.size w3 V → V.cell? ⟨pg,k,none⟩ = some (.int .i64 (q : Int))) := fun k hk => by
  obtain ⟨pg,pc2,e1,_,hpg2⟩ := hown.form (by omega)
  injection e1 with e1
  refine ⟨pg,e1,hpg2,_,rfl,hred.lt k (by omega),fun V hV => ?_⟩;subst e1;rw [hV.cell (p := ⟨pg,k,none⟩) hpg2,hown.cellAt k (by omega),List.getElem?_map,List.getElem?_eq_getElem (by omega),List.getD_eq_getElem?_getD,List.getElem?_eq_getElem (by omega)]
  rfl
 have HB3 : Hid (Below s w w3) := HB2.out.trans (hRM.bel.mono (by omega));have HE3 := Lib.hid (HE2.out.below hRM.bel hstb);have HTT := Lib.hid hRM.tab;have HG3 := Lib.hid hRM.gl;have HRED := Lib.hid hred;have HR := Lib.hid hr;have hrN : r ≤ 60 := by omega
 clear hRM hred hown HRD HB2 HE2 HRNG HEX HTU hr;have r0 : (0 : Int) ≤ (r : Int) := by omega
 have r1 : (r : Int) ≤ (C : Int) := by omega
 go_wp2_with fail
 case inl hrc =>
  have HZ : Hid (∀ i,r ≤ i → i < r → M i N = 0) := fun i h1 h2 => absurd h2 (by omega);refine wp_loop_rounds 1 ?_;rw [rounds_succ];have hmk := makeI_any N (by omega)
  go_wp2_with fail
  obtain ⟨yb,hyb⟩ : ∃ x,w3.heap.size = x := ⟨_,rfl⟩;obtain ⟨w4,hw4⟩ : ∃ x,w3.alloc (.cells (madeCells #[.int .i64 0] N) 3) = x := ⟨_,rfl⟩;have hb4 : Below w3.heap.size w3 w4 := by rw [← hw4];exact (Below.refl _ _).alloc (Nat.le_refl _) _
  have hy4 : Row w4 yb 3 (ivs (List.replicate N 0)) := by
   rw [← hw4,← hyb,madeZero];exact Row.fresh w3 3 (ivs (List.replicate N 0))
  rw [hw4,hyb];have HB4 := Lib.hid hb4;have HY4 := Lib.hid hy4;have HYB := Lib.hid hyb;have hyl : yb < w4.heap.size := hy4.lt;clear hw4 hb4 hy4 hyb hmk
  have HSYB : Hid (s < yb ∧ tb < yb) := by
   have h1 := HE3.out.lt;have h2 := HTT.out.tlt;have h3 := HYB.out;exact ⟨by omega,by omega⟩
  go_loopw [44] (fun i wx => ∃ k : Nat,k ≤ r ∧ i = .int .i64 k ∧ ∃ ys : List Int,ys = Gs.ysTo N ps M k ∧ ys.length = N ∧ Row wx yb 3 (ivs ys) ∧ Tch (fun g => g = yb) w4 wx) (fun i _ => r - (intOf i).toNat)
  case atStart => exact ⟨0,Nat.zero_le _,rfl,List.replicate N 0,rfl,by simp,HY4.out,Tch.refl _ _⟩
  case round =>
   obtain ⟨k,hk,rfl,ys,hys,hyl2,hry,ht⟩ := hrel;have hbb : Below w3.heap.size w3 wr := HB4.out.trans (ht.below HB4.out.size (by intro i hi e;have := HYB.out;omega));have HRY := Lib.hid hry;have HTC := Lib.hid ht;have HYL := Lib.hid hyl2;have HYS := Lib.hid hys
   by_cases hlt : k < r
   ·have k1 : (k : Int) < (r : Int) := by omega
    have k0 : (0 : Int) ≤ (k : Int) := by omega
    have k2 : (N : Int) < (N : Int) + 1 := by omega
    have k3 : (k : Int) < (r : Int) := by omega
    obtain ⟨pg,hPA,hpgl,q,hqe,hqN,hqc⟩ := HPS.out k hlt;subst hPA;have hpc := hqc wr hbb;have hTw := HTT.out.next hbb;have hkg : k < gs3.length := by rw [HG3.out];omega
    have t0 := hTw.tcell hkg;have t1 := hTw.cell hkg (show N < N + 1 by omega);obtain ⟨V,hV⟩ : ∃ x,M k N = x := ⟨_,rfl⟩;rw [hV] at t1;have q1 : (q : Int) < (N : Int) := by omega
    have q0 : (0 : Int) ≤ (q : Int) := by omega
    have cy := hry.cell (i := q) (v := .int .i64 (ys.getD q 0)) (by rw [List.getElem?_map,List.getElem?_eq_getElem (by omega),List.getD_eq_getElem?_getD,List.getElem?_eq_getElem (by omega)];rfl);have fy := hry.fz q;have HQV := Lib.hid (And.intro hqe hV);clear hTw hkg hV hqc hqe hry ht hyl2 hbb hys;go_wp2;go_roundw
    case rel =>
     refine ⟨k + 1,by omega,by go_num,ys.set q V,?_,by rw [List.length_set];exact HYL.out,?_,HTC.out.set (p := ⟨yb,q,none⟩) (.inr rfl) _⟩
     ·rw [HYS.out,← HQV.out.1,← HQV.out.2];rfl
     ·have := HRY.out.put q (.int .i64 V)
      rwa [show (ivs ys).set q (.int .i64 V) = ivs (ys.set q V) by simp [List.map_set]] at this
    case measure => simp [intOf];omega
   ·have hkr : k = r := by omega
    have hes : Row wr s 33 [.int .i64 0] := HTC.out.row (HE3.out.below HB4.out HE3.out.lt) (by have := HSYB.out.1;omega);have ce := hes.cell (i := 0) rfl;have fe := hes.fz 0;have HES := Lib.hid hes;have HBF : Hid (Below s w wr) := HB3.out.trans (hbb.mono (by have := HE3.out.lt;omega));have HKR := Lib.hid hkr;have k1 : ¬ (k : Int) < (r : Int) := by omega
    clear hry ht hyl2 hbb hes hys hlt hkr;go_wp2;refine leaves_cons (f := 87) (args := #[.pointer (some ⟨s,0,none⟩)]) (by simp) (by simp [go_sem]) ?_;refine (caught_idle ⟨s,0,none⟩ _).mono ?_;rintro e u' w9 ⟨rfl,rfl,rfl⟩;have hfin := HES.out.put 0 (.int .i64 0);exact ⟨_,results_ttc rfl _ _ s (.int .i64 0) (by rfl) (hfin.cell (i := 0) rfl) (isAgg_errno _),⟨.slice (some ⟨yb,0,none⟩) N N,true,ys,rfl,by rw [HYS.out,HKR.out,← HR.out];exact HSOL.out ps M true HRED.out ⟨fun _ i h1 h2 => HZ.out i (by have := HR.out;omega) (by omega),fun _ => rfl⟩,(fun h => by cases h),(fun _ => ⟨yb,rfl,HRY.out.away (p := ⟨s,0,none⟩) (by have := HSYB.out.1;show yb ≠ s;omega) _,by have := HSYB.out.1;omega⟩)⟩,HBF.out.setCell (p := ⟨s,0,none⟩) (Nat.le_refl _) _⟩
 case inr hrc =>
  obtain ⟨D,hD⟩ : ∃ D,C - r = D := ⟨_,rfl⟩;have hCD : C = r + D := by omega
  have HCD := Lib.hid hCD;have hD60 : D ≤ 60 := by omega
  rw [hD];clear hD hCD
  go_loopw [30] (fun i wx => w3 = wx ∧ ∃ k : Nat,k ≤ D ∧ i = .int .i64 k ∧ ∀ j,j < k → M (r + j) N = 0) (fun i _ => D - (intOf i).toNat)
  case atStart => exact ⟨rfl,0,Nat.zero_le _,rfl,fun j hj => absurd hj (by omega)⟩
  case round =>
   obtain ⟨rfl,k,hk,rfl,hu⟩ := hrel;have HU := Lib.hid hu;clear hu;have hcd := HCD.out
   by_cases hlt : k < D
   ·have k1 : (k : Int) < (D : Int) := by omega
    have k0 : (0 : Int) ≤ (k : Int) := by omega
    have k2 : (N : Int) < (N : Int) + 1 := by omega
    have hkg : r + k < gs3.length := by rw [HG3.out];omega
    have t0 := HTT.out.tcell hkg;have t1 := HTT.out.cell hkg (show N < N + 1 by omega);obtain ⟨V,hV⟩ : ∃ x,M (r + k) N = x := ⟨_,rfl⟩;rw [hV] at t1;have HV := Lib.hid hV;clear hkg hV hcd
    by_cases hv : V = 0
    ·have hne : (V != 0) = false := by simp [hv]
     have HV0 : Hid (M (r + k) N = 0) := by show _ = _;rw [HV.out,hv]
     clear hv;go_wp2;go_roundw
     case rel =>
      refine ⟨trivial,k + 1,by omega,by go_num,fun j hj => ?_⟩
      by_cases e : j = k
      ·rw [e];exact HV0.out
      ·exact HU.out j (by omega)
     case measure => simp [intOf];omega
    ·have hne : (V != 0) = true := by simpa using hv
     have HV0 : Hid (M (r + k) N ≠ 0) := by show _ ≠ _;rw [HV.out];exact hv
     have ce := HE3.out.cell (i := 0) rfl;have fe := HE3.out.fz 0;clear hv;go_wp2;refine leaves_cons (f := 87) (args := #[.pointer (some ⟨s,0,none⟩)]) (by simp) (by simp [go_sem]) ?_;refine (caught_idle ⟨s,0,none⟩ _).mono ?_;rintro e u' w9 ⟨rfl,rfl,rfl⟩;have hfin := HE3.out.put 0 (.int .i64 0);exact ⟨_,results_ttc rfl _ _ s (.int .i64 0) (by rfl) (hfin.cell (i := 0) rfl) (isAgg_errno _),⟨.slice none 0 0,false,_,rfl,HSOL.out ps M false HRED.out ⟨fun h => by (cases h),fun h => absurd (h (r + k) (by rw [HR.out];omega) (by have := HCD.out;omega)) HV0.out⟩,(fun _ => rfl),(fun h => by cases h)⟩,HB3.out.setCell (p := ⟨s,0,none⟩) (Nat.le_refl _) _⟩
   ·have HZ : Hid (∀ i,r ≤ i → i < C → M i N = 0) := fun i h1 h2 => by
     have := HU.out (i - r) (by have := HCD.out;omega)
     rwa [show r + (i - r) = i by omega] at this
    have k1 : ¬ (k : Int) < (D : Int) := by omega
    clear hlt hcd;have hmk := makeI_any N (by omega)
    go_wp2_with fail
    obtain ⟨yb,hyb⟩ : ∃ x,w3.heap.size = x := ⟨_,rfl⟩;obtain ⟨w4,hw4⟩ : ∃ x,w3.alloc (.cells (madeCells #[.int .i64 0] N) 3) = x := ⟨_,rfl⟩;have hb4 : Below w3.heap.size w3 w4 := by rw [← hw4];exact (Below.refl _ _).alloc (Nat.le_refl _) _
    have hy4 : Row w4 yb 3 (ivs (List.replicate N 0)) := by
     rw [← hw4,← hyb,madeZero];exact Row.fresh w3 3 (ivs (List.replicate N 0))
    rw [hw4,hyb];have HB4 := Lib.hid hb4;have HY4 := Lib.hid hy4;have HYB := Lib.hid hyb;have hyl : yb < w4.heap.size := hy4.lt;clear hw4 hb4 hy4 hyb hmk
    have HSYB : Hid (s < yb ∧ tb < yb) := by
     have h1 := HE3.out.lt;have h2 := HTT.out.tlt;have h3 := HYB.out;exact ⟨by omega,by omega⟩
    go_loopw [44] (fun i wx => ∃ k : Nat,k ≤ r ∧ i = .int .i64 k ∧ ∃ ys : List Int,ys = Gs.ysTo N ps M k ∧ ys.length = N ∧ Row wx yb 3 (ivs ys) ∧ Tch (fun g => g = yb) w4 wx) (fun i _ => r - (intOf i).toNat)
    case atStart => exact ⟨0,Nat.zero_le _,rfl,List.replicate N 0,rfl,by simp,HY4.out,Tch.refl _ _⟩
    case round =>
     obtain ⟨k,hk,rfl,ys,hys,hyl2,hry,ht⟩ := hrel;have hbb : Below w3.heap.size w3 wr := HB4.out.trans (ht.below HB4.out.size (by intro i hi e;have := HYB.out;omega));have HRY := Lib.hid hry;have HTC := Lib.hid ht;have HYL := Lib.hid hyl2;have HYS := Lib.hid hys
     by_cases hlt : k < r
     ·have k1 : (k : Int) < (r : Int) := by omega
      have k0 : (0 : Int) ≤ (k : Int) := by omega
      have k2 : (N : Int) < (N : Int) + 1 := by omega
      have k3 : (k : Int) < (C : Int) := by omega
      obtain ⟨pg,hPA,hpgl,q,hqe,hqN,hqc⟩ := HPS.out k hlt;subst hPA;have hpc := hqc wr hbb;have hTw := HTT.out.next hbb;have hkg : k < gs3.length := by rw [HG3.out];omega
      have t0 := hTw.tcell hkg;have t1 := hTw.cell hkg (show N < N + 1 by omega);obtain ⟨V,hV⟩ : ∃ x,M k N = x := ⟨_,rfl⟩;rw [hV] at t1;have q1 : (q : Int) < (N : Int) := by omega
      have q0 : (0 : Int) ≤ (q : Int) := by omega
      have cy := hry.cell (i := q) (v := .int .i64 (ys.getD q 0)) (by rw [List.getElem?_map,List.getElem?_eq_getElem (by omega),List.getD_eq_getElem?_getD,List.getElem?_eq_getElem (by omega)];rfl);have fy := hry.fz q;have HQV := Lib.hid (And.intro hqe hV);clear hTw hkg hV hqc hqe hry ht hyl2 hbb hys;go_wp2;go_roundw
      case rel =>
       refine ⟨k + 1,by omega,by go_num,ys.set q V,?_,by rw [List.length_set];exact HYL.out,?_,HTC.out.set (p := ⟨yb,q,none⟩) (.inr rfl) _⟩
       ·rw [HYS.out,← HQV.out.1,← HQV.out.2];rfl
       ·have := HRY.out.put q (.int .i64 V)
        rwa [show (ivs ys).set q (.int .i64 V) = ivs (ys.set q V) by simp [List.map_set]] at this
      case measure => simp [intOf];omega
     ·have hkr : k = r := by omega
      have hes : Row wr s 33 [.int .i64 0] := HTC.out.row (HE3.out.below HB4.out HE3.out.lt) (by have := HSYB.out.1;omega);have ce := hes.cell (i := 0) rfl;have fe := hes.fz 0;have HES := Lib.hid hes;have HBF : Hid (Below s w wr) := HB3.out.trans (hbb.mono (by have := HE3.out.lt;omega));have HKR := Lib.hid hkr;have k1 : ¬ (k : Int) < (r : Int) := by omega
      clear hry ht hyl2 hbb hes hys hlt hkr;go_wp2;refine leaves_cons (f := 87) (args := #[.pointer (some ⟨s,0,none⟩)]) (by simp) (by simp [go_sem]) ?_;refine (caught_idle ⟨s,0,none⟩ _).mono ?_;rintro e u' w9 ⟨rfl,rfl,rfl⟩;have hfin := HES.out.put 0 (.int .i64 0);exact ⟨_,results_ttc rfl _ _ s (.int .i64 0) (by rfl) (hfin.cell (i := 0) rfl) (isAgg_errno _),⟨.slice (some ⟨yb,0,none⟩) N N,true,ys,rfl,by rw [HYS.out,HKR.out,← HR.out];exact HSOL.out ps M true HRED.out ⟨fun _ i h1 h2 => HZ.out i (by have := HR.out;omega) (by omega),fun _ => rfl⟩,(fun h => by cases h),(fun _ => ⟨yb,rfl,HRY.out.away (p := ⟨s,0,none⟩) (by have := HSYB.out.1;show yb ≠ s;omega) _,by have := HSYB.out.1;omega⟩)⟩,HBF.out.setCell (p := ⟨s,0,none⟩) (Nat.le_refl _) _⟩
theorem wp_region_treeM {P : Program} {Q : Exit → Act → World → Prop} {id : Nat} {a : Act} {w : World} {l : List Oper} (S : World → Prop) (t : OT) (hm : P.follows .mixedOrders = true) (hsel : Region.noSelect l.toArray = true) (hd : decide (t.depth ≤ l.length) = true)
  (hB : otB .any l.toArray t (Array.replicate l.length false) = true) (hS : S w.drew) (h : wpOT P l.toArray (noPanic Q) S t a w.drew) : (Code.region id l.toArray true).wp P Q a w := by
 refine wp_mono (wp_region_tree (Q := noPanic Q) S t hm hsel hd hB (fun _ _ _ _ _ h => h) hS h) ?_;intro e a w h
 cases e <;> first | exact h | exact h.elim
section
variable {F : Fence} {n : Nat} {P : Program} {ops : Array Oper} {Q : Exit → Act → World → Prop} {md : Region.Mode} {C : Nat → World → Prop}
def wpOTC (F : Fence) (n : Nat) (P : Program) (md : Region.Mode) (ops : Array Oper) (Q : Exit → Act → World → Prop) (C : Nat → World → Prop) : OT → List Nat → Act → World → Prop
 | .done,_,a,w => Q .normal a w
 | .take i t,E,a,w => ∃ o v,ops[i]? = some o ∧ YT P ops (C i) o v a ∧ C i w ∧ wpOTC F n P md ops Q C t (i :: E) (a.put o.dst v) w
 | .one i t,E,a,w => wpOpIn F n P ops Q i (fun a' w' => (∀ e ∈ lateE md ops E i,C e w') ∧ wpOTC F n P md ops Q C t (lateE md ops E i) a' w') a w
 | .two i t j u,E,a,w => wpOpIn F n P ops Q i (fun a' w' => (∀ e ∈ lateE md ops E i,C e w') ∧ wpOTC F n P md ops Q C t (lateE md ops E i) a' w') a w ∧ wpOpIn F n P ops Q j (fun a' w' => (∀ e ∈ lateE md ops E j,C e w') ∧ wpOTC F n P md ops Q C u (lateE md ops E j) a' w') a w
theorem wpAnyT_of_treeC (hd : noDef ops = true) (hsel : Region.noSelect ops = true) (hQ : ∀ (x : Option Tmp) (v : Value) c a w,Q (.panic c) (a.put x v) w → Q (.panic c) a w) :
  ∀ (t : OT) (fuel : Nat) (E : List Nat) (listed : Array Bool) (a : Act) (w : World),t.depth ≤ fuel → otB md ops t listed = true → (∀ e ∈ E,C e w) → wpOTC F n P md ops Q C t E a w → wpAnyT F n P md ops Q C fuel E listed a w
 | .done,fuel,E,listed,a,w,_,hB,_,h => wpAnyT_done (by simpa [otB] using hB) h fuel
 | .take i t,0,_,_,_,_,hp,_,_,_ => by simp [OT.depth] at hp
 | .one i t,0,_,_,_,_,hp,_,_,_ => by simp [OT.depth] at hp
 | .two i t j u,0,_,_,_,_,hp,_,_,_ => by simp [OT.depth] at hp
 | .take i t,fuel + 1,E,listed,a,w,hp,hB,hS,h => by
  simp only [otB,Bool.and_eq_true] at hB;obtain ⟨o,v,ho,hy,hC,h⟩ := h
  exact wpAnyT_first hd ho (Region.noSelect_spec hsel) (fun c a w h => hQ _ _ c a w h) fuel E listed a w (Region.free_spec ho hB.1.2) (by simpa using hB.1.1) hy hC hS
   (wpAnyT_of_treeC hd hsel hQ t fuel _ _ _ w (by simp only [OT.depth] at hp;omega) hB.2 (fun e he => by
    rcases List.mem_cons.1 he with rfl | he
    ·exact hC
    ·exact hS e he) h)
 | .one i t,fuel + 1,E,listed,a,w,hp,hB,hS,h => by
  simp only [otB,Bool.and_eq_true,decide_eq_true_eq] at hB;refine ⟨fun h0 => (by rw [h0] at hB;cases hB.1),fun j hj => ?_⟩;rw [hB.1,List.mem_singleton] at hj;subst hj;exact wpOpIn_mono (fun a' w' h' => ⟨h'.1,wpAnyT_of_treeC hd hsel hQ t fuel _ _ a' w' (by simp only [OT.depth] at hp;omega) hB.2 h'.1 h'.2⟩) h
 | .two i t j u,fuel + 1,E,listed,a,w,hp,hB,hS,h => by
  simp only [otB,Bool.and_eq_true,decide_eq_true_eq] at hB;refine ⟨fun h0 => (by rw [h0] at hB;cases hB.1.1),fun k hk => ?_⟩;rw [hB.1.1] at hk;simp only [List.mem_cons,List.not_mem_nil,or_false] at hk
  rcases hk with rfl | rfl
  ·exact wpOpIn_mono (fun a' w' h' => ⟨h'.1,wpAnyT_of_treeC hd hsel hQ t fuel _ _ a' w' (by simp only [OT.depth] at hp;omega) hB.1.2 h'.1 h'.2⟩) h.1
  ·exact wpOpIn_mono (fun a' w' h' => ⟨h'.1,wpAnyT_of_treeC hd hsel hQ u fuel _ _ a' w' (by simp only [OT.depth] at hp;omega) hB.2 h'.1 h'.2⟩) h.2
theorem wpIn_region_treeC {id : Nat} {a : Act} {w : World} {l : List Oper} (C : Nat → World → Prop) (t : OT) (hm : P.follows .mixedOrders = true) (hd : noDef l.toArray = true) (hsel : Region.noSelect l.toArray = true) (hp : decide (t.depth ≤ l.length) = true)
  (hB : otB .any l.toArray t (Array.replicate l.length false) = true) (h : wpOTC F n P .any l.toArray (noPanic Q) C t [] a w.drew) : (Code.region id l.toArray true).wpIn F n P Q a w := by
 refine wpIn_mono (Q := noPanic Q) (wpIn_region_any hm (wpAnyIn_of_T (C := C) _ [] _ _ _ ?_)) ?_
 ·have := wpAnyT_of_treeC (md := .any) hd hsel (fun _ _ _ _ _ h => h) t l.length [] (Array.replicate l.length false) a _ (of_decide_eq_true hp) hB (by simp) h
  simpa using this
 ·intro e a w h
  cases e <;> first | exact h | exact h.elim
theorem wpOTC_done {E : List Nat} {a : Act} {w : World} (h : Q .normal a w) : wpOTC F n P md ops Q C .done E a w := h
theorem wpOTC_take {i : Nat} {t : OT} {E : List Nat} {a : Act} {w : World} {o : Oper} (ho : ops[i]? = some o) (v : Value) (hw : Region.wanted o (yielded ops a.tmps) = true) (hab : ∀ w,o.about P w a.eval = none)
  (hy : ∀ w',C i w' → (execOp a.eval o).run P w' = .ok (.value v) w') (hC : C i w) (h : ∀ K : Act → Prop,(∀ a',wpOTC F n P md ops Q C t (i :: E) a' w → K a') → K (a.put o.dst v)) : wpOTC F n P md ops Q C (.take i t) E a w :=
 ⟨o,v,ho,⟨.inl ⟨hw,hy⟩,hab⟩,hC,h _ fun _ h => h⟩
theorem wpOTC_one {i : Nat} {t : OT} {E : List Nat} (E' : List Nat) {a : Act} {w : World} {o : Oper} (ho : ops[i]? = some o) (hw : Region.wanted o (yielded ops a.tmps) = true) (hE : lateE md ops E i = E')
  (h : ∀ K : Act → World → Prop,(∀ a' w',(∀ e ∈ E',C e w') → wpOTC F n P md ops Q C t E' a' w' → K a' w') → o.wpIn F n P a w K Q) : wpOTC F n P md ops Q C (.one i t) E a w :=
 wpOpIn_force ho hw fun K hK => h K fun a' w' h1 h2 => hK a' w' (by rw [hE];exact ⟨h1,h2⟩)
theorem wpOTC_two {i j : Nat} {t u : OT} {E : List Nat} (E1 E2 : List Nat) {a : Act} {w : World} {o o' : Oper} (ho : ops[i]? = some o) (hw : Region.wanted o (yielded ops a.tmps) = true) (hE : lateE md ops E i = E1) (ho' : ops[j]? = some o') (hw' : Region.wanted o' (yielded ops a.tmps) = true) (hE' : lateE md ops E j = E2)
  (h : ∀ K : Act → World → Prop,(∀ a' w',(∀ e ∈ E1,C e w') → wpOTC F n P md ops Q C t E1 a' w' → K a' w') → o.wpIn F n P a w K Q)
  (h' : ∀ K : Act → World → Prop,(∀ a' w',(∀ e ∈ E2,C e w') → wpOTC F n P md ops Q C u E2 a' w' → K a' w') → o'.wpIn F n P a w K Q) : wpOTC F n P md ops Q C (.two i t j u) E a w :=
 ⟨wpOpIn_force ho hw fun K hK => h K fun a' w' h1 h2 => hK a' w' (by rw [hE];exact ⟨h1,h2⟩),wpOpIn_force ho' hw' fun K hK => h' K fun a' w' h1 h2 => hK a' w' (by rw [hE'];exact ⟨h1,h2⟩)⟩
end
structure PP (E1 E2 : TypeId) (bx : Nat → Prop) (B : Nat) (w0 : World) (r0 o0 : Value) (W : World) (rv ov : Value) (n m : Nat) (xs ys : List Value) : Prop where
 own1 : W.ownsRow B E1 1 rv n xs
 own2 : W.ownsRow B E2 1 ov m ys
 dis : ∀ g,rv.ownBlock = some g → ov.ownBlock ≠ some g
 tch : Tch (fun g => r0.ownBlock = some g ∨ o0.ownBlock = some g ∨ bx g) w0 W
 f1 : rv.ownBlock = r0.ownBlock ∨ ∃ g,rv.ownBlock = some g ∧ w0.heap.size ≤ g
 f2 : ov.ownBlock = o0.ownBlock ∨ ∃ g,ov.ownBlock = some g ∧ w0.heap.size ≤ g
section
variable {E1 E2 : TypeId} {bx : Nat → Prop} {B : Nat} {w0 : World} {r0 o0 : Value} {W : World} {rv ov : Value} {n m : Nat} {xs ys : List Value}
theorem PP.start (h1 : w0.ownsRow B E1 1 r0 n xs) (h2 : w0.ownsRow B E2 1 o0 m ys) (hd : ∀ g,r0.ownBlock = some g → o0.ownBlock ≠ some g) : PP E1 E2 bx B w0 r0 o0 w0 r0 o0 n m xs ys := ⟨h1,h2,hd,Tch.refl _ _,.inl rfl,.inl rfl⟩
theorem PP.next {W' : World} (h : PP E1 E2 bx B w0 r0 o0 W rv ov n m xs ys) (hb : Below W.heap.size W W') : PP E1 E2 bx B w0 r0 o0 W' rv ov n m xs ys :=
 ⟨own_belowU h.own1 hb (fun g hg => (h.own1.lt g hg).2),own_belowU h.own2 hb (fun g hg => (h.own2.lt g hg).2),h.dis,h.tch.next hb,h.f1,h.f2⟩
theorem PP.app1 {W' : World} {rv' : Value} {k : Nat} {zs : List Value} (h : PP E1 E2 bx B w0 r0 o0 W rv ov n m xs ys) (ho : W'.ownsRow B E1 1 rv' k zs) (hg : W.grownBy W' rv.ownBlock) (hr : rv'.ownBlock = rv.ownBlock ∨ rv'.ownBlock = some W.heap.size) : PP E1 E2 bx B w0 r0 o0 W' rv' ov k m zs ys := by
 have l2 : ∀ g,ov.ownBlock = some g → g < W.heap.size := fun g hg => (h.own2.lt g hg).2;refine ⟨ho,h.own2.kept hg ?_,?_,h.tch.grown hg ?_,?_,h.f2⟩
 ·cases ho2 : ov.ownBlock with
  | none => exact .inl rfl
  | some g => exact .inr fun e => h.dis g e.symm ho2
 ·intro g e1 e2
  rcases hr with hr | hr
  ·exact h.dis g (hr ▸ e1) e2
  ·rw [hr] at e1;have := l2 g e2;cases e1;omega
 ·intro g e
  rcases h.f1 with h1 | ⟨g',h1,h2⟩
  ·exact .inr (.inl (h1 ▸ e))
  ·rw [e] at h1;cases h1;exact .inl h2
 ·rcases hr with hr | hr
  ·rw [hr];exact h.f1
  ·exact .inr ⟨_,hr,h.tch.size⟩
theorem PP.app2 {W' : World} {ov' : Value} {k : Nat} {zs : List Value} (h : PP E1 E2 bx B w0 r0 o0 W rv ov n m xs ys) (ho : W'.ownsRow B E2 1 ov' k zs) (hg : W.grownBy W' ov.ownBlock) (hr : ov'.ownBlock = ov.ownBlock ∨ ov'.ownBlock = some W.heap.size) : PP E1 E2 bx B w0 r0 o0 W' rv ov' n k xs zs := by
 have l2 : ∀ g,rv.ownBlock = some g → g < W.heap.size := fun g hg => (h.own1.lt g hg).2;refine ⟨h.own1.kept hg ?_,ho,?_,h.tch.grown hg ?_,h.f1,?_⟩
 ·cases ho2 : rv.ownBlock with
  | none => exact .inl rfl
  | some g => exact .inr fun e => h.dis g ho2 e.symm
 ·intro g e1 e2
  rcases hr with hr | hr
  ·exact h.dis g e1 (hr ▸ e2)
  ·rw [hr] at e2;have := l2 g e1;cases e2;omega
 ·intro g e
  rcases h.f2 with h1 | ⟨g',h1,h2⟩
  ·exact .inr (.inr (.inl (h1 ▸ e)))
  ·rw [e] at h1;cases h1;exact .inl h2
 ·rcases hr with hr | hr
  ·rw [hr];exact h.f2
  ·exact .inr ⟨_,hr,h.tch.size⟩
theorem grown_setC (W : World) (p : Addr) (v : Value) : W.grownBy (W.setCell p v) (some p.block) := ⟨rfl,rfl,rfl,by simp [World.setCell],fun k _ hk => Below.heap_setCell W p v k (fun e => hk (by rw [e]))⟩
theorem PP.set1 {v : Value} {p : Addr} (h : PP E1 E2 bx B w0 r0 o0 W rv ov n m xs ys) (hp : w0.heap.size ≤ p.block ∨ bx p.block) (h1 : rv.ownBlock ≠ some p.block) (h2 : ov.ownBlock ≠ some p.block) : PP E1 E2 bx B w0 r0 o0 (W.setCell p v) rv ov n m xs ys :=
 ⟨h.own1.kept (grown_setC W p v) (by cases ho : rv.ownBlock with | none => exact .inl rfl | some g => exact .inr (ho ▸ h1)),
  h.own2.kept (grown_setC W p v) (by cases ho : ov.ownBlock with | none => exact .inl rfl | some g => exact .inr (ho ▸ h2)),h.dis,h.tch.set (by rcases hp with h | h;exact .inl h;exact .inr (.inr (.inr h))) v,h.f1,h.f2⟩
end
theorem rd_newU (W : World) (t : TypeId) (v : Value) : Rd (W.alloc (.cells #[v] t)) (W.heap.size + 1) 1 (some ⟨W.heap.size,0,none⟩) 1 [v] :=
 ⟨rfl,fun _ => ⟨_,_,rfl,Nat.lt_succ_self _,fun j u hu => by rw [Nat.zero_add];exact (Row.fresh W t [v]).cell hu⟩⟩
theorem rd_rowU {W : World} {g : Nat} {t : TypeId} {v : Value} (h : Row W g t [v]) : Rd W (g + 1) 1 (some ⟨g,0,none⟩) 1 [v] :=
 ⟨rfl,fun _ => ⟨_,_,rfl,Nat.lt_succ_self _,fun j u hu => by rw [Nat.zero_add];exact h.cell hu⟩⟩
theorem Tch.over {ex ex2 : Nat → Prop} {a b c : World} (h : Tch ex a b) (k : Tch ex2 b c) (hx : ∀ g,ex2 g → a.heap.size ≤ g ∨ ex g) : Tch ex a c :=
 ⟨k.os.trans h.os,k.tape.trans h.tape,k.output.trans h.output,Nat.le_trans h.size k.size,fun i hi hx' => (k.block i (by have := h.size;omega) (fun e => by
  rcases hx i e with h1 | h1
  ·omega
  ·exact hx' h1)).trans (h.block i hi hx')⟩
structure Prg (W : World) (B N : Nat) (P : List Int) (RA : Option Addr) (rc : Nat) (OA : Option Addr) (oc : Nat) (rs : List RI) : Prop where
 rd : RdM W B RA rs
 len : rs.length = P.length
 dat : ∀ r ∈ rs,FRow N r
 own : Rd W B 1 OA P.length (ivs P)
theorem Prg.below {W W' : World} {B N : Nat} {P : List Int} {RA : Option Addr} {rc : Nat} {OA : Option Addr} {oc : Nat} {rs : List RI} (h : Prg W B N P RA rc OA oc rs) (hb : Below B W W') : Prg W' B N P RA rc OA oc rs := ⟨h.rd.below hb,h.len,h.dat,h.own.below hb⟩
theorem Prg.more {W : World} {B B' N : Nat} {P : List Int} {RA : Option Addr} {rc : Nat} {OA : Option Addr} {oc : Nat} {rs : List RI} (h : Prg W B N P RA rc OA oc rs) (hB : B ≤ B') : Prg W B' N P RA rc OA oc rs := ⟨h.rd.more hB,h.len,h.dat,h.own.more hB⟩
end Go.Proofs.YtifejdpffkeniaaGreatDoor
