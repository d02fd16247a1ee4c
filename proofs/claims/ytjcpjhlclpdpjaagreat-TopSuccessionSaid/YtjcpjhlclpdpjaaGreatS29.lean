import Derived.Test.YtjcpjhlclpdpjaaGreatS28
import Derived.Test.YtjcpjhlclpdpjaaGreatS25
import Derived.Test.YtjcpjhlclpdpjaaGreatS21
set_option linter.unusedVariables false
set_option maxRecDepth 100000
set_option maxHeartbeats 16000000
namespace Go.Proofs.YtjcpjhlclpdpjaaGreat
open Go.RowKit
attribute [local go_sem] Oper.semAt_some
theorem clone0_any (w : World) : Calls Tryz.prog 85 #[.slice none 0 0] w fun x w' => x = .returned (.slice none 0 0) ∧ w = w' := by
 have he := eqlI_nil w none 0 0
 simp only [Option.isNone_none] at he
 go_enter Tryz.func85,Tryz.ntmps85
 go_wp2
 go_ret
 exact ⟨rfl,rfl⟩
theorem index0_any (bo : Nat) (w : World) : Calls Tryz.prog 112 #[.slice none 0 0,(.func (.func 86) #[] #[.pointer (some ⟨bo,0,none⟩)])] w fun x w' => x = .returned (.int .i64 (-1)) ∧ w = w' := by
 go_enter Tryz.func112,Tryz.ntmps112
 go_wp2
 refine wp_loop_rounds 1 ?_
 rw [rounds_succ]
 go_wp2
 go_ret
 exact ⟨rfl,rfl⟩
theorem delete0_any (bo : Nat) (w : World) : Calls Tryz.prog 84 #[.slice none 0 0,(.func (.func 86) #[] #[.pointer (some ⟨bo,0,none⟩)])] w fun x w' => x = .returned (.slice none 0 0) ∧ w = w' := by
 go_enter Tryz.func84,Tryz.ntmps84
 go_wp2_with (go_at_call 112;refine (index0_any _ _).mono ?_;rintro e w1 ⟨rfl,rfl⟩)
 go_ret
 exact ⟨rfl,rfl⟩
theorem without0_any (oA : Option Addr) (on oc : Nat) (w : World) : Calls Tryz.prog 52 #[.slice none 0 0,.slice oA on oc] w fun x w' => x = .returned (.slice none 0 0) ∧ Below w.heap.size w w' := by
 go_enter Tryz.func52,Tryz.ntmps52
 go_wp2_with (first | (go_at_call 85;refine (clone0_any _).mono ?_;rintro e w1 ⟨rfl,rfl⟩) | (go_at_call 84;refine (delete0_any _ _).mono ?_;rintro e w2 ⟨rfl,rfl⟩))
 go_ret
 exact ⟨rfl,(Below.refl _ _).alloc (Nat.le_refl _) _⟩
theorem isort0_any (w : World) : Calls Tryz.prog 119 #[.slice none 0 0,.int .i64 0,.int .i64 0] w fun x w' => x = .returned (.tuple #[]) ∧ w = w' := by
 go_enter Tryz.func119,Tryz.ntmps119
 go_wp2
 refine wp_loop_rounds 1 ?_
 rw [rounds_succ]
 go_wp2
 refine bodyPost_end (results_none' rfl _ _ _ rfl) rfl ?_
 exact ⟨rfl,rfl⟩
theorem pdq0_any (lim : Int) (w : World) : Calls Tryz.prog 110 #[.slice none 0 0,.int .i64 0,.int .i64 0,.int .i64 lim] w fun x w' => x = .returned (.tuple #[]) ∧ w = w' := by
 go_enter Tryz.func110,Tryz.ntmps110
 go_wp2_with fail
 refine wp_loop_rounds 1 ?_
 rw [rounds_succ]
 go_wp2_with (go_at_call 119;refine (isort0_any _).mono ?_;rintro e w1 ⟨rfl,rfl⟩)
 refine bodyPost_ret (results_none' rfl _ _ _ rfl) rfl ?_
 exact ⟨rfl,rfl⟩
theorem sort0_any (w : World) : Calls Tryz.prog 83 #[.slice none 0 0] w fun x w' => x = .returned (.tuple #[]) ∧ w = w' := by
 have HLN := Lib.hid (fun w => len_any 0 (by omega) w)
 go_enter Tryz.func83,Tryz.ntmps83
 go_wp2_with (first | (go_at_call 111;refine (HLN.out _).mono ?_;rintro e w1 ⟨⟨x,rfl⟩,rfl⟩) | (go_at_call 110;refine (pdq0_any _ _).mono ?_;rintro e w2 ⟨rfl,rfl⟩))
 refine bodyPost_end (results_none' rfl _ _ _ rfl) rfl ?_
 exact ⟨rfl,rfl⟩
theorem lcheck0_any (N : Int) (L : List Int) (WA : Option Addr) (wc : Nat) (w : World) (h : (⟨N,none,0,[]⟩ : Gt).ok w w.heap.size) (hL : Ppl L) (hw : Rd w w.heap.size 1 WA L.length (ivs L)) :
  Calls Tryz.prog 51 #[.agg #[.int .i64 (-1),.int .i64 N,.slice none 0 0],.slice WA L.length wc] w fun r w' => r = .returned (.tuple #[.agg #[.int .i64 (-1),.int .i64 N,.slice none 0 0,.slice none 0 0],.int .i64 0]) ∧ Below w.heap.size w w' := by
 obtain ⟨s,hs⟩ : ∃ s,w.heap.size = s := ⟨_,rfl⟩
 have HFC : Hid (∀ W,Below s w W → Calls Tryz.prog 45 #[.agg #[.int .i64 (-1),.int .i64 N,.slice none 0 0]] W fun r w' => r = .returned (.int .i64 0) ∧ Below W.heap.size W w') := fun W hW => fcheck_any (⟨N,none,0,[]⟩ : Gt) W ((h.below (by rw [hs];exact hW)).more (by have := hW.size;omega))
 have HCG : Hid (∀ W bm bw mb,Below s w W → MapB W mb [] → Row W bm 145 [.map (some mb)] → Row W bw 146 [(.func (.func 82) #[] #[.pointer (some ⟨bm,0,none⟩),.pointer (some ⟨bw,0,none⟩)])] → bm ≠ mb ∧ bw ≠ mb → s ≤ mb → Calls Tryz.prog 82 #[.agg #[.int .i64 (-1),.int .i64 N,.slice none 0 0],.pointer (some ⟨bm,0,none⟩),.pointer (some ⟨bw,0,none⟩)] W fun r w' => r = .returned (.tuple #[]) ∧ MapB w' mb [] ∧ Tch (fun g => g = mb) W w') := fun W bm bw mb hW q1 q2 q3 q4 q5 =>
  check1_gate (⟨N,none,0,[]⟩ : Gt) bm bw mb W ((h.below (by rw [hs];exact hW)).more (by have := hW.size;omega)) ⟨List.Pairwise.nil,fun p hp => absurd hp (by simp),fun p hp => absurd hp (by simp)⟩ q1 q2 q3 q4 (fun b o e => by cases e)
 have HWL : Hid (∀ k,k < L.length → ∃ b o p,WA = some ⟨b,o,none⟩ ∧ (∀ W,Below s w W → W.cell? ⟨b,o + k,none⟩ = some (.int .i64 p)) ∧ p < 64 ∧ lastI L k < p ∧ lastI L (k + 1) = p) := fun k hk => by
  obtain ⟨_,b,o,e1,_,hc⟩ := i64at hw hk
  obtain ⟨q1,q2,q3,_⟩ := hL.last hk
  exact ⟨b,o,L.getD k 0,e1,by rw [← hs];exact hc k hk,q3,q1,by unfold lastI;rw [if_neg (by omega)];rfl⟩
 have hm := hL.len
 obtain ⟨m,hmm⟩ : ∃ m,L.length = m := ⟨_,rfl⟩
 rw [hmm] at HWL hm ⊢
 have HS := Lib.hid hs
 clear h hL hw hs hmm
 rw [HS.out]
 go_enter Tryz.func51,Tryz.ntmps51
 go_wp2_with fail
 obtain ⟨w1,hw1⟩ : ∃ x,((w.alloc (.cells #[.int .i64 (-1),.int .i64 N,.slice none 0 0] 68)).alloc (.cells #[.int .i64 0,.int .i64 0,.slice none 0 0,.slice none 0 0] 107)) = x := ⟨_,rfl⟩
 have hb1 : Below s w w1 := by rw [← hw1];rw [← HS.out];exact ((Below.refl _ w).alloc (Nat.le_refl _) _).alloc (by simp) _
 have hr0 : Row w1 s 68 [.int .i64 (-1),.int .i64 N,.slice none 0 0] := by rw [← hw1];exact (Row.fresh' _ _ _ HS.out).alloc _
 have hr1 : Row w1 (s + 1) 107 [.int .i64 0,.int .i64 0,.slice none 0 0,.slice none 0 0] := by rw [← hw1];exact Row.fresh' _ _ _ (by simp [HS.out])
 rw [hw1,HS.out]
 clear hw1
 refine (HFC.out w1 hb1).mono ?_
 rintro x w2 ⟨rfl,hb2⟩
 have HB2 : Hid (Below s w w2) := hb1.trans (hb2.mono (by have := hr0.lt;omega))
 have hg2 := hr0.below hb2 hr0.lt
 have hs2 := hr1.below hb2 hr1.lt
 clear hr0 hr1 hb1 hb2 HFC
 have hg2m := ((hg2.alloc (.map #[] 0)).alloc (.cells #[.map (some w2.heap.size)] 145)).alloc (.cells #[(.func (.func 82) #[] #[.pointer (some ⟨w2.heap.size + 1,0,none⟩),.pointer (some ⟨w2.heap.size + 1 + 1,0,none⟩)])] 146)
 have q0 := hg2m.cell (i := 0) rfl
 have q1 := hg2m.cell (i := 1) rfl
 have q2 := hg2m.cell (i := 2) rfl
 have l0 := hg2.lt
 clear hg2m
 have HG2 := Lib.hid (And.intro hg2 hs2)
 have hmm := @run_makeMap Tryz.prog
 clear hg2 hs2
 go_wp2_with fail
 obtain ⟨z,hz⟩ : ∃ x,w2.heap.size = x := ⟨_,rfl⟩
 obtain ⟨w3,hw3⟩ : ∃ x,((w2.alloc (.map #[] 0)).alloc (.cells #[.map (some z)] 145)).alloc (.cells #[(.func (.func 82) #[] #[.pointer (some ⟨z + 1,0,none⟩),.pointer (some ⟨z + 1 + 1,0,none⟩)])] 146) = x := ⟨_,rfl⟩
 have hb3 : Below w2.heap.size w2 w3 := by rw [← hw3];exact (((Below.refl _ _).alloc (Nat.le_refl _) _).alloc (by simp) _).alloc (by simp;omega) _
 have hm3 : MapB w3 z [] := by
  rw [← hw3,← hz]
  exact ((MapB.made w2).below ((Below.refl _ _).alloc (Nat.le_refl _) _)).below ((Below.refl _ _).alloc (Nat.le_refl _) _)
 have hx1 : Row w3 (z + 1) 145 [.map (some z)] := by rw [← hw3];exact (Row.fresh' _ _ _ (by simp [hz])).alloc _
 have hx2 : Row w3 (z + 1 + 1) 146 [(.func (.func 82) #[] #[.pointer (some ⟨z + 1,0,none⟩),.pointer (some ⟨z + 1 + 1,0,none⟩)])] := by rw [← hw3];exact Row.fresh' _ _ _ (by simp [hz])
 have hz3 : w3.heap.size = z + 1 + 1 + 1 := by rw [← hw3];simp [hz]
 have hsz : s + 1 < z := by have := HG2.out.2.lt;omega
 have hB3 : Below s w w3 := HB2.out.trans (hb3.mono (by omega))
 have hg3 := HG2.out.1.below hb3 HG2.out.1.lt
 have hs3 := HG2.out.2.below hb3 HG2.out.2.lt
 rw [hz,hw3]
 clear hw3 hmm q0 q1 q2 l0
 refine (HCG.out w3 (z + 1) (z + 1 + 1) z hB3 hm3 hx1 hx2 ⟨by omega,by omega⟩ (by omega)).mono ?_
 rintro x w4 ⟨rfl,hm4,ht4⟩
 have hx4 := ht4.row hx1 (by omega)
 have hg4 := ht4.row hg3 (by omega)
 have hs4 := ht4.row hs3 (by omega)
 have hB4 : Below s w w4 := hB3.trans (ht4.below (by omega) (by intro i hi e;omega))
 have hz4 : z + 1 + 1 + 1 ≤ w4.heap.size := by have := ht4.size;omega
 have c1 := hx4.cell (i := 0) rfl
 have hmsz := hm4
 obtain ⟨D,hown,hhas,hsize⟩ := hm4
 have hlen := hown.len Tryz.underlying145
 rw [hsize] at hlen
 have n12 : ¬ (12 < ((0 : Nat) : Int)) := by omega
 have HM4 := Lib.hid (And.intro hown (And.intro hhas hsize))
 have HR4 := Lib.hid (And.intro hg4 (And.intro hs4 (And.intro hB4 hx4)))
 clear hown hhas hsize hmsz hm3 hx1 hx2 hx4 hg3 hg4 hs3 hs4 hB3 hB4 hb3 HB2 HG2 HCG ht4 hz3 hz
 go_wp2_with fail
 clear hlen c1
 go_loopw [29,8] (fun i l wr => w4 = wr ∧ ∃ k : Nat,k ≤ m ∧ i = .int .i64 k ∧ l = .int .i64 (lastI L k)) (fun i _ _ => m - (intOf i).toNat)
 case atStart => exact ⟨rfl,0,Nat.zero_le _,rfl,rfl⟩
 case round =>
  obtain ⟨rfl,k,hk,rfl,rfl⟩ := hrel
  by_cases hlt : k < m
  ·have k1 : (k : Int) < (m : Int) := by omega
   have k0 : (0 : Int) ≤ (k : Int) := by omega
   obtain ⟨b,o,p,hWA,hc,hp,hl1,hl2⟩ := HWL.out k hlt
   subst hWA
   have q0 := hc w4 HR4.out.2.2.1
   obtain ⟨X,hX⟩ : ∃ X,lastI L k = X := ⟨_,rfl⟩
   rw [hX] at hl1 ⊢
   have HL2 := Lib.hid hl2
   have nl : ¬ (p ≤ X) := by omega
   have ng : ¬ (64 ≤ p) := by omega
   clear hc hp hl2 hX
   go_wp2
   go_roundw
   case rel => exact ⟨trivial,k + 1,by omega,by go_num,by rw [HL2.out]⟩
   case measure => simp [intOf];omega
  ·obtain rfl : k = m := by omega
   clear HWL
   have p0 := HR4.out.1.cell (i := 0) rfl
   have p1 := HR4.out.1.cell (i := 1) rfl
   have p2 := HR4.out.1.cell (i := 2) rfl
   have s0 := HR4.out.2.1.cell (i := 0) rfl
   have s1 := HR4.out.2.1.cell (i := 1) rfl
   have s2 := HR4.out.2.1.cell (i := 2) rfl
   have f0 := HR4.out.2.1.fz 0
   have f1 := HR4.out.2.1.fz 1
   have f2 := HR4.out.2.1.fz 2
   have c1 := HR4.out.2.2.2.cell (i := 0) rfl
   have HM5 : Hid ((((w4.setCell ⟨s + 1,0,none⟩ (.int .i64 (-1))).setCell ⟨s + 1,1,none⟩ (.int .i64 N)).setCell ⟨s + 1,2,none⟩ (.slice none 0 0)).ownsMap Tryz.prog 3 (plainElem Tryz.prog 4) z 0 D) := ((HM4.out.1.setCell (a := ⟨s + 1,0,none⟩) (by show z ≠ s + 1;omega) _).setCell (a := ⟨s + 1,1,none⟩) (by show z ≠ s + 1;omega) _).setCell (a := ⟨s + 1,2,none⟩) (by show z ≠ s + 1;omega) _
   have HR5 : Hid (Row (((w4.setCell ⟨s + 1,0,none⟩ (.int .i64 (-1))).setCell ⟨s + 1,1,none⟩ (.int .i64 N)).setCell ⟨s + 1,2,none⟩ (.slice none 0 0)) (s + 1) 107 [.int .i64 (-1),.int .i64 N,.slice none 0 0,.slice none 0 0] ∧ Below s w (((w4.setCell ⟨s + 1,0,none⟩ (.int .i64 (-1))).setCell ⟨s + 1,1,none⟩ (.int .i64 N)).setCell ⟨s + 1,2,none⟩ (.slice none 0 0)) ∧ z + 1 + 1 + 1 ≤ (((w4.setCell ⟨s + 1,0,none⟩ (.int .i64 (-1))).setCell ⟨s + 1,1,none⟩ (.int .i64 N)).setCell ⟨s + 1,2,none⟩ (.slice none 0 0)).heap.size) := by
    refine ⟨((HR4.out.2.1.put 0 (.int .i64 (-1))).put 1 (.int .i64 N)).put 2 (.slice none 0 0),((HR4.out.2.2.1.setCell (p := ⟨s + 1,0,none⟩) (by show s ≤ s + 1;omega) _).setCell (p := ⟨s + 1,1,none⟩) (by show s ≤ s + 1;omega) _).setCell (p := ⟨s + 1,2,none⟩) (by show s ≤ s + 1;omega) _,?_⟩
    simp only [World.size_setCell]
    exact hz4
   go_wp2_with (at_range;refine wpList_range_own _ rfl _ 145 rfl 3 4 keyInt Tryz.underlying145 _ z 0 D rfl HM5.out ?_;intro w6 hrg6 hg6 hs6)
   go_frame
   clear p0 p1 p2 s0 s1 s2 f0 f1 f2 c1
   have hr6 := HR5.out.1.grown hg6 (fun e => by cases e)
   have hB6 : Below s w w6 := HR5.out.2.1.grown hg6 (by have := HR5.out.2.2;omega) (fun g e => by cases e)
   generalize (((w4.setCell ⟨s + 1,0,none⟩ (.int .i64 (-1))).setCell ⟨s + 1,1,none⟩ (.int .i64 N)).setCell ⟨s + 1,2,none⟩ (.slice none 0 0)) = w5 at hrg6 hg6 hs6 HR5 ⊢
   obtain ⟨r,hr⟩ : ∃ x,w5.heap.size = x := ⟨_,rfl⟩
   have hrz : z + 1 + 1 + 1 ≤ r := by have := HR5.out.2.2;omega
   rw [hr] at hrg6 hs6 ⊢
   have HX6 : Hid (w6.ranges Tryz.prog 3 (plainElem Tryz.prog 4) z r 0 D (Maps.has D) (Maps.size D) ∧ Row w6 (s + 1) 107 [.int .i64 (-1),.int .i64 N,.slice none 0 0,.slice none 0 0] ∧ Below s w w6 ∧ w6.heap.size = r + 1) := ⟨hrg6,hr6,hB6,hs6⟩
   clear hrg6 hr6 hB6 hg6 hs6 HR5 hr HM5
   go_loopw [48] (fun _ wr => ∃ (left : Lit → Bool) (cnt : Nat),wr.ranges Tryz.prog 3 (plainElem Tryz.prog 4) z r 0 D left cnt ∧ (∀ x : Int,left (.int .i64 x) = false) ∧ Row wr (s + 1) 107 [.int .i64 (-1),.int .i64 N,.slice none 0 0,.slice none 0 0] ∧ Below s w wr ∧ r + 1 ≤ wr.heap.size) (fun _ wr => wr.rangeLeft z r)
   case atStart =>
    refine ⟨_,_,HX6.out.1,fun x => ?_,HX6.out.2.1,HX6.out.2.2.1,Nat.le_of_eq HX6.out.2.2.2.symm⟩
    rw [HM4.out.2.1 x]
    simp
   case round =>
    clear HX6
    obtain ⟨left,cnt,hrg,hleft,hrw,hbw,hsz⟩ := hrel
    have HRG := Lib.hid hrg
    have HLF := Lib.hid hleft
    have HRW := Lib.hid (And.intro hrw hbw)
    have s0 := hrw.cell (i := 0) rfl
    have s1 := hrw.cell (i := 1) rfl
    have s2 := hrw.cell (i := 2) rfl
    have s3 := hrw.cell (i := 3) rfl
    have f0 := hrw.fz 0
    have f1 := hrw.fz 1
    have f2 := hrw.fz 2
    have f3 := hrw.fz 3
    clear hrg hleft hrw hbw
    have hFF : ∀ w' : World,wr.grownBy w' (some r) → w'.heap.size = wr.heap.size → w'.cell? ⟨s + 1,3,none⟩ = some (.slice none 0 0) ∧ w'.frozen? ⟨s + 1,3,none⟩ = false ∧ True := fun w7 hg7 hs7 => by
     have hr7 := HRW.out.1.grown hg7 (fun e => by cases e;omega)
     exact ⟨hr7.cell (i := 3) rfl,hr7.fz 3,trivial⟩
    have HFF := Lib.hid hFF
    clear hFF
    go_wp2_with (first | (at_next;refine next_people rfl _ rfl rfl HRG.out _ _ _ HFF.out (fun hc0 hl0 => ?_) (fun x c w7 cnt7 hl7 HRG7 hlt7 s3 f3 H7 hen7 => False.elim (by rw [HLF.out x] at hl7;cases hl7))) | (go_at_call 83;refine (sort0_any _).mono ?_;rintro e w8 ⟨rfl,rfl⟩))
    ·have hr9 := (((HRW.out.1.put 0 (.int .i64 (-1))).put 1 (.int .i64 N)).put 2 (.slice none 0 0)).put 3 (.slice none 0 0)
     have hb9 := (((HRW.out.2.setCell (p := ⟨s + 1,0,none⟩) (by show s ≤ s + 1;omega) (.int .i64 (-1))).setCell (p := ⟨s + 1,1,none⟩) (by show s ≤ s + 1;omega) (.int .i64 N)).setCell (p := ⟨s + 1,2,none⟩) (by show s ≤ s + 1;omega) (.slice none 0 0)).setCell (p := ⟨s + 1,3,none⟩) (by show s ≤ s + 1;omega) (.slice none 0 0)
     refine bodyPost_ret (results_agg4 rfl _ _ (s + 1) (by rfl) (hr9.cell (i := 0) rfl) (hr9.cell (i := 1) rfl) (hr9.cell (i := 2) rfl) (hr9.cell (i := 3) rfl)) rfl ?_
     exact ⟨rfl,hb9⟩
theorem subs_nil : subs [] = [[]] := by decide
theorem rd0 (w : World) (B : Nat) : Rd w B 1 none ([] : List Int).length (ivs []) := rd_nil _ _ _ _
theorem living0_any (N : Int) (L : List Int) (WA : Option Addr) (wc : Nat) (w : World) (h : (⟨N,none,0,[]⟩ : Gt).ok w w.heap.size) (hL : Ppl L) (hw : Rd w w.heap.size 1 WA L.length (ivs L)) :
  Calls Tryz.prog 28 #[.agg #[.int .i64 (-1),.int .i64 N,.slice none 0 0],.slice WA L.length wc] w fun r w' => r = .returned (.tuple #[.slice none 0 0,.bool false,.int .i64 0]) ∧ Below w.heap.size w w' := by
 obtain ⟨s,hs⟩ : ∃ s,w.heap.size = s := ⟨_,rfl⟩
 have hm64 := hL.len
 have h1N : 1 ≤ N := h.n0
 have HCK : Hid (∀ W,Below s w W → Calls Tryz.prog 51 #[.agg #[.int .i64 (-1),.int .i64 N,.slice none 0 0],.slice WA L.length wc] W fun r w' => r = .returned (.tuple #[.agg #[.int .i64 (-1),.int .i64 N,.slice none 0 0,.slice none 0 0],.int .i64 0]) ∧ Below W.heap.size W w') := fun W hW =>
  lcheck0_any N L WA wc W ((h.below (by rw [hs];exact hW)).more (by have := hW.size;omega)) hL ((hw.below (by rw [hs];exact hW)).more (by have := hW.size;omega))
 have HHO : Hid (∀ W A k c e,Below s w W → Rd W W.heap.size 1 A k (ivs e) → Ppl e → k = e.length → Calls Tryz.prog 55 #[.agg #[.int .i64 (-1),.int .i64 N,.slice none 0 0,.slice none 0 0],.slice A k c] W fun r w' => r = .returned (.bool false) ∧ Below W.heap.size W w') := fun W A k c e hW h1 h2 h3 => by
  refine (sholds_any (⟨N,none,0,[]⟩ : Gt) none 0 0 A k c e W ((h.below (by rw [hs];exact hW)).more (by have := hW.size;omega)) h1 h2 h3).mono ?_
  rintro r w' ⟨e1,e2⟩
  refine ⟨e1.trans ?_,e2⟩
  have hc : cntW e [] = 0 := by simp [cntW]
  change Ending.returned (.bool (decide (N ≤ ((cntW e [] : Nat) : Int)))) = _
  rw [hc,decide_eq_false (by omega)]
 have HRW : Hid (∀ W,Below s w W → Rd W W.heap.size 1 WA L.length (ivs L)) := fun W hW => (hw.below (by rw [hs];exact hW)).more (by have := hW.size;omega)
 have HLL := Lib.hid hL
 obtain ⟨m,hmm⟩ : ∃ m,L.length = m := ⟨_,rfl⟩
 have HMM := Lib.hid hmm
 rw [hmm] at HCK HRW hm64 ⊢
 have HS := Lib.hid hs
 have HB1 : Hid (Below s w (w.alloc (.cells #[.int .i64 (-1),.int .i64 N,.slice none 0 0] 68))) := by show Below _ _ _;rw [← hs];exact (Below.refl _ _).alloc (Nat.le_refl _) _
 clear h hL hw hs hmm
 rw [HS.out]
 go_enter Tryz.func28,Tryz.ntmps28
 go_wp2_with fail
 refine (HCK.out _ HB1.out).mono ?_
 rintro x w2 ⟨rfl,hb2⟩
 have HB2 : Hid (Below s w w2) := HB1.out.trans (hb2.mono (by have := HB1.out.size;have := HS.out;omega))
 clear hb2
 go_wp2_with fail
 obtain ⟨z,hz⟩ : ∃ x,w2.heap.size = x := ⟨_,rfl⟩
 have hsz : s ≤ z := by have := HB2.out.size;have := HS.out;omega
 obtain ⟨w3,hw3⟩ : ∃ x,w2.alloc (.cells #[.int .i64 (-1),.int .i64 N,.slice none 0 0,.slice none 0 0] 107) = x := ⟨_,rfl⟩
 have hB3 : Below s w w3 := by rw [← hw3];exact HB2.out.alloc (by omega) _
 have hr3 : Row w3 z 107 [.int .i64 (-1),.int .i64 N,.slice none 0 0,.slice none 0 0] := by rw [← hw3];exact Row.fresh' _ _ _ hz
 have H3 := Lib.hid (And.intro hB3 (And.intro hr3 hsz))
 rename_i Kz hKz
 rw [hw3,hz]
 clear hsz hB3 hr3 hw3 hz
 refine wp_region_tree (fun w' => Below w3.heap.size w3 w') (.take 0 (.take 1 (.take 2 (.take 3 (.take 4 (.one 5 (.one 6 (.take 7 .done)))))))) (by kernel_rfl) (by kernel_rfl) (by kernel_rfl) (by kernel_rfl) (fun x _ _ _ _ h => by cases x <;> exact h) ((Below.refl _ _).drew) ?_
 iterate 5 (refine wpOT_take rfl _ (by rfl) (by intro w' hS;have q3 := (H3.out.2.1.below hS H3.out.2.1.lt).cell (i := 3) rfl;go_simp;try with_reducible rfl) fun KK hKK => ?_;go_simp;refine hKK _ ?_;clear hKK KK)
 refine wpOT_one rfl (by rfl) fun KK hKK => ?_
 go_simp
 refine (without0_any _ _ _ _).mono ?_
 rintro x8 w8 ⟨rfl,hb8⟩
 have HB8 : Hid (Below w3.heap.size w3 w8) := ((Below.refl _ w3).drew).trans hb8
 refine hKK _ _ HB8.out ?_
 clear hKK KK hb8
 refine wpOT_one rfl (by rfl) fun KK hKK => ?_
 go_simp
 refine (without0_any _ _ _ _).mono ?_
 rintro x9 w9 ⟨rfl,hb9⟩
 have HB9' : Hid (Below w3.heap.size w3 w9) := HB8.out.trans (hb9.mono HB8.out.size)
 refine hKK _ _ HB9'.out ?_
 clear hKK KK hb9
 refine wpOT_take rfl _ (by rfl) (by intro w' hS;skip;go_simp;try with_reducible rfl) fun KK hKK => ?_
 go_simp
 refine hKK _ ?_
 clear hKK KK
 refine wpOT_done ?_
 show Kz _ _
 refine hKz _ _ ?_
 go_simp
 have HR9 := Lib.hid (H3.out.2.1.below HB9'.out H3.out.2.1.lt)
 have HB9 : Hid (Below s w w9) := H3.out.1.trans (HB9'.out.mono (by have := H3.out.1.size;have := HS.out;omega))
 go_wp2_with fail
 rename_i Kz2 hKz2
 refine wp_region_tree (fun w' => Below w9.heap.size w9 w') (.take 0 (.take 2 (.take 3 (.one 1 (.one 4 (.take 5 (.take 6 (.take 7 (.take 8 (.take 9 .done)))))))))) (by kernel_rfl) (by kernel_rfl) (by kernel_rfl) (by kernel_rfl) (fun x _ _ _ _ h => by cases x <;> exact h) ((Below.refl _ _).drew) ?_
 iterate 3 (refine wpOT_take rfl _ (by rfl) (by intro w' hS;have r9 := HR9.out.below hS HR9.out.lt;have q0 := r9.cell (i := 0) rfl;have q1 := r9.cell (i := 1) rfl;have q2 := r9.cell (i := 2) rfl;have q3 := r9.cell (i := 3) rfl;go_simp;try with_reducible rfl) fun KK hKK => ?_;go_simp;refine hKK _ ?_;clear hKK KK)
 refine wpOT_one rfl (by rfl) fun KK hKK => ?_
 go_simp
 refine (subsets_any _ _ _ _).mono ?_
 rintro x w10 ⟨rfl,hw10⟩
 have hb10 : Below w9.heap.size w9 w10 := by rw [← hw10];exact ((Below.refl _ _).drew).alloc (Nat.le_refl _) _
 have hsb : Row w10 w9.heap.size 23 [.slice none ([] : List Int).length 0] := by rw [← hw10];exact Row.fresh w9.drew _ _
 have hB10 : Below s w w10 := HB9.out.trans (hb10.mono (by have := HB9.out.size;have := HS.out;omega))
 have HFD := Lib.hid (first_holds (.agg #[.int .i64 (-1),.int .i64 N,.slice none 0 0,.slice none 0 0]) [] none 0 w9.heap.size (fun e => false) w10 (by simp) hsb (rd0 _ _) (fun W e A k c hW he hk hrd _ _ =>
  HHO.out W A k c e (hB10.trans (hW.mono (by have := hB10.size;have := HS.out;omega))) hrd (by rw [subs_nil,List.mem_singleton] at he;subst he;exact ⟨List.Pairwise.nil,fun p hp => absurd hp (by simp),fun p hp => absurd hp (by simp)⟩) hk))
 have HB10 := Lib.hid (And.intro hB10 hb10)
 refine hKK _ _ hb10 ?_
 clear hKK KK hsb hB10 hb10 hw10
 refine wpOT_one rfl (by rfl) fun KK hKK => ?_
 go_simp
 refine HFD.out.mono ?_
 rintro x w11 ⟨hfa,hb11⟩
 have hB11 : Below s w w11 := HB10.out.1.trans (hb11.mono (by have := HB10.out.1.size;have := HS.out;omega))
 have hb9 : Below w9.heap.size w9 w11 := HB10.out.2.trans (hb11.mono HB10.out.2.size)
 have HB11 := Lib.hid hB11
 clear HFD hB11 hb11
 rcases hfa with ⟨e,A,k,hfi,_,_,_,_⟩ | ⟨hfn,rfl⟩
 ·have := List.find?_some hfi
  cases this
 refine hKK _ _ hb9 ?_
 clear hKK KK hb9
 iterate 5 (refine wpOT_take rfl _ (by rfl) (by intro w' hS;skip;go_simp;try with_reducible rfl) fun KK hKK => ?_;go_simp;refine hKK _ ?_;clear hKK KK)
 refine wpOT_done ?_
 show Kz2 _ _
 refine hKz2 _ _ ?_
 go_simp
 go_wp2_with fail
 refine bodyPost_ret (results_tmp_3 rfl _ _) rfl ?_
 exact ⟨rfl,HB11.out⟩
theorem margin0_any (N : Int) (L : List Int) (WA : Option Addr) (wc : Nat) (w : World) (h : (⟨N,none,0,[]⟩ : Gt).ok w w.heap.size) (hL : Ppl L) (hw : Rd w w.heap.size 1 WA L.length (ivs L)) :
  Calls Tryz.prog 30 #[.agg #[.int .i64 (-1),.int .i64 N,.slice none 0 0],.slice WA L.length wc] w fun r w' => r = .returned (.tuple #[.slice none 0 0,.bool false,.int .i64 0]) ∧ Below w.heap.size w w' := by
 obtain ⟨s,hs⟩ : ∃ s,w.heap.size = s := ⟨_,rfl⟩
 have hm64 := hL.len
 have h1N : 1 ≤ N := h.n0
 have HCK : Hid (∀ W,Below s w W → Calls Tryz.prog 51 #[.agg #[.int .i64 (-1),.int .i64 N,.slice none 0 0],.slice WA L.length wc] W fun r w' => r = .returned (.tuple #[.agg #[.int .i64 (-1),.int .i64 N,.slice none 0 0,.slice none 0 0],.int .i64 0]) ∧ Below W.heap.size W w') := fun W hW =>
  lcheck0_any N L WA wc W ((h.below (by rw [hs];exact hW)).more (by have := hW.size;omega)) hL ((hw.below (by rw [hs];exact hW)).more (by have := hW.size;omega))
 have HHO : Hid (∀ W A k c e,Below s w W → Rd W W.heap.size 1 A k (ivs e) → Ppl e → k = e.length → Calls Tryz.prog 55 #[.agg #[.int .i64 (-1),.int .i64 N,.slice none 0 0,.slice none 0 0],.slice A k c] W fun r w' => r = .returned (.bool false) ∧ Below W.heap.size W w') := fun W A k c e hW h1 h2 h3 => by
  refine (sholds_any (⟨N,none,0,[]⟩ : Gt) none 0 0 A k c e W ((h.below (by rw [hs];exact hW)).more (by have := hW.size;omega)) h1 h2 h3).mono ?_
  rintro r w' ⟨e1,e2⟩
  refine ⟨e1.trans ?_,e2⟩
  have hc : cntW e [] = 0 := by simp [cntW]
  change Ending.returned (.bool (decide (N ≤ ((cntW e [] : Nat) : Int)))) = _
  rw [hc,decide_eq_false (by omega)]
 have HRW : Hid (∀ W,Below s w W → Rd W W.heap.size 1 WA L.length (ivs L)) := fun W hW => (hw.below (by rw [hs];exact hW)).more (by have := hW.size;omega)
 have HLL := Lib.hid hL
 obtain ⟨m,hmm⟩ : ∃ m,L.length = m := ⟨_,rfl⟩
 have HMM := Lib.hid hmm
 rw [hmm] at HCK HRW hm64 ⊢
 have HS := Lib.hid hs
 have HB1 : Hid (Below s w (w.alloc (.cells #[.int .i64 (-1),.int .i64 N,.slice none 0 0] 68))) := by show Below _ _ _;rw [← hs];exact (Below.refl _ _).alloc (Nat.le_refl _) _
 clear h hL hw hs hmm
 rw [HS.out]
 go_enter Tryz.func30,Tryz.ntmps30
 go_wp2_with fail
 refine (HCK.out _ HB1.out).mono ?_
 rintro x w2 ⟨rfl,hb2⟩
 have HB2 : Hid (Below s w w2) := HB1.out.trans (hb2.mono (by have := HB1.out.size;have := HS.out;omega))
 clear hb2
 go_wp2_with fail
 refine (HHO.out _ _ _ _ L (HB2.out.alloc (by have := HB2.out.size;have := HS.out;omega) _) (HRW.out _ (HB2.out.alloc (by have := HB2.out.size;have := HS.out;omega) _)) HLL.out HMM.out.symm).mono ?_
 rintro x w3 ⟨rfl,hb3⟩
 have HB3 : Hid (Below s w w3) := (HB2.out.alloc (by have := HB2.out.size;have := HS.out;omega) _).trans (hb3.mono (by have := HB2.out.size;have := HS.out;simp;omega))
 clear hb3
 go_wp2_with fail
 refine bodyPost_ret (results_tmp_3 rfl _ _) rfl ?_
 exact ⟨rfl,HB3.out⟩
end Go.Proofs.YtjcpjhlclpdpjaaGreat
namespace Go.Proofs.YtjcpjhlclpdpjaaGreat
open Go.RowKit
attribute [local go_sem] Oper.semAt_some
theorem dead10_any (N : Int) (bs : Nat) (A : Option Addr) (k c : Nat) (w : World) (h : (⟨N,none,0,[]⟩ : Gt).ok w w.heap.size) (hb : Row w bs 107 [.int .i64 (-1),.int .i64 N,.slice none 0 0,.slice none 0 0]) :
  Calls Tryz.prog 56 #[.slice A k c,.pointer (some ⟨bs,0,none⟩)] w fun x w' => x = .returned (.bool true) ∧ Below w.heap.size w w' := by
 have h1N : 1 ≤ N := h.n0
 have HSH : Hid (∀ W,Below w.heap.size w W → Calls Tryz.prog 55 #[.agg #[.int .i64 (-1),.int .i64 N,.slice none 0 0,.slice none 0 0],.slice none 0 0] W fun r w' => r = .returned (.bool false) ∧ Below W.heap.size W w') := fun W hW => by
  refine (sholds_any (⟨N,none,0,[]⟩ : Gt) none 0 0 none 0 0 [] W ((h.below hW).more hW.size) (rd0 _ _) ⟨List.Pairwise.nil,fun p hp => absurd hp (by simp),fun p hp => absurd hp (by simp)⟩ rfl).mono ?_
  rintro r w' ⟨e1,e2⟩
  refine ⟨e1.trans ?_,e2⟩
  have hc : cntW [] [] = 0 := by simp [cntW]
  change Ending.returned (.bool (decide (N ≤ ((cntW [] [] : Nat) : Int)))) = _
  rw [hc,decide_eq_false (by omega)]
 have HRB : Hid (∀ w',Below w.heap.size w w' → Row w' bs 107 [.int .i64 (-1),.int .i64 N,.slice none 0 0,.slice none 0 0]) := fun w' hS => hb.below hS hb.lt
 clear h hb
 go_enter Tryz.func56,Tryz.ntmps56
 go_wp2_with fail
 rename_i Kz hKz
 refine wp_region_tree (fun w' => Below w.heap.size w w') (.take 0 (.take 1 (.take 2 (.take 3 (.one 4 (.one 5 (.take 6 (.take 7 .done)))))))) (by kernel_rfl) (by kernel_rfl) (by kernel_rfl) (by kernel_rfl) (fun x _ _ _ _ h => by cases x <;> exact h) ((Below.refl _ _).drew) ?_
 iterate 4 (refine wpOT_take rfl _ (by rfl) (by intro w' hS;have q0 := (HRB.out w' hS).cell (i := 0) rfl;have q1 := (HRB.out w' hS).cell (i := 1) rfl;have q2 := (HRB.out w' hS).cell (i := 2) rfl;have q3 := (HRB.out w' hS).cell (i := 3) rfl;go_simp;try with_reducible rfl) fun KK hKK => ?_;go_simp;refine hKK _ ?_;clear hKK KK)
 refine wpOT_one rfl (by rfl) fun KK hKK => ?_
 go_simp
 refine (without0_any _ _ _ _).mono ?_
 rintro x8 w8 ⟨rfl,hb8⟩
 have HB8 : Hid (Below w.heap.size w w8) := ((Below.refl _ w).drew).trans hb8
 refine hKK _ _ HB8.out ?_
 clear hKK KK hb8
 refine wpOT_one rfl (by rfl) fun KK hKK => ?_
 go_simp
 refine (HSH.out w8 HB8.out).mono ?_
 rintro x9 w9 ⟨rfl,hb9⟩
 have HB9 : Hid (Below w.heap.size w w9) := HB8.out.trans (hb9.mono HB8.out.size)
 refine hKK _ _ HB9.out ?_
 clear hKK KK hb9
 iterate 2 (refine wpOT_take rfl _ (by rfl) (by intro w' hS;skip;go_simp;try with_reducible rfl) fun KK hKK => ?_;go_simp;refine hKK _ ?_;clear hKK KK)
 refine wpOT_done ?_
 show Kz _ _
 refine hKz _ _ ?_
 go_simp
 go_wp2
 go_ret
 exact ⟨rfl,HB9.out⟩
theorem dead0_any (N : Int) (L : List Int) (WA : Option Addr) (wc : Nat) (w : World) (h : (⟨N,none,0,[]⟩ : Gt).ok w w.heap.size) (hL : Ppl L) (hw : Rd w w.heap.size 1 WA L.length (ivs L)) :
  Calls Tryz.prog 29 #[.agg #[.int .i64 (-1),.int .i64 N,.slice none 0 0],.slice WA L.length wc] w fun r w' => (∃ A k,r = .returned (.tuple #[.slice A 0 k,.bool true,.int .i64 0])) ∧ Below w.heap.size w w' := by
 have HGK : Hid (∀ W,Below w.heap.size w W → (⟨N,none,0,[]⟩ : Gt).ok W W.heap.size) := fun W hW => (h.below hW).more hW.size
 obtain ⟨s,hs⟩ : ∃ s,w.heap.size = s := ⟨_,rfl⟩
 have hm64 := hL.len
 have h1N : 1 ≤ N := h.n0
 have HCK : Hid (∀ W,Below s w W → Calls Tryz.prog 51 #[.agg #[.int .i64 (-1),.int .i64 N,.slice none 0 0],.slice WA L.length wc] W fun r w' => r = .returned (.tuple #[.agg #[.int .i64 (-1),.int .i64 N,.slice none 0 0,.slice none 0 0],.int .i64 0]) ∧ Below W.heap.size W w') := fun W hW =>
  lcheck0_any N L WA wc W ((h.below (by rw [hs];exact hW)).more (by have := hW.size;omega)) hL ((hw.below (by rw [hs];exact hW)).more (by have := hW.size;omega))
 have HHO : Hid (∀ W A k c e,Below s w W → Rd W W.heap.size 1 A k (ivs e) → Ppl e → k = e.length → Calls Tryz.prog 55 #[.agg #[.int .i64 (-1),.int .i64 N,.slice none 0 0,.slice none 0 0],.slice A k c] W fun r w' => r = .returned (.bool false) ∧ Below W.heap.size W w') := fun W A k c e hW h1 h2 h3 => by
  refine (sholds_any (⟨N,none,0,[]⟩ : Gt) none 0 0 A k c e W ((h.below (by rw [hs];exact hW)).more (by have := hW.size;omega)) h1 h2 h3).mono ?_
  rintro r w' ⟨e1,e2⟩
  refine ⟨e1.trans ?_,e2⟩
  have hc : cntW e [] = 0 := by simp [cntW]
  change Ending.returned (.bool (decide (N ≤ ((cntW e [] : Nat) : Int)))) = _
  rw [hc,decide_eq_false (by omega)]
 have HRW : Hid (∀ W,Below s w W → Rd W W.heap.size 1 WA L.length (ivs L)) := fun W hW => (hw.below (by rw [hs];exact hW)).more (by have := hW.size;omega)
 have HLL := Lib.hid hL
 obtain ⟨m,hmm⟩ : ∃ m,L.length = m := ⟨_,rfl⟩
 have HMM := Lib.hid hmm
 rw [hmm] at HCK HRW hm64 ⊢
 have HS := Lib.hid hs
 have HB1 : Hid (Below s w (w.alloc (.cells #[.int .i64 (-1),.int .i64 N,.slice none 0 0] 68))) := by show Below _ _ _;rw [← hs];exact (Below.refl _ _).alloc (Nat.le_refl _) _
 clear h hL hw hs hmm
 rw [HS.out]
 rw [HS.out] at HGK
 go_enter Tryz.func29,Tryz.ntmps29
 go_wp2_with fail
 refine (HCK.out _ HB1.out).mono ?_
 rintro x w2 ⟨rfl,hb2⟩
 have HB2 : Hid (Below s w w2) := HB1.out.trans (hb2.mono (by have := HB1.out.size;have := HS.out;omega))
 clear hb2
 obtain ⟨z,hz⟩ : ∃ x,w2.heap.size = x := ⟨_,rfl⟩
 have hsz : s ≤ z := by have := HB2.out.size;have := HS.out;omega
 obtain ⟨w3,hw3⟩ : ∃ x,w2.alloc (.cells #[.int .i64 (-1),.int .i64 N,.slice none 0 0,.slice none 0 0] 107) = x := ⟨_,rfl⟩
 have hB3 : Below s w w3 := by rw [← hw3];exact HB2.out.alloc (by omega) _
 have hr3 : Row w3 z 107 [.int .i64 (-1),.int .i64 N,.slice none 0 0,.slice none 0 0] := by rw [← hw3];exact Row.fresh' _ _ _ hz
 have H3 := Lib.hid (And.intro hB3 (And.intro hr3 hsz))
 have HW3 := Lib.hid hw3
 have HZ := Lib.hid hz
 clear hsz hB3 hr3 hw3 hz
 go_wp2_with fail
 rw [HW3.out,HZ.out]
 refine (HHO.out _ _ _ _ L H3.out.1 (HRW.out _ H3.out.1) HLL.out HMM.out.symm).mono ?_
 rintro x w4 ⟨rfl,hb4⟩
 have hB4 := H3.out.1.trans (hb4.mono (by have := H3.out.2.1.lt;have := H3.out.2.2;omega))
 have hr4 := H3.out.2.1.below hb4 H3.out.2.1.lt
 have c3 := hr4.cell (i := 3) rfl
 have H4 := Lib.hid (And.intro hB4 hr4)
 clear hb4 hB4 hr4
 go_wp2_with (go_at_call 52;refine (without0_any _ _ _ _).mono ?_;rintro x w5 ⟨rfl,hb5⟩;have hB5 : Below s w w5 := H4.out.1.trans (hb5.mono (by have := H4.out.1.size;have := HS.out;omega));have hr5 := H4.out.2.below hb5 H4.out.2.lt;have H5 := Lib.hid (And.intro hB5 hr5);clear hb5 hB5 hr5 c3)
 refine (subsets_any _ _ _ _).mono ?_
 rintro e w6 ⟨rfl,hw6⟩
 have hb6 : Below w5.heap.size w5 w6 := by rw [← hw6];exact (Below.refl _ _).alloc (Nat.le_refl _) _
 have hB6 : Below s w w6 := H5.out.1.trans (hb6.mono (by have := H5.out.1.size;have := HS.out;omega))
 have hsb : Row w6 w5.heap.size 23 [.slice none ([] : List Int).length 0] := by rw [← hw6];exact Row.fresh _ _ _
 have hr6 := H5.out.2.below hb6 H5.out.2.lt
 have HFD := Lib.hid (first_dead z [] none 0 w5.heap.size (fun e => true) w6 (by simp) hsb (rd0 _ _) (fun W e A k c hW he hk hrd _ _ =>
  dead10_any N z A k c W (HGK.out W (hB6.trans (hW.mono (by have := hB6.size;have := HS.out;omega)))) (hr6.below hW hr6.lt)))
 have HB6 := Lib.hid hB6
 clear hb6 hB6 hsb hr6 hw6
 go_wp2_with fail
 refine HFD.out.mono ?_
 rintro x w7 ⟨hfa,hb7⟩
 have HB7 : Hid (Below s w w7) := HB6.out.trans (hb7.mono (by have := HB6.out.size;have := HS.out;omega))
 rcases hfa with ⟨e,A,k,hfi,rfl,hrd,hk1,hk2⟩ | ⟨hfn,rfl⟩
 ·have he := List.mem_of_find?_eq_some hfi
  rw [subs_nil,List.mem_singleton] at he
  subst he
  clear hfi hrd hk1 hk2 hb7 HFD
  go_wp2_with fail
  refine bodyPost_ret (results_tmp_3 rfl _ _) rfl ?_
  exact ⟨⟨A,k,rfl⟩,HB7.out⟩
 ·exfalso
  rw [subs_nil] at hfn
  simp at hfn
theorem make0_any (N : Nat) (w : World) (h : (⟨(N : Int),none,0,[]⟩ : Gt).ok w w.heap.size) :
  Calls Tryz.prog 25 #[.agg #[.int .i64 (-1),.int .i64 (N : Int),.slice none 0 0]] w fun r w' => ∃ RA rc OA oc,r = .returned (.tuple #[.agg #[.slice RA 0 rc,.slice OA 0 oc],.int .i64 0]) ∧ Below w.heap.size w w' := by
 obtain ⟨s,hs⟩ : ∃ s,w.heap.size = s := ⟨_,rfl⟩
 have HFC : Hid (∀ W,Below s w W → Calls Tryz.prog 45 #[(.agg #[.int .i64 (-1),.int .i64 (N : Int),.slice none 0 0])] W fun r w' => r = .returned (.int .i64 0) ∧ Below W.heap.size W w') := fun W hW => fcheck_any (⟨(N : Int),none,0,[]⟩ : Gt) W ((h.below (by rw [hs];exact hW)).more (by have := hW.size;omega))
 have HTG : Hid (∀ W bp bc bt vb,Below s w W → Row W bp 71 [.slice none 0 0,.slice none 0 0] → Row W bc 3 [.int .i64 1] → Row W bt 97 [.func (.func 46) #[] #[.pointer (some ⟨bp,0,none⟩),.pointer (some ⟨bc,0,none⟩),.pointer (some ⟨bt,0,none⟩)]] → Row W vb 3 [.int .i64 1] → bp ≠ bc ∧ bp ≠ bt ∧ bp ≠ vb ∧ bc ≠ bt ∧ bc ≠ vb → s ≤ bp → s ≤ bc → Calls Tryz.prog 46 #[(.agg #[.int .i64 (-1),.int .i64 (N : Int),.slice none 0 0]),.slice (some ⟨vb,0,none⟩) 1 1,.pointer (some ⟨bp,0,none⟩),.pointer (some ⟨bc,0,none⟩),.pointer (some ⟨bt,0,none⟩)] W fun r w' => r = .returned (.bool true) ∧ ∃ rA rc oA oc gs,TT W.heap.size bp N ([] : List Int) w' ([] : List Int).length rA rc oA oc gs ∧ Row w' bc 3 [.int .i64 (N : Int)] ∧ Tch (fun k => k = bp ∨ k = bc) W w') := fun W bp bc bt vb hW q1 q2 q3 q4 q5 q6 q7 =>
  treat_gate (⟨(N : Int),none,0,[]⟩ : Gt) N bp bc bt vb W ((h.below (by rw [hs];exact hW)).more (by have := hW.size;omega)) rfl q1 q2 q3 q4 q5 (fun b o e => by cases e)
 rw [hs]
 have HS := Lib.hid hs
 have HR0 : Hid (Below s w ((w.alloc (.cells #[.int .i64 (-1),.int .i64 (N : Int),.slice none 0 0] 68)).alloc (.cells #[.slice none 0 0,.slice none 0 0] 71)) ∧ Row ((w.alloc (.cells #[.int .i64 (-1),.int .i64 (N : Int),.slice none 0 0] 68)).alloc (.cells #[.slice none 0 0,.slice none 0 0] 71)) s 68 [.int .i64 (-1),.int .i64 (N : Int),.slice none 0 0] ∧ Row ((w.alloc (.cells #[.int .i64 (-1),.int .i64 (N : Int),.slice none 0 0] 68)).alloc (.cells #[.slice none 0 0,.slice none 0 0] 71)) (s + 1) 71 [.slice none 0 0,.slice none 0 0]) :=
  ⟨by rw [← hs];exact ((Below.refl _ w).alloc (Nat.le_refl _) _).alloc (by simp) _,(Row.fresh' _ _ _ hs).alloc _,Row.fresh' _ _ _ (by simp [hs])⟩
 clear hs h
 go_enter Tryz.func25,Tryz.ntmps25
 go_wp2_with fail
 rw [HS.out]
 generalize ((w.alloc (.cells #[.int .i64 (-1),.int .i64 (N : Int),.slice none 0 0] 68)).alloc (.cells #[.slice none 0 0,.slice none 0 0] 71)) = w1 at HR0 ⊢
 refine (HFC.out w1 HR0.out.1).mono ?_
 rintro x w2 ⟨rfl,hb2⟩
 obtain ⟨r1,r2,r3⟩ := HR0.out
 have HB2 : Hid (Below s w w2) := r1.trans (hb2.mono (by have := r2.lt;omega))
 have hg2 := r2.below hb2 r2.lt
 have hp2 := r3.below hb2 r3.lt
 clear r1 r2 r3 HR0 hb2
 have q0 := hg2.cell (i := 0) rfl
 have q1 := hg2.cell (i := 1) rfl
 have q2 := hg2.cell (i := 2) rfl
 have l0 := hg2.lt
 have HGP := Lib.hid (And.intro hg2 hp2)
 clear hg2 hp2
 go_wp2_with fail
 obtain ⟨z,hz⟩ : ∃ x,w2.heap.size = x := ⟨_,rfl⟩
 obtain ⟨w3,hw3⟩ : ∃ x,((w2.alloc (.cells #[.int .i64 1] 3)).alloc (.cells #[(.func (.func 46) #[] #[.pointer (some ⟨s + 1,0,none⟩),.pointer (some ⟨z,0,none⟩),.pointer (some ⟨z + 1,0,none⟩)])] 97)).alloc (.cells #[.int .i64 1] 3) = x := ⟨_,rfl⟩
 have hb3 : Below w2.heap.size w2 w3 := by rw [← hw3];exact (((Below.refl _ _).alloc (Nat.le_refl _) _).alloc (by simp) _).alloc (by simp;omega) _
 have hr0 : Row w3 z 3 [.int .i64 1] := by rw [← hw3];exact ((Row.fresh' _ _ _ hz).alloc _).alloc _
 have hr1 : Row w3 (z + 1) 97 [(.func (.func 46) #[] #[.pointer (some ⟨s + 1,0,none⟩),.pointer (some ⟨z,0,none⟩),.pointer (some ⟨z + 1,0,none⟩)])] := by rw [← hw3];exact (Row.fresh' _ _ _ (by simp [hz])).alloc _
 have hr2 : Row w3 (z + 1 + 1) 3 [.int .i64 1] := by rw [← hw3];exact Row.fresh' _ _ _ (by simp [hz])
 have hz3 : w3.heap.size = z + 1 + 1 + 1 := by rw [← hw3];simp [hz]
 have hp3 := HGP.out.2.below hb3 HGP.out.2.lt
 have hsz : s + 1 < z := by have := HGP.out.2.lt;omega
 have hB3 : Below s w w3 := HB2.out.trans (hb3.mono (by omega))
 rw [hz,hw3]
 clear hw3 q0 q1 q2
 refine (HTG.out w3 (s + 1) z (z + 1) (z + 1 + 1) hB3 hp3 hr0 hr1 hr2 (by omega) (by omega) (by omega)).mono ?_
 rintro x w4 ⟨rfl,rA,rc,oA,oc,gs,hTT,hcol,htch⟩
 rw [hz3] at hTT
 have hB4 : Below s w w4 := hB3.trans (htch.below (by omega) (by rintro i hi (e | e) <;> omega))
 have hbox : Row w4 (s + 1) 71 [.slice rA 0 rc,.slice oA 0 oc] := hTT.box
 have c0 := hbox.cell (i := 0) rfl
 have c1 := hbox.cell (i := 1) rfl
 have f0 := hbox.fz 0
 have f1 := hbox.fz 1
 have HTT := Lib.hid hbox
 have HB4 := Lib.hid hB4
 clear hTT hcol htch hB3 hB4 hp3 hr0 hr1 hr2 hb3 HTG HFC HGP HB2 hz hz3 l0 hbox
 go_wp2_with fail
 refine wp_loop_rounds 1 ?_
 rw [rounds_succ]
 go_wp2_with fail
 have hB1 := (HB4.out.setCell (p := ⟨s + 1,0,none⟩) (by show s ≤ s + 1;omega) (.slice rA 0 rc)).setCell (p := ⟨s + 1,1,none⟩) (by show s ≤ s + 1;omega) (.slice oA 0 oc)
 have hR1 := (HTT.out.put 0 (.slice rA 0 rc)).put 1 (.slice oA 0 oc)
 generalize ((w4.setCell ⟨s + 1,0,none⟩ (.slice rA 0 rc)).setCell ⟨s + 1,1,none⟩ (.slice oA 0 oc)) = wf at hB1 hR1 ⊢
 clear c0 c1 f0 f1
 have p0 := hR1.cell (i := 0) rfl
 have p1 := hR1.cell (i := 1) rfl
 refine bodyPost_ret (results_agg_tmp rfl _ _ (s + 1) (by rfl) p0 p1) rfl ?_
 exact ⟨rA,rc,oA,oc,rfl,hB1⟩
end Go.Proofs.YtjcpjhlclpdpjaaGreat
namespace Go.Proofs.YtjcpjhlclpdpjaaGreat
open Go.RowKit
attribute [local go_sem] Oper.semAt_some
def selR (rs : List RI) (P L : List Int) : List RI := (sel P L P.length).map fun i => rs.getD i r0
def selX (P L : List Int) : List Int := (sel P L P.length).map fun i : Nat => ((i + 1 : Nat) : Int)
theorem sel_lt {P L : List Int} {n i : Nat} (h : i ∈ sel P L n) : i < n := by
 have := (List.mem_filter.1 h).1
 simpa using this
theorem sel_inc (P L : List Int) (n : Nat) : (sel P L n).Pairwise (· < ·) := by
 unfold sel
 exact List.Pairwise.filter _ List.pairwise_lt_range
section
variable {W : World} {B B' N : Nat} {rs : List RI} {P L : List Int} {rA : Option Addr} {rc : Nat} {oA : Option Addr} {oc tb : Nat} {RA : Option Addr} {rc' : Nat} {OA : Option Addr} {oc' : Nat}
theorem selR_len : (selR rs P L).length = (sel P L P.length).length := by simp [selR]
theorem selR_mem (hp : Prg W B' N P RA rc' OA oc' rs) {r : RI} (hr : r ∈ selR rs P L) : r ∈ rs := by
 obtain ⟨i,hi,rfl⟩ := List.mem_map.1 hr
 exact (getD_mem' (by rw [hp.len];exact sel_lt hi)).1
theorem QA.rdm (h : QA W B rs P L N rA rc oA oc tb) (hp : Prg W B' N P RA rc' OA oc' rs) (hB : B' ≤ W.heap.size) : RdM W W.heap.size rA (selR rs P L) := by
 refine ⟨?_,fun r hr => (hp.rd.rows r (selR_mem hp hr)).more hB⟩
 rw [selR_len,show (selR rs P L).map RI.cell = (sel P L P.length).map fun i => (rs.getD i r0).cell by simp [selR]]
 exact Rd.of_own h.own1
theorem selR_at (hp : Prg W B' N P RA rc' OA oc' rs) {k : Nat} (hk : k < (sel P L P.length).length) {j : Nat} (hj : j < N) : ((selR rs P L).getD k r0).d.getD j 0 = Gs.pwr ((selX P L).getD k 0) j := by
 have h1 : (selR rs P L).getD k r0 = rs.getD ((sel P L P.length)[k]) r0 := by
  unfold selR
  rw [List.getD_eq_getElem?_getD,List.getElem?_map,List.getElem?_eq_getElem hk];rfl
 have h2 : (selX P L).getD k 0 = (((sel P L P.length)[k] + 1 : Nat) : Int) := by
  unfold selX
  rw [List.getD_eq_getElem?_getD,List.getElem?_map,List.getElem?_eq_getElem hk];rfl
 rw [h1,h2,hp.dat _ (sel_lt (List.getElem_mem hk)),prow_get hj]
end
theorem selX_rng {P L : List Int} (hn : P.length ≤ 64) {x : Int} (hx : x ∈ selX P L) : 1 ≤ x ∧ x < 1000 := by
 obtain ⟨i,hi,rfl⟩ := List.mem_map.1 hx
 have := sel_lt hi
 omega
theorem selX_ne {P L : List Int} {i k : Nat} (hi : i < (sel P L P.length).length) (hk : k < (sel P L P.length).length) (h : i ≠ k) : (selX P L).getD i 0 ≠ (selX P L).getD k 0 := by
 have e : ∀ {k : Nat},(hk : k < (sel P L P.length).length) → (selX P L).getD k 0 = (((sel P L P.length)[k] + 1 : Nat) : Int) := fun {k} hk => by
  unfold selX
  rw [List.getD_eq_getElem?_getD,List.getElem?_map,List.getElem?_eq_getElem hk];rfl
 rw [e hi,e hk]
 have hp := List.pairwise_iff_getElem.1 (sel_inc P L P.length)
 rcases Nat.lt_or_gt_of_ne h with h1 | h1
 ·have := hp i k hi hk h1;omega
 ·have := hp k i hk hi h1;omega
theorem tgt_ok {W : World} {tb N : Nat} (h : Row W tb 3 (ivs (1 :: List.replicate (N - 1) 0))) (hN : 1 ≤ N) (hN2 : N ≤ 4096) : (⟨some ⟨tb,0,none⟩,N,1 :: List.replicate (N - 1) 0⟩ : RI).ok W W.heap.size ∧ FRow N ⟨some ⟨tb,0,none⟩,N,1 :: List.replicate (N - 1) 0⟩ := by
 have hl : (1 :: List.replicate (N - 1) (0 : Int)).length = N := by simp;omega
 refine ⟨⟨⟨by simp,fun _ => ⟨tb,0,rfl,h.lt,fun j u hu => by rw [Nat.zero_add];exact h.cell hu⟩⟩,by show (1 :: List.replicate (N - 1) (0 : Int)).length ≤ N ∧ N ≤ maxLen;rw [hl];exact ⟨Nat.le_refl _,by unfold maxLen;omega⟩⟩,hl,fun x hx => ?_,fun x hx => ?_⟩
 ·rcases List.mem_cons.1 hx with rfl | hx
  ·decide
  ·rw [(List.mem_replicate.1 hx).2];decide
 ·rcases List.mem_cons.1 hx with rfl | hx
  ·decide
  ·rw [(List.mem_replicate.1 hx).2];decide
theorem tgt_e0 {N j : Nat} (hj : j < N) : (1 :: List.replicate (N - 1) (0 : Int)).getD j 0 = Gs.e0 j := by
 unfold Gs.e0
 cases j with
 | zero => rfl
 | succ j =>
  rw [if_neg (by omega),List.getD_cons_succ,List.getD_eq_getElem?_getD,List.getElem?_replicate,if_pos (by omega)];rfl
theorem refuses_any (N : Nat) (P L : List Int) (RA : Option Addr) (rc : Nat) (OA : Option Addr) (oc : Nat) (rs : List RI) (WA : Option Addr) (wc : Nat) (w : World) (h : Prg w w.heap.size N P RA rc OA oc rs) (h0 : 0 < P.length) (hP : ∀ p ∈ P,0 ≤ p ∧ p < 64) (hN0 : 1 ≤ N) (hN : N ≤ 60) (hn : P.length ≤ 60)
  (hL : Ppl L) (hw : Rd w w.heap.size 1 WA L.length (ivs L)) (hs : (sel P L P.length).length < N) :
  Calls Tryz.prog 27 #[.agg #[.slice RA P.length rc,.slice OA P.length oc],.slice WA L.length wc] w fun r w' => ∃ v,r = .returned (.tuple #[v,.bool true,.int .i64 0]) ∧ Below w.heap.size w w' := by
 have HQ : Hid (Calls Tryz.prog 49 #[.agg #[.slice RA P.length rc,.slice OA P.length oc],.slice WA L.length wc] (w.alloc (.cells #[.slice RA P.length rc,.slice OA P.length oc] 71)) fun r w' => ∃ qA qc aA ac tb,r = .returned (.tuple #[.slice qA (sel P L P.length).length qc,.slice aA (sel P L P.length).length ac,.slice (some ⟨tb,0,none⟩) N N,.int .i64 0]) ∧ QA w' (w.alloc (.cells #[.slice RA P.length rc,.slice OA P.length oc] 71)).heap.size rs P L N qA qc aA ac tb ∧ Below (w.alloc (.cells #[.slice RA P.length rc,.slice OA P.length oc] 71)).heap.size (w.alloc (.cells #[.slice RA P.length rc,.slice OA P.length oc] 71)) w') :=
  question_any N P L RA rc OA oc rs WA wc _ ((h.below ((Below.refl _ _).alloc (Nat.le_refl _) _)).more (by simp)) h0 hP hN0 (by omega) (by omega) hL ((hw.below ((Below.refl _ _).alloc (Nat.le_refl _) _)).more (by simp))
 have HSE : Hid (∀ W qA qc aA ac tb B,QA W B rs P L N qA qc aA ac tb → Below w.heap.size w W → Calls Tryz.prog 50 #[.slice qA (sel P L P.length).length qc,.slice (some ⟨tb,0,none⟩) N N] W fun x w' => ∃ v,x = .returned (.tuple #[v,.bool true,.int .i64 0]) ∧ Below W.heap.size W w') := fun W qA qc aA ac tb B hq hb => by
  have hp := h.below hb
  obtain ⟨t1,t2⟩ := tgt_ok hq.tgt hN0 (by omega)
  have hl := selR_len (rs := rs) (P := P) (L := L)
  have := separate_any N qA qc (selR rs P L) ⟨some ⟨tb,0,none⟩,N,1 :: List.replicate (N - 1) 0⟩ W (hq.rdm hp hb.size) (fun r hr => hp.frow r (selR_mem hp hr)) t1 t2 (by omega) hN (by rw [hl];omega) (fun j hj => tgt_e0 hj) (by
   obtain ⟨z,hz1,hz2⟩ := Gs.pwr_sep (selX P L) N (by rw [selX,List.length_map];exact hs) (fun x hx => selX_rng (by omega) hx)
   refine ⟨z,fun i hi => ?_,hz2⟩
   rw [hl] at hi
   have hm : (selX P L).getD i 0 ∈ selX P L := by
    rw [List.getD_eq_getElem?_getD,List.getElem?_eq_getElem (by rw [selX,List.length_map];exact hi)]
    exact List.getElem_mem _
   have h1 := hz1 _ hm
   rw [show Gs.dot N (rowM (selR rs P L) i) z = Gs.dot N (Gs.pwr ((selX P L).getD i 0)) z from Gs.sm_eq fun j hj => by show (((selR rs P L).getD i r0).d.getD j 0) * _ = _;rw [selR_at hp hi hj]]
   exact h1)
  rw [hl,RI.cell_eq,t2.len] at this
  exact this
 have HB1 : Hid (Below w.heap.size w (w.alloc (.cells #[.slice RA P.length rc,.slice OA P.length oc] 71))) := (Below.refl _ _).alloc (Nat.le_refl _) _
 obtain ⟨n,hnn⟩ : ∃ n,P.length = n := ⟨_,rfl⟩
 obtain ⟨m,hmm⟩ : ∃ m,L.length = m := ⟨_,rfl⟩
 obtain ⟨j,hj⟩ : ∃ j,(sel P L P.length).length = j := ⟨_,rfl⟩
 rw [hj] at HQ HSE
 rw [hnn] at HQ HB1 ⊢
 rw [hmm] at HQ ⊢
 clear h h0 hP hL hw hs hj hnn hmm hn
 go_enter Tryz.func27,Tryz.ntmps27
 go_wp2_with fail
 refine HQ.out.mono ?_
 rintro x w2 ⟨qA,qc,aA,ac,tb,rfl,hqa,hb2⟩
 have HB2 : Hid (Below w.heap.size w w2) := HB1.out.trans (hb2.mono HB1.out.size)
 have HS2 := Lib.hid (HSE.out w2 qA qc aA ac tb _ hqa HB2.out)
 clear hqa hb2 HSE HQ HB1
 go_wp2_with fail
 refine HS2.out.mono ?_
 rintro x w3 ⟨v,rfl,hb3⟩
 have HB3 : Hid (Below w.heap.size w w3) := HB2.out.trans (hb3.mono HB2.out.size)
 clear hb3
 go_wp2_with fail
 refine bodyPost_ret (results_tmp_3 rfl _ _) rfl ?_
 exact ⟨v,rfl,HB3.out⟩
theorem accepts_prog (N : Nat) (P L : List Int) (RA : Option Addr) (rc : Nat) (OA : Option Addr) (oc : Nat) (rs : List RI) (WA : Option Addr) (wc : Nat) (w : World) (h : Prg w w.heap.size N P RA rc OA oc rs) (h0 : 0 < P.length) (hP : ∀ p ∈ P,0 ≤ p ∧ p < 64) (hN0 : 1 ≤ N) (hN : N ≤ 60) (hn : P.length ≤ 60)
  (hL : Ppl L) (hw : Rd w w.heap.size 1 WA L.length (ivs L)) (hs : (sel P L P.length).length = N) :
  Calls Tryz.prog 31 #[.agg #[.slice RA P.length rc,.slice OA P.length oc],.slice WA L.length wc] w fun r w' => ∃ yb,r = .returned (.tuple #[.slice (some ⟨yb,0,none⟩) P.length P.length,.bool true,.int .i64 0]) ∧ Below w.heap.size w w' := by
 have HQ : Hid (Calls Tryz.prog 49 #[.agg #[.slice RA P.length rc,.slice OA P.length oc],.slice WA L.length wc] (w.alloc (.cells #[.slice RA P.length rc,.slice OA P.length oc] 71)) fun r w' => ∃ qA qc aA ac tb,r = .returned (.tuple #[.slice qA (sel P L P.length).length qc,.slice aA (sel P L P.length).length ac,.slice (some ⟨tb,0,none⟩) N N,.int .i64 0]) ∧ QA w' (w.alloc (.cells #[.slice RA P.length rc,.slice OA P.length oc] 71)).heap.size rs P L N qA qc aA ac tb ∧ Below (w.alloc (.cells #[.slice RA P.length rc,.slice OA P.length oc] 71)).heap.size (w.alloc (.cells #[.slice RA P.length rc,.slice OA P.length oc] 71)) w') :=
  question_any N P L RA rc OA oc rs WA wc _ ((h.below ((Below.refl _ _).alloc (Nat.le_refl _) _)).more (by simp)) h0 hP hN0 (by omega) (by omega) hL ((hw.below ((Below.refl _ _).alloc (Nat.le_refl _) _)).more (by simp))
 have HSE : Hid (∀ W qA qc aA ac tb B,QA W B rs P L N qA qc aA ac tb → Below w.heap.size w W → Calls Tryz.prog 58 #[.slice qA (sel P L P.length).length qc,.slice (some ⟨tb,0,none⟩) N N] W fun x w' => ∃ yb ys,x = .returned (.tuple #[.slice (some ⟨yb,0,none⟩) N N,.bool true,.int .i64 0]) ∧ ys.length = N ∧ Row w' yb 3 (ivs ys) ∧ W.heap.size ≤ yb ∧ Below W.heap.size W w') := fun W qA qc aA ac tb B hq hb => by
  have hp := h.below hb
  obtain ⟨t1,t2⟩ := tgt_ok hq.tgt hN0 (by omega)
  have hl := selR_len (rs := rs) (P := P) (L := L)
  have := combine_any N qA qc (selR rs P L) ⟨some ⟨tb,0,none⟩,N,1 :: List.replicate (N - 1) 0⟩ W (hq.rdm hp hb.size) (fun r hr => hp.frow r (selR_mem hp hr)) t1 t2 (by omega) hN (by rw [hl];exact hs) (fun z hz hk => by
   refine Gs.pwr_free (selX P L) N (by rw [selX,List.length_map];exact hs) (fun x hx => selX_rng (by omega) hx) (fun i k hi hk hik => selX_ne (by omega) (by omega) hik) z fun j hj => ?_
   have h1 := hk j hj
   have h2 : Gs.dot (N + 1) (turnM (selR rs P L) (1 :: List.replicate (N - 1) 0) j) z = Gs.sm N fun i => Gs.pwr ((selX P L).getD i 0) j * z i := by
    show Gs.sm N _ + _ * z N = _
    rw [hz N (Nat.le_refl _),Int.mul_zero,Int.add_zero]
    refine Gs.sm_eq fun i hi => ?_
    show (if i < (selR rs P L).length then _ else _) * _ = _
    rw [if_pos (by rw [hl];omega),selR_at hp (by omega) hj]
   rw [h2] at h1
   exact h1)
  rw [hl,RI.cell_eq,t2.len] at this
  exact this
 have HB1 : Hid (Below w.heap.size w (w.alloc (.cells #[.slice RA P.length rc,.slice OA P.length oc] 71)) ∧ Row (w.alloc (.cells #[.slice RA P.length rc,.slice OA P.length oc] 71)) w.heap.size 71 [.slice RA P.length rc,.slice OA P.length oc]) := ⟨(Below.refl _ _).alloc (Nat.le_refl _) _,Row.fresh _ _ _⟩
 have HSL : Hid (∀ i,i ∈ sel P L P.length → i < P.length) := fun i hi => sel_lt hi
 obtain ⟨n,hnn⟩ : ∃ n,P.length = n := ⟨_,rfl⟩
 obtain ⟨m,hmm⟩ : ∃ m,L.length = m := ⟨_,rfl⟩
 have HQA : Hid (∀ W B qA qc aA ac tb,QA W B rs P L N qA qc aA ac tb → Rd W W.heap.size 1 aA N ((sel P L P.length).map fun i : Nat => .int .i64 (i : Int))) := fun W B qA qc aA ac tb hq => by
  have := Rd.of_own hq.own2
  rwa [hs] at this
 obtain ⟨SL,hSL⟩ : ∃ x,sel P L P.length = x := ⟨_,rfl⟩
 rw [hSL] at HSL HQA
 rw [hSL] at hs
 rw [hSL,hs] at HQ HSE
 rw [hnn] at HQ HB1 HSL ⊢
 rw [hmm] at HQ ⊢
 have HSN := Lib.hid hs
 have hn64 : n ≤ 60 := by omega
 clear h h0 hP hL hw hs hSL hnn hmm hn
 obtain ⟨s,hs⟩ : ∃ s,w.heap.size = s := ⟨_,rfl⟩
 rw [hs] at HB1 HSE ⊢
 have HS := Lib.hid hs
 clear hs
 go_enter Tryz.func31,Tryz.ntmps31
 go_wp2_with fail
 rw [HS.out]
 refine HQ.out.mono ?_
 rintro x w2 ⟨qA,qc,aA,ac,tb,rfl,hqa,hb2⟩
 have hsz1 := HB1.out.2.lt
 have HB2 : Hid (Below s w w2) := HB1.out.1.trans (hb2.mono (by omega))
 have hr2 := HB1.out.2.below hb2 hsz1
 have HRD := Lib.hid (HQA.out _ _ _ _ _ _ _ hqa)
 have HS2 := Lib.hid (HSE.out w2 qA qc aA ac tb _ hqa HB2.out)
 have HR2 := Lib.hid hr2
 clear hqa hb2 hr2 HSE HQ HB1 HQA hsz1
 go_wp2_with fail
 refine HS2.out.mono ?_
 rintro x w3 ⟨yb,ys,rfl,hyl,hry,hyb,hb3⟩
 have HB3 : Hid (Below s w w3) := HB2.out.trans (hb3.mono (by have := HR2.out.lt;omega))
 have HR3 := Lib.hid (HR2.out.below hb3 HR2.out.lt)
 have HRD3 := Lib.hid (HRD.out.below hb3)
 have HYY := Lib.hid (And.intro hyl (And.intro hry hyb))
 have hsz3 := hb3.size
 have HSZ : Hid (w2.heap.size ≤ w3.heap.size) := hsz3
 clear hb3 hyl hry hyb hsz3
 have p0 := HR3.out.cell (i := 0) rfl
 have ls := HR3.out.lt
 have hmk := makeI_any n (by omega)
 go_wp2_with fail
 clear p0
 have hy4 : Row (w3.alloc (.cells (madeCells #[.int .i64 0] n) 3)) w3.heap.size 3 (ivs (List.replicate n 0)) := by rw [madeZero];exact Row.fresh w3 3 (ivs (List.replicate n 0))
 have hb4 : Below w3.heap.size w3 (w3.alloc (.cells (madeCells #[.int .i64 0] n) 3)) := (Below.refl _ _).alloc (Nat.le_refl _) _
 generalize (w3.alloc (.cells (madeCells #[.int .i64 0] n) 3)) = w4 at hy4 hb4 ⊢
 obtain ⟨zb,hzb⟩ : ∃ x,w3.heap.size = x := ⟨_,rfl⟩
 rw [hzb] at hy4
 rw [hzb]
 have HW4 : Hid (Row w4 zb 3 (ivs (List.replicate n 0)) ∧ Below w3.heap.size w3 w4) := ⟨hy4,hb4⟩
 have HZB := Lib.hid hzb
 clear hmk hy4 hb4 hzb ls
 go_loopw [44] (fun i wx => ∃ (k : Nat) (us : List Int),k ≤ N ∧ i = .int .i64 k ∧ us.length = n ∧ Row wx zb 3 (ivs us) ∧ Tch (fun g => g = zb) w4 wx) (fun i _ => N - (intOf i).toNat)
 case atStart => exact ⟨0,List.replicate n 0,Nat.zero_le _,rfl,by simp,HW4.out.1,Tch.refl _ _⟩
 case round =>
  obtain ⟨k,us,hk,rfl,hul,hru,htc⟩ := hrel
  by_cases hlt : k < N
  ·have k1 : (k : Int) < (N : Int) := by omega
   have k0 : (0 : Int) ≤ (k : Int) := by omega
   obtain ⟨b,o,hA1,hbb,hcc⟩ := HRD3.out.2 (by omega)
   subst hA1
   have hkl : k < SL.length := by rw [HSN.out];exact hlt
   have hw3 : Below w3.heap.size w3 wr := HW4.out.2.trans (htc.below HW4.out.2.size (by intro i hi e;have := HZB.out;omega))
   have q0 : wr.cell? ⟨b,o + k,none⟩ = some (.int .i64 ((SL[k] : Nat) : Int)) := by
    rw [hw3.cell (p := ⟨b,o + k,none⟩) (by have := HSZ.out;show b < w3.heap.size;omega)]
    exact hcc k _ (by rw [List.getElem?_map,List.getElem?_eq_getElem hkl];rfl)
   have hsk := HSL.out _ (List.getElem_mem hkl)
   obtain ⟨r,hr⟩ : ∃ r,SL[k] = r := ⟨_,rfl⟩
   rw [hr] at q0 hsk
   have q1 : wr.cell? ⟨yb,k,none⟩ = some (.int .i64 (ys.getD k 0)) := by
    rw [hw3.cell (p := ⟨yb,k,none⟩) HYY.out.2.1.lt]
    exact HYY.out.2.1.cell (by rw [List.getElem?_map,List.getElem?_eq_getElem (by rw [HYY.out.1];exact hlt),List.getD_eq_getElem?_getD,List.getElem?_eq_getElem (by rw [HYY.out.1];exact hlt)];rfl)
   obtain ⟨X,hX⟩ : ∃ x,ys.getD k 0 = x := ⟨_,rfl⟩
   rw [hX] at q1
   have j0 : (0 : Int) ≤ (r : Int) := by omega
   have j1 : (r : Int) < (n : Int) := by omega
   have cy := hru.cell (i := r) (v := .int .i64 (us.getD r 0)) (by rw [List.getElem?_map,List.getElem?_eq_getElem (by omega),List.getD_eq_getElem?_getD,List.getElem?_eq_getElem (by omega)];rfl)
   have fy := hru.fz r
   have HRU := Lib.hid (And.intro hul (And.intro hru htc))
   clear hcc hul hru htc hw3 hr hX
   go_wp2_with fail
   go_roundw
   case rel =>
    refine ⟨k + 1,us.set r X,by omega,by go_num,by rw [List.length_set];exact HRU.out.1,?_,HRU.out.2.2.set (p := ⟨zb,r,none⟩) (.inr rfl) _⟩
    have := HRU.out.2.1.put r (.int .i64 X)
    rwa [show (ivs us).set r (.int .i64 X) = ivs (us.set r X) by simp [List.map_set]] at this
   case measure => simp [intOf];omega
  ·obtain rfl : k = N := by omega
   have HTC := Lib.hid htc
   clear hru htc
   go_wp2_with fail
   refine bodyPost_ret (results_tmp_3 rfl _ _) rfl ?_
   exact ⟨zb,rfl,(HB3.out.trans (HW4.out.2.mono (by have := HR3.out.lt;omega))).trans (HTC.out.below (by have := HB3.out.size;have := HW4.out.2.size;have := HR3.out.lt;omega) (by intro i hi e;have := HZB.out;have := HR3.out.lt;omega))⟩
end Go.Proofs.YtjcpjhlclpdpjaaGreat
