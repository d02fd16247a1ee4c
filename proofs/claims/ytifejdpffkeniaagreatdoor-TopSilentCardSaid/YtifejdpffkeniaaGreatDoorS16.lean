import Derived.Test.YtifejdpffkeniaaGreatDoorS15
import Derived.Test.YtifejdpffkeniaaGreatDoorS13
import Derived.Test.YtifejdpffkeniaaGreatDoorS02
set_option linter.unusedVariables false
set_option maxRecDepth 100000
set_option maxHeartbeats 40000000
namespace Go.Proofs.YtifejdpffkeniaaGreatDoor
open Go.RowKit
attribute [local go_sem] Oper.semAt_some
theorem pcheck0_any (RA : Option Addr) (rc : Nat) (OA : Option Addr) (oc : Nat) (w : World) :
  Calls Tryz.prog 26 #[.agg #[.slice RA 0 rc,.slice OA 0 oc]] w fun r w' => r = .returned (.int .i64 0) ∧ w.alloc (.cells #[.slice RA 0 rc,.slice OA 0 oc] 25) = w' := by
 have HCR : Hid (∀ W,Calls Tryz.prog 75 #[.slice RA 0 rc,.func (.func 74) #[] #[]] W fun r w' => r = .returned (.bool false) ∧ W = w') := fun W =>
  prC_any RA 0 rc (by omega) (fun k => none) (fun k => 0) (fun k => 0) (fun _ V => W = V) W rfl (fun h => absurd h (by omega)) (fun k hk => absurd hk (by omega))
 have HCR0 := Lib.hid (HCR.out (w.alloc (.cells #[.slice RA 0 rc,.slice OA 0 oc] 25)));go_enter Tryz.func26,Tryz.ntmps26
 go_wp2_with fail
 refine HCR0.out.mono ?_;rintro x w2 ⟨rfl,rfl⟩
 go_wp2_with fail
 refine wp_loop_rounds 1 ?_;rw [rounds_succ]
 go_wp2_with fail
 go_ret;exact ⟨rfl,rfl⟩
theorem own0_hands (P L : List Int) (RA : Option Addr) (rc : Nat) (OA : Option Addr) (oc : Nat) (rs : List RI) (WA : Option Addr) (wc sp sw : Nat) (h0 : P = []) (w0 : World) (I : Nat → World → Prop)
  (hI : ∀ s W,I s W → Row W sp 25 [.slice RA 0 rc,.slice OA 0 oc]) :
  Hands Fence.wide 8 Tryz.prog 128 #[.pointer (some ⟨sp,0,none⟩),.pointer (some ⟨sw,0,none⟩)] w0 I (fun s vs s' _ => OwnT P L rs s vs s') 0 (OwnS P L) := by
 intro l J Jx W hb hJI hJ hJx hY h0';have c1 := hI _ _ (hJI _ _ h0');have p0 := c1.cell (i := 0) rfl;have H0 := Lib.hid h0';clear hI hJI hJ hJx hY h0' hb c1;refine callsIn_of_wp Tryz.func128 rfl trivial ?_ rfl;simp only [Tryz.ntmps128,List.size_toArray,List.length_cons,List.length_nil,Nat.reduceAdd,Nat.reduceSub,Array.replicate_succ,Array.replicate_zero,List.push_toArray,List.append_toArray,List.nil_append,List.cons_append];gi_wp2
 gi_loopw [11] (fun x wr => x = .int .i64 0 ∧ J 0 wr) (fun x _ => 0)
 case atStart => exact ⟨rfl,H0.out⟩
 case round =>
  clear H0;obtain ⟨rfl,hj⟩ := hrel;have HJ := Lib.hid hj;clear hj;gi_wp2;refine bodyPost_end (results_none' rfl _ _ _ rfl) rfl ?_;exact ⟨⟨_,rfl⟩,.inl ⟨0,fun j h1 h2 => absurd h2 (by rw [h0];simp),HJ.out⟩⟩
theorem question0_any (N : Nat) (P L : List Int) (RA : Option Addr) (rc : Nat) (OA : Option Addr) (oc : Nat) (rs : List RI) (WA : Option Addr) (wc : Nat) (w : World) (h : Prg w w.heap.size N P RA rc OA oc rs) (h0 : P = []) (hN1' : N = 1) (hP : ∀ p ∈ P,0 ≤ p ∧ p < 64) (hN0 : 1 ≤ N) (hN : N ≤ 64) (hn : P.length ≤ 64)
  (hL : Ppl L) (hw : Rd w w.heap.size 1 WA L.length (ivs L)) :
  Calls Tryz.prog 32 #[.agg #[.slice RA P.length rc,.slice OA P.length oc],.slice WA L.length wc] w fun r w' => ∃ qA qc aA ac tb,r = .returned (.tuple #[.slice qA (sel P L P.length).length qc,.slice aA (sel P L P.length).length ac,.slice (some ⟨tb,0,none⟩) N N,.int .i64 0]) ∧ QA w' w.heap.size rs P L N qA qc aA ac tb ∧ Below w.heap.size w w' := by
 subst hN1';obtain ⟨s,hs⟩ : ∃ s,w.heap.size = s := ⟨_,rfl⟩;have hm := hL.len
 have HCK : Hid (∀ W,Below s w W → Calls Tryz.prog 26 #[.agg #[.slice RA P.length rc,.slice OA P.length oc]] W fun r w' => r = .returned (.int .i64 0) ∧ Below W.heap.size W w') := fun W hW => by
  rw [h0];refine (pcheck0_any RA rc OA oc W).mono ?_;rintro r w' ⟨e1,e2⟩;exact ⟨e1,by rw [← e2];exact (Below.refl _ _).alloc (Nat.le_refl _) _⟩
 have HHN : Hid (∀ W,Below s w W → ∀ sp sw (w0 : World) (I : Nat → World → Prop),(∀ q V,I q V → Below W.heap.size W V ∨ Below s w V) → (∀ q V,I q V → Row V sp 25 [.slice RA P.length rc,.slice OA P.length oc] ∧ Row V sw 23 [.slice WA L.length wc]) → Hands Fence.wide 8 Tryz.prog 128 #[.pointer (some ⟨sp,0,none⟩),.pointer (some ⟨sw,0,none⟩)] w0 I (fun s vs s' _ => OwnT P L rs s vs s') 0 (OwnS P L)) := fun W hW sp sw w0 I hb hI =>
  own0_hands P L RA rc OA oc rs WA wc sp sw h0 w0 I fun q V hq => by have h9 := (hI q V hq).1;rw [h0] at h9;exact h9
 have HWL : Hid (∀ k,k < L.length → ∃ b o p,WA = some ⟨b,o,none⟩ ∧ (∀ W,Below s w W → W.cell? ⟨b,o + k,none⟩ = some (.int .i64 p)) ∧ p = L.getD k 0 ∧ lastI L k < p ∧ lastI L (k + 1) = p ∧ ∀ W,Calls Tryz.prog 78 #[.int .i64 p] W fun r w' => r = .returned (.bool true) ∧ W = w') := fun k hk => by
  obtain ⟨_,b,o,e1,_,hc⟩ := i64at hw hk;obtain ⟨q1,q2,q3,_⟩ := hL.last hk;exact ⟨b,o,L.getD k 0,e1,by rw [← hs];exact hc k hk,rfl,q1,by unfold lastI;rw [if_neg (by omega)];rfl,fun W => isPerson_any _ W q2 q3⟩
 have H0 := Lib.hid h0;have hnn : P.length = 0 := by rw [h0];rfl
 obtain ⟨m,hmm⟩ : ∃ m,L.length = m := ⟨_,rfl⟩;have HNN := Lib.hid (And.intro hnn hmm);rw [hnn] at HCK HHN hn ⊢;rw [hmm] at HHN HWL hm ⊢;have HS := Lib.hid hs
 have HW0 : Hid (∀ W,W = (((w.alloc (.cells #[.slice RA 0 rc,.slice OA 0 oc] 25)).alloc (.cells #[.slice none 0 0] 22)).alloc (.cells #[.slice none 0 0] 23)) → Below s w W ∧ Row W s 25 [.slice RA 0 rc,.slice OA 0 oc] ∧ Row W (s + 1) 22 [.slice none 0 0] ∧ Row W (s + 1 + 1) 23 [.slice none 0 0]) := fun W e => by
  rw [e];exact ⟨by rw [← hs];exact (((Below.refl _ w).alloc (Nat.le_refl _) _).alloc (by simp) _).alloc (by simp;omega) _,((Row.fresh' _ _ _ hs).alloc _).alloc _,(Row.fresh' _ _ _ (by simp [hs])).alloc _,Row.fresh' _ _ _ (by simp [hs])⟩
 clear h hP hL hw hs hnn hmm h0;have hN1 : (0 : Int) < (1 : Int) := by omega
 rw [HS.out];refine (callsIn_wide (n := 9)).1 ?_;refine callsIn_of_wp_marks Tryz.func32 rfl trivial ?_ rfl;simp only [Tryz.ntmps32,List.size_toArray,List.length_cons,List.length_nil,Nat.reduceAdd,Nat.reduceSub,Array.replicate_succ,Array.replicate_zero,List.push_toArray,List.append_toArray,List.nil_append,List.cons_append]
 gi_wp2_with fail
 rw [HS.out];obtain ⟨w1,hw1⟩ : ∃ x,(((w.alloc (.cells #[.slice RA 0 rc,.slice OA 0 oc] 25)).alloc (.cells #[.slice none 0 0] 22)).alloc (.cells #[.slice none 0 0] 23)) = x := ⟨_,rfl⟩;obtain ⟨r1,r2,r3,r4⟩ := HW0.out w1 hw1.symm;rw [hw1];clear HW0 hw1;refine ⟨trivial,(callsIn_wide.2 (HCK.out w1 r1)).mono ?_⟩;rintro x w2 ⟨rfl,hb2⟩;have HB2 : Hid (Below s w w2) := r1.trans (hb2.mono (by have := r2.lt;omega));have HR2 : Hid (Row w2 s 25 [.slice RA 0 rc,.slice OA 0 oc] ∧ Row w2 (s + 1) 22 [.slice none 0 0] ∧ Row w2 (s + 1 + 1) 23 [.slice none 0 0]) := ⟨r2.below hb2 r2.lt,r3.below hb2 r3.lt,r4.below hb2 r4.lt⟩;clear r1 r2 r3 r4 hb2 HCK
 gi_wp2_with fail
 gi_loopw [21,8] (fun i l wr => w2 = wr ∧ ∃ k : Nat,k ≤ m ∧ i = .int .i64 k ∧ l = .int .i64 (lastI L k)) (fun i _ _ => m - (intOf i).toNat)
 case atStart => exact ⟨rfl,0,Nat.zero_le _,rfl,rfl⟩
 case round =>
  obtain ⟨rfl,k,hk,rfl,rfl⟩ := hrel
  by_cases hlt : k < m
  ·have k1 : (k : Int) < (m : Int) := by omega
   have k0 : (0 : Int) ≤ (k : Int) := by omega
   obtain ⟨b,o,p,hWA,hc,hp,hl1,hl2,hIP⟩ := HWL.out k hlt;subst hWA;have q0 := hc w2 HB2.out;have HIP := Lib.hid hIP;obtain ⟨X,hX⟩ : ∃ X,lastI L k = X := ⟨_,rfl⟩;rw [hX] at hl1 ⊢;have HL2 := Lib.hid hl2;have nl : ¬ (p ≤ X) := by omega
   clear hc hp hl2 hIP hX
   gi_wp2_with (refine ⟨trivial,?_⟩;gi_at_call 78;refine (callsIn_wide.2 (HIP.out _)).mono ?_;rintro e w4 ⟨rfl,rfl⟩)
   go_roundw
   case rel => exact ⟨trivial,k + 1,by omega,by go_num,by rw [HL2.out]⟩
   case measure => simp [intOf];omega
  ·obtain rfl : k = m := by omega
   clear HWL;have p0 := HR2.out.1.cell (i := 0) rfl;have p1 := HR2.out.1.cell (i := 1) rfl
   have hmk : ∀ w : World,(Instr.makeSlice 23 (.int .i64 1) (.int .i64 1)).run Tryz.prog w = .ok (.slice (some ⟨w.heap.size,0,none⟩) 1 1) (w.alloc (.cells (madeCells #[.int .i64 0] 1) 3)) := by
    have h9 := makeI_any 1 (by omega);rw [show ((1 : Nat) : Int) = 1 by omega] at h9;exact h9
   have hrm : Row (w2.alloc (.cells (madeCells #[.int .i64 0] 1) 3)) w2.heap.size 3 (ivs (List.replicate 1 0)) := by rw [madeZero];exact Row.fresh w2 3 (ivs (List.replicate 1 0))
   have cm := hrm.cell (i := 0) (v := .int .i64 0) (by rw [List.getElem?_map,List.getElem?_replicate,if_pos (by omega)];rfl);have fm := hrm.fz 0;have ls := HR2.out.1.lt;have HRM := Lib.hid hrm;clear hrm
   have HTB : Hid ((madeCells #[Value.int .i64 0] 1).setIfInBounds 0 (.int .i64 1) = (ivs (1 :: List.replicate (1 - 1) 0)).toArray) := by
    show _ = _;rw [madeZero];simp
   gi_wp2_with fail
   refine ⟨trivial,(callsIn_wide.2 (own_any _ _ _ _ _ _ _ _ _ _)).mono ?_⟩;rintro x w4 ⟨rfl,hw4⟩;rw [HTB.out] at hw4 ⊢;obtain ⟨tb,htb⟩ : ∃ x,w2.heap.size = x := ⟨_,rfl⟩;have hb4 : Below w2.heap.size w2 w4 := by rw [← hw4];exact (((Below.refl _ _).alloc (Nat.le_refl _) _).alloc (by simp) _).alloc (by simp;omega) _
   have ht4 : Row w4 tb 3 (ivs (1 :: List.replicate (1 - 1) 0)) := by rw [← hw4];exact ((Row.fresh' _ _ _ htb).alloc _).alloc _
   have hsp : Row w4 (tb + 1) 25 [.slice RA 0 rc,.slice OA 0 oc] := by rw [← hw4];exact (Row.fresh' _ _ _ (by simp [htb])).alloc _
   have hsw : Row w4 (tb + 1 + 1) 23 [.slice WA k wc] := by rw [← hw4];exact Row.fresh' _ _ _ (by simp [htb])
   have hz4 : w4.heap.size = tb + 1 + 1 + 1 := by rw [← hw4];simp [htb]
   have hB4 : Below s w w4 := HB2.out.trans (hb4.mono (by have := HR2.out.1.lt;omega));have hx1 := HR2.out.2.1.below hb4 HR2.out.2.1.lt;have hx2 := HR2.out.2.2.below hb4 HR2.out.2.2.lt;have hst : s + 1 + 1 < tb := by have := HR2.out.2.2.lt;omega
   have HQ0 : Hid (QJ w4 (s + 1) (s + 1 + 1) (tb + 1 + 1 + 1) rs P L 0 w4 none 0 none 0) := ⟨hx1,hx2,World.ownsRow_nil _ _ _ _,World.ownsRow_nil _ _ _ _,fun g hg => (by cases hg),Tch.refl _ _⟩;have hns := HNN.out.1;simp only [World.size_alloc];rw [htb];clear hw4 p0 p1 hmk cm fm HRM hx1 hx2 hb4 ls
   gi_wp2_with fail
   refine wpIn_range_hands (F := Fence.wide) (σ := Nat) rfl (by omega) (gf := 128) (lb := #[.pointer (some ⟨tb + 1,0,none⟩),.pointer (some ⟨tb + 1 + 1,0,none⟩)]) (by rfl) trivial (enters_of Tryz.func128 (by kernel_rfl) rfl)
    (fun (q : Nat) V => q ≤ 0 ∧ ∃ rA rc' oA oc',QJ w4 (s + 1) (s + 1 + 1) (tb + 1 + 1 + 1) rs P L q V rA rc' oA oc') (fun _ (_ : Nat) W => False)
    (fun (q : Nat) vs q' _ => OwnT P L rs q vs q') 0 (OwnS P L) w4 (Below.refl _ _) ?hsq
    ?oi (fun _ _ _ _ _ h _ _ => h) ⟨Nat.zero_le _,_,_,_,_,HQ0.out⟩ (fun _ _ _ _ h => by obtain ⟨i,_,_,_,_,_,e⟩ := h;rw [e];rfl)
    (fun (q : Nat) a' V => (∃ q0 i A' c' : Nat,∃ A' : Option Addr,q = i + 1 ∧ q0 ≤ i ∧ i < 0 ∧ (∀ j,q0 ≤ j → j < i → ¬ P.getD j 0 ∈ L) ∧ P.getD i 0 ∈ L ∧ (rs.getD i r0).cell = .slice A' 1 c' ∧ a'.tmps.getD 12 undef = .int .i64 (i : Int) ∧ a'.tmps.getD 13 undef = .slice A' 1 c' ∧ q0 ≤ 0 ∧ ∃ rA rc' oA oc',QJ w4 (s + 1) (s + 1 + 1) (tb + 1 + 1 + 1) rs P L q0 V rA rc' oA oc') ∧ a'.tmps.size = 64 ∧ a'.tmps.getD 4 undef = .pointer (some ⟨s + 1,0,none⟩) ∧ a'.tmps.getD 5 undef = .pointer (some ⟨s + 1 + 1,0,none⟩) ∧ a'.defers = []) ?oa ?assign ?body ?done ?stop
   case hsq =>
    refine HHN.out w4 hB4 _ _ w4 _ ?_ ?_
    ·rintro q V ⟨_,rA,rc',oA,oc',h⟩
     exact .inr (hB4.trans (h.tch.below (by omega) (by rintro i hi (e | e) <;> omega)))
    ·rintro q V ⟨_,rA,rc',oA,oc',h⟩
     exact ⟨h.tch.row hsp (by omega),h.tch.row hsw (by omega)⟩
   case oi =>
    rintro q V V' row ⟨hq,rA,rc',oA,oc',h⟩ hg hr;exact ⟨hq,_,_,_,_,h.grown hg hr⟩
   case oa =>
    rintro q a' _ V V' row ⟨⟨q0,i,A0,c',A',p1,p2,p3,p4,p5,p6,p7,p8,p9,rA,rc',oA,oc',h⟩,q7⟩ hg hr;exact ⟨⟨q0,i,A0,c',A',p1,p2,p3,p4,p5,p6,p7,p8,p9,_,_,_,_,h.grown hg hr⟩,q7⟩
   case assign =>
    rintro l q vs q' V K hI ⟨i,h1,h2,_⟩ hK;rw [H0.out] at h2;exact absurd h2 (by simp)
   case body =>
    rintro l q a' W hl ⟨⟨q0,i,A0,c',A',_,h1,h2,_⟩,_⟩;exact absurd h2 (by omega)
   case done =>
    rintro D q V hD hOS ⟨hq,rA,rc',oA,oc',hQ⟩ hd;have hqs : sel P L 0 = sel P L q := sel_skip hq (fun j h1 h2 => hOS j h1 (by rw [hns];exact h2));obtain ⟨x1,x2,o1,o2,hdis,htc⟩ := hQ;rw [← hqs] at x1 x2 o1 o2;obtain ⟨j,hj⟩ : ∃ x,(sel P L 0).length = x := ⟨_,rfl⟩;rw [hj] at x1 x2 o1 o2;have hVT := htc.row ht4 (by omega);have hVB : Below s w V := hB4.trans (htc.below (by omega) (by rintro i hi (e | e) <;> omega));have hMV : Marks (tb + 1 + 1 + 1) V.heap.size [{ target := .collected D,args := #[] }] V := (Marks.nil (tb + 1 + 1 + 1) (tb + 1 + 1 + 1) V).cons (by omega) (by omega) (heap_lt hd) hd;have HV := Lib.hid (And.intro o1 (And.intro o2 (And.intro hVT (And.intro hVB hMV))));have HJ := Lib.hid hj;have HSX : Hid ((fun (_ : Nat) (W : World) => Row W (s + 1) 22 [.slice rA j rc'] ∧ Row W (s + 1 + 1) 23 [.slice oA j oc']) 0 V.drew) := ⟨x1.below (Below.refl _ _).drew x1.lt,x2.below (Below.refl _ _).drew x2.lt⟩;have HVS : Hid (tb + 1 + 1 + 1 ≤ V.heap.size) := by show _ ≤ _;have := htc.size;omega
    clear hqs x1 x2 o1 o2 hdis htc hVT hVB hMV hj hd hD hOS
    gi_wp2_with fail
    rename_i Kz hKz;refine wpIn_region_treeC (fun (_ : Nat) (W : World) => Row W (s + 1) 22 [.slice rA j rc'] ∧ Row W (s + 1 + 1) 23 [.slice oA j oc']) (.take 0 (.take 1 (.take 2 (.one 3 (.one 4 (.take 5 (.take 6 .done))))))) (by kernel_rfl) (by kernel_rfl) (by kernel_rfl) (by kernel_rfl) (by kernel_rfl) ?_;have HVD : Hid (Tch (fun g => g = s + 1 ∨ g = s + 1 + 1) V V.drew) := (Tch.refl _ V).drew;generalize V.drew = Vd at HSX HVD ⊢
    iterate 2 (refine wpOTC_take rfl _ (by rfl) (fun _ => rfl) (by intro w' hS;have q0 := hS.1.cell (i := 0) rfl;have q1 := hS.2.cell (i := 0) rfl;go_simp;try with_reducible rfl) HSX.out fun KK hKK => ?_;go_simp;refine hKK _ ?_;clear hKK KK)
    refine wpOTC_take rfl _ (by rfl) (fun _ => rfl) (by intro w' hS;go_simp;try with_reducible rfl) HSX.out fun KK hKK => ?_;go_simp;refine hKK _ ?_;clear hKK KK;refine wpOTC_one _ rfl (by rfl) rfl fun KK hKK => ?_;have c0 := HSX.out.1.cell (i := 0) rfl;have f0 := HSX.out.1.fz 0;go_simp;have hy1 : Row (Vd.setCell ⟨s + 1,0,none⟩ (.slice rA j rc')) (s + 1) 22 [.slice rA j rc'] := HSX.out.1.put 0 _;have hy2 := HSX.out.2.away (p := ⟨s + 1,0,none⟩) (by show s + 1 + 1 ≠ s + 1;omega) (.slice rA j rc');refine hKK _ _ (fun _ _ => ⟨hy1,hy2⟩) ?_;clear hKK KK c0 f0;refine wpOTC_one _ rfl (by rfl) rfl fun KK hKK => ?_;have c0 := HSX.out.2.cell (i := 0) rfl;have f0 := HSX.out.2.fz 0;go_simp;have hy3 := hy1.away (p := ⟨s + 1 + 1,0,none⟩) (by show s + 1 ≠ s + 1 + 1;omega) (.slice oA j oc');have hy4 : Row ((Vd.setCell ⟨s + 1,0,none⟩ (.slice rA j rc')).setCell ⟨s + 1 + 1,0,none⟩ (.slice oA j oc')) (s + 1 + 1) 23 [.slice oA j oc'] := hy2.put 0 _;refine hKK _ _ (fun _ _ => ⟨hy3,hy4⟩) ?_;clear hKK KK c0 f0;have htf : Tch (fun g => g = s + 1 ∨ g = s + 1 + 1) V ((Vd.setCell ⟨s + 1,0,none⟩ (.slice rA j rc')).setCell ⟨s + 1 + 1,0,none⟩ (.slice oA j oc')) := (HVD.out.set (p := ⟨s + 1,0,none⟩) (.inr (.inl rfl)) _).set (p := ⟨s + 1 + 1,0,none⟩) (.inr (.inr rfl)) _;generalize ((Vd.setCell ⟨s + 1,0,none⟩ (.slice rA j rc')).setCell ⟨s + 1 + 1,0,none⟩ (.slice oA j oc')) = V5 at hy3 hy4 htf ⊢;have HSY : Hid ((fun (_ : Nat) (W : World) => Row W (s + 1) 22 [.slice rA j rc'] ∧ Row W (s + 1 + 1) 23 [.slice oA j oc']) 0 V5) := ⟨hy3,hy4⟩;have HTF := Lib.hid htf;clear hy1 hy2 hy3 hy4 htf
    iterate 2 (refine wpOTC_take rfl _ (by rfl) (fun _ => rfl) (by intro w' hS;go_simp;try with_reducible rfl) HSY.out fun KK hKK => ?_;go_simp;refine hKK _ ?_;clear hKK KK)
    refine wpOTC_done ?_;show Kz _ _;refine hKz _ _ ?_;go_simp
    gi_wp2_with fail
    show LeavesInM _ _ _ _ _ _ _ _ _;obtain ⟨o1,o2,hVT,hVB,hMV⟩ := HV.out;have hl1 : ∀ g,(Value.slice rA j rc').ownBlock = some g → tb + 1 + 1 + 1 ≤ g ∧ g < V.heap.size := fun g hg => o1.lt g hg;have hl2 : ∀ g,(Value.slice oA j oc').ownBlock = some g → tb + 1 + 1 + 1 ≤ g ∧ g < V.heap.size := fun g hg => o2.lt g hg;have hM5 := hMV.tch HTF.out (fun g h1 h2 => by omega) (Nat.le_refl _);refine leaves_marksU (C := V.heap.size) _ _ hM5 fun w' hb' hc' => ?_;have ho : ∀ {e : TypeId} {v : Value} {m : Nat} {xs : List Value},V.ownsRow (tb + 1 + 1 + 1) e 1 v m xs → w'.ownsRow s e 1 v m xs := fun {e v m xs} h => own_mono (by omega) (own_cells (own_blk h fun g h1 h2 => HTF.out.block g h2 (by omega)) hc');have hz1 : Row w' (s + 1) 22 [.slice rA j rc'] := hc' _ _ HSY.out.1 rfl;have hz2 : Row w' (s + 1 + 1) 23 [.slice oA j oc'] := hc' _ _ HSY.out.2 rfl;refine ⟨_,results_cctt rfl _ _ (s + 1) (s + 1 + 1) _ _ (by rfl) (by rfl) (hz1.cell (i := 0) rfl) (hz2.cell (i := 0) rfl) (isAgg_rows _) (isAgg_ints _),rA,rc',oA,oc',tb,by rw [HJ.out];rfl,?_,?_⟩
    ·refine ⟨?_,?_,hc' _ _ (HTF.out.row hVT (by omega)) rfl⟩
     ·rw [hns,HJ.out];exact ho o1
     ·rw [hns,HJ.out];exact ho o2
    ·exact (hVB.trans (HTF.out.below (by have := hVB.size;have := HS.out;omega) (by rintro i hi (e | e) <;> omega))).trans (hb'.mono (by omega))
   case stop =>
    rintro D c q W hD h;exact h.elim
def GrowPostI (w : World) (e : Ending) (w' : World) : Prop := ∃ G : Nat,e = .returned (.slice (some ⟨w.heap.size,0,none⟩) 0 G) ∧ w'.ownsRow w.heap.size 3 1 (.slice (some ⟨w.heap.size,0,none⟩) 0 G) 0 [] ∧ Below w.heap.size w w'
theorem grow_nilI (n : Nat) (h1 : 1 ≤ n) (h2 : n ≤ 1000000) (w : World) : Calls Tryz.prog 81 #[.slice none 0 0,.int .i64 n] w (GrowPostI w) := by
 obtain ⟨i0,hi,hz0,hz1,hz2⟩ := info_parts infoInt
 have hrz : ∀ ty,(Builtin.append_ #[23,3] ty #[.slice none 0 0,.int .i64 n]).run Tryz.prog w =
   .ok (.slice (some ⟨w.heap.size,0,none⟩) n (grownCap w n 0 3)) (w.drew.alloc (.cells (#[] ++ Builtin.zeroCells (Value.int .i64 0).cells n ++ Builtin.zeroCells (Value.int .i64 0).cells (grownCap w n 0 3 - n)) 3)) := fun ty => by
  have h := Lib.run_append_grow_zeros w 23 3 ty 3 i0 (.int .i64 0) .i64 .i64 Tryz.underlying23 Tryz.underlying3 hi hz0 none 0 0 [] (run_firstCells_none w.drew i0.size 0 0 0) n h1 (by rw [hz1];decide) (by omega) (by omega) (by rw [hz2];omega)
   (by rw [hz2];exact growslice_fits (by omega) (by omega))
  simpa using h
 have hG := grownCap_ge w n 0 3;have hGm := grownCap_le_maxLen w n 0 3 (by unfold maxLen;omega);obtain ⟨G,hGe⟩ : ∃ G,G = grownCap w n 0 3 := ⟨_,rfl⟩;rw [← hGe] at hrz hG hGm
 have hcz : (#[] ++ Builtin.zeroCells (Value.int .i64 0).cells n ++ Builtin.zeroCells (Value.int .i64 0).cells (G - n)).size = G := by
  simp only [Array.size_append,size_zeroCells];simp [Value.cells];omega
 obtain ⟨cz,hcze⟩ : ∃ c,#[] ++ Builtin.zeroCells (Value.int .i64 0).cells n ++ Builtin.zeroCells (Value.int .i64 0).cells (G - n) = c := ⟨_,rfl⟩;rw [hcze] at hrz hcz;clear hcze hGe;have HC := Lib.hid hcz;have HG := Lib.hid hGm;have hG9 : (G : Int) ≤ 9223372036854775807 := by unfold maxLen at hGm;omega
 clear hcz hGm;go_enter Tryz.func81,Tryz.ntmps81
 go_wp2_with (at_builtin;refine Lib.wpList_append_run _ rfl _ _ _ _ rfl _ _ rfl rfl _ _ (hrz _) ?_)
 go_ret;refine ⟨G,rfl,⟨by simp,.inr ⟨w.heap.size,G,cz,rfl,Nat.le_refl _,heap_alloc_new w.drew _,Nat.zero_le _,HG.out,by rw [HC.out,Nat.mul_one],by simp⟩⟩,(Below.refl _ w).drew.alloc (Nat.le_refl _) _⟩
def IntsPost (bs : List Int) (w : World) (e : Ending) (w' : World) : Prop :=
 ∃ (A : Option Addr) (c : Nat),e = .returned (.slice A bs.length c) ∧ Rd w' w'.heap.size 1 A bs.length (bs.map (Value.int .i64)) ∧ bs.length ≤ c ∧ c ≤ maxLen ∧ Below w.heap.size w w'
theorem one64 (l : List Int) : ∀ u ∈ l.map (Value.int .i64),u.oneCell' = true := by
 intro u hu;obtain ⟨x,_,rfl⟩ := List.mem_map.1 hu
 rfl
theorem own_sliceI {w : World} {base : Nat} {e : TypeId} {v : Value} {size n : Nat} {xs : List Value} (h : w.ownsRow base e size v n xs) : ∃ A c,v = .slice A n c ∧ Rd w w.heap.size size A n xs ∧ n ≤ c ∧ c ≤ maxLen := own_slice' h
theorem concatI2 (g : Nat) (A1 A2 : Option Addr) (n1 n2 c1 c2 : Nat) (x1 x2 : List Int) (w : World) (h1 : w.cell? ⟨g,0,none⟩ = some (.slice A1 n1 c1)) (h2 : w.cell? ⟨g,1,none⟩ = some (.slice A2 n2 c2))
  (r1 : Rd w w.heap.size 1 A1 n1 (x1.map (Value.int .i64))) (r2 : Rd w w.heap.size 1 A2 n2 (x2.map (Value.int .i64))) (hp : 1 ≤ n1 + n2) (hn : n1 + n2 ≤ 1000000) (hg : g < w.heap.size) :
  Calls Tryz.prog 29 #[.slice (some ⟨g,0,none⟩) 2 2] w (IntsPost (x1 ++ x2) w) := by
 obtain ⟨i0,hi,hz0,hz1,hz2⟩ := info_parts infoInt;have l1 : x1.length = n1 := by simpa using r1.1
 have l2 : x2.length = n2 := by simpa using r2.1
 have L1 := Lib.hid l1;have L2 := Lib.hid l2;clear l1 l2;have b1 : (n1 : Int) ≤ 1000000 := by omega
 have b2 : (n2 : Int) ≤ 1000000 := by omega
 have b3 : (1 : Int) ≤ (n1 : Int) + n2 := by omega
 have hgn : ∀ w,Calls Tryz.prog 81 #[.slice none 0 0,.int .i64 ((n1 : Int) + n2)] w (GrowPostI w) := fun w => by
  have h := grow_nilI (n1 + n2) hp hn w
  rwa [Int.natCast_add] at h
 have HR1 := Lib.hid r1;have HR2 := Lib.hid r2;clear r1 r2;go_enter Tryz.func29,Tryz.ntmps29;go_wp2;refine wp_loop_rounds 3 ?_;rw [rounds_succ];go_wp2;rw [rounds_succ];go_wp2;rw [rounds_succ]
 go_wp2_with fail
 refine (hgn _).mono ?_;rintro e w1 ⟨G,rfl,hown,hb⟩;have T : One w w.heap.size w1 3 1 _ 0 [] := ⟨hown,hb,hb.size⟩;clear hown hgn;have h1 := (hb.cell (p := ⟨g,0,none⟩) hg).trans h1;have h2a := (hb.cell (p := ⟨g,1,none⟩) hg).trans h2;go_wp2;refine wp_loop_rounds 3 ?_;rw [rounds_succ]
 go_wp2_with (at_builtin;refine wpList_append_rd _ rfl (.tmp 31) (.tmp 32) 23 rfl w.heap.size 3 i0 _ 1 8 Tryz.underlying23 hi hz0 hz1 hz2 rfl (by omega) _ 0 _ (by rfl) T.own w.heap.size _ n1 _ _ (by rfl) (HR1.out.below T.bel) (one64 _) (by unfold maxLen;omega) (by omega) T.size ?_;intro v2 w2 hown2 hg2 _)
 have T2 := T.grew hown2 hg2;clear hown2 hg2 T h1 h2a;have h2b := (T2.bel.cell (p := ⟨g,1,none⟩) hg).trans h2;rw [rounds_succ]
 go_wp2_with (at_builtin;refine wpList_append_rd _ rfl (.tmp 31) (.tmp 32) 23 rfl w.heap.size 3 i0 _ 1 8 Tryz.underlying23 hi hz0 hz1 hz2 rfl (by omega) _ (0 + n1) _ (by rfl) T2.own w.heap.size _ n2 _ _ (by rfl) (HR2.out.below T2.bel) (one64 _) (by unfold maxLen;omega) (by omega) T2.size ?_;intro v3 w3 hown3 hg3 _)
 have T3 := T2.grew hown3 hg3;clear hown3 hg3 T2 h2b;rw [rounds_succ];obtain ⟨A,c,rfl,hR,hlc,hcm⟩ := own_sliceI T3.own;go_wp2;go_ret;refine ⟨A,c,?_,?_,?_,hcm,T3.bel⟩
 ·have e1 := L1.out
  have e2 := L2.out;rw [List.length_append,e1,e2]
  first | done | rfl | simp
 ·rw [List.length_append,L1.out,L2.out,List.map_append]
  rw [Nat.zero_add] at hR;exact hR
 ·rw [List.length_append,L1.out,L2.out];omega
theorem dodd_any (n : Int) (w : World) (h0 : 0 ≤ n) (h1 : n < 1073741789) : Calls Tryz.prog 80 #[.int .i64 n] w fun r w' => r = .returned (.bool false) ∧ w = w' := by
 have a0 : decide (n < 0) = false := decide_eq_false (by omega);have a1 : decide (1073741789 ≤ n) = false := decide_eq_false (by omega);go_enter Tryz.func80,Tryz.ntmps80;go_wp2;go_ret;exact ⟨rfl,rfl⟩
theorem dnI_any  (A : Option Addr) (n c : Nat) (hn : n ≤ 4096) (p : Nat → Int) (I : Nat → World → Prop) (w : World) (h0 : I 0 w)
  (hA : 0 < n → ∃ b o,A = some ⟨b,o,none⟩ ∧ ∀ k,k < n → ∀ W,I k W → W.cell? ⟨b,o + k,none⟩ = some (.int .i64 (p k)))
  (hcall : ∀ k,k < n → ∀ W,I k W → Calls Tryz.prog 80 #[.int .i64 (p k)] W fun r w' => r = .returned (.bool false) ∧ I (k + 1) w') :
  Calls Tryz.prog 126 #[.slice A n c,(.func (.func 80) #[] #[])] w fun r w' => r = .returned (.int .i64 (-1)) ∧ I n w' := by
 have HA := Lib.hid hA;have HC := Lib.hid hcall;have H0 := Lib.hid h0;clear hA hcall h0;go_enter Tryz.func126,Tryz.ntmps126;go_wp2
 go_loopw [8] (fun i wr => ∃ k : Nat,k ≤ n ∧ i = .int .i64 k ∧ I k wr) (fun i _ => n - (intOf i).toNat)
 case atStart => exact ⟨0,Nat.zero_le _,rfl,H0.out⟩
 case round =>
  clear H0;obtain ⟨k,hk,rfl,hi⟩ := hrel;have HI := Lib.hid hi;clear hi
  by_cases hlt : k < n
  ·have k1 : (k : Int) < (n : Int) := by omega
   have k0 : (0 : Int) ≤ (k : Int) := by omega
   obtain ⟨b,o,hA1,hcc⟩ := HA.out (by omega);subst hA1;have hcc := hcc k hlt wr HI.out;have hC := HC.out k hlt wr HI.out;obtain ⟨P0,hP0⟩ : ∃ P,p k = P := ⟨_,rfl⟩;rw [hP0] at hC hcc;have HC2 := Lib.hid hC;clear hC hP0 HA HC;obtain x0 := hcc
   go_wp2_with fail
   refine HC2.out.mono ?_;rintro x w1 ⟨rfl,hi1⟩;have HI1 := Lib.hid hi1;clear hi1;go_wp2;go_roundw
   case rel => exact ⟨k + 1,by omega,by go_num,HI1.out⟩
   case measure => simp [intOf];omega
  ·obtain rfl : k = n := by omega
   go_wp2;go_ret;exact ⟨rfl,HI.out⟩
theorem dnC_any  (A : Option Addr) (n c : Nat) (hn : n ≤ 4096) (p : Nat → Int) (I : Nat → World → Prop) (w : World) (h0 : I 0 w)
  (hA : 0 < n → ∃ b o,A = some ⟨b,o,none⟩ ∧ ∀ k,k < n → ∀ W,I k W → W.cell? ⟨b,o + k,none⟩ = some (.int .i64 (p k)))
  (hcall : ∀ k,k < n → ∀ W,I k W → Calls Tryz.prog 80 #[.int .i64 (p k)] W fun r w' => r = .returned (.bool false) ∧ I (k + 1) w') :
  Calls Tryz.prog 79 #[.slice A n c,(.func (.func 80) #[] #[])] w fun r w' => r = .returned (.bool false) ∧ I n w' := by
 have HI := Lib.hid (dnI_any  A n c hn p I w h0 hA hcall);clear hA hcall h0;go_enter Tryz.func79,Tryz.ntmps79
 go_wp2_with fail
 refine HI.out.mono ?_;rintro x w1 ⟨rfl,hi⟩;have HI1 := Lib.hid hi;clear hi;go_wp2;go_ret;exact ⟨rfl,HI1.out⟩
theorem numbersD_any (A : Option Addr) (n c : Nat) (L : List Int) (w : World) (h : Rd w w.heap.size 1 A n (ivs L)) (hn : n ≤ 4096) (hL : ∀ x ∈ L,0 ≤ x ∧ x < 1073741789) :
  Calls Tryz.prog 27 #[.slice A n c] w fun r w' => r = .returned (.bool true) ∧ w = w' := by
 have hl : L.length = n := by simpa using h.1
 have H : Hid (Calls Tryz.prog 79 #[.slice A n c,.func (.func 80) #[] #[]] w fun r w' => r = .returned (.bool false) ∧ w = w') :=
  dnC_any A n c hn (fun k => L.getD k 0) (fun _ V => w = V) w rfl (fun h0 => by
   obtain ⟨_,b,o,e1,_,hc⟩ := i64at h h0
   exact ⟨b,o,e1,fun k hk W hW => by subst hW;exact hc k hk _ (Below.refl _ _)⟩) (fun k hk W hW => by
   subst hW;have hk' : k < L.length := by omega
   have e : L.getD k 0 = L[k] := by rw [List.getD_eq_getElem?_getD,List.getElem?_eq_getElem hk'];rfl
   have := hL _ (List.getElem_mem hk');show Calls _ _ #[.int .i64 (L.getD k 0)] _ _;rw [e]
   exact dodd_any _ _ this.1 this.2)
 go_enter Tryz.func27,Tryz.ntmps27
 go_wp2_with fail
 refine H.out.mono ?_;rintro r w1 ⟨rfl,rfl⟩;go_wp2;go_ret;exact ⟨rfl,rfl⟩
theorem columns_any (N : Nat) (P : List Int) (RA : Option Addr) (rc : Nat) (OA : Option Addr) (oc : Nat) (rs : List RI) (w : World) (h : Prg w w.heap.size N P RA rc OA oc rs) (h0 : P = [] → N = 1) (hn : P.length ≤ 4096) (hN : N ≤ 4096) :
  Calls Tryz.prog 28 #[.agg #[.slice RA P.length rc,.slice OA P.length oc]] w fun r w' => r = .returned (.int .i64 N) ∧ Below w.heap.size w w' := by
 have HB : Hid (Below w.heap.size w (w.alloc (.cells #[.slice RA P.length rc,.slice OA P.length oc] 25))) := (Below.refl _ w).alloc (Nat.le_refl _) _
 by_cases e : P = []
 ·subst e
  obtain rfl := h0 rfl;clear h;dsimp only [List.length] at HB ⊢;go_enter Tryz.func28,Tryz.ntmps28;go_wp2;go_ret;exact ⟨rfl,HB.out⟩
 ·have hp : 0 < P.length := by cases P with | nil => exact absurd rfl e | cons a l => simp
  obtain ⟨b,o,hRA,hb,hc⟩ := h.rd.at (by rw [h.len];exact hp);have hm := (getD_mem' (rs := rs) (k := 0) (by rw [h.len];exact hp)).1;have hl := (h.dat _ hm).len;have q0 := hc 0 (by rw [h.len];exact hp) _ HB.out;rw [RI.cell_eq,hl,Nat.add_zero] at q0;generalize (rs.getD 0 r0).A = A0 at q0;generalize (rs.getD 0 r0).c = c0 at q0;subst hRA;generalize P.length = n at *;have n1 : (n : Int) ≠ 0 := by omega
  have n2 : ((n : Int) == 0) = false := by simpa using n1
  clear h h0 hc hm hl e;go_enter Tryz.func28,Tryz.ntmps28;go_wp2;go_ret;exact ⟨rfl,HB.out⟩
def tm (a b : List Int) : Nat → Int
 | 0 => 0
 | k + 1 => Fm.ad (tm a b k) (Fm.ml (a.getD k 0) (b.getD k 0))
theorem tm_rng (a b : List Int) (k : Nat) : 0 ≤ tm a b k ∧ tm a b k < 1073741789 := by
 cases k with
 | zero => exact ⟨Int.le_refl 0,by show (0 : Int) < _;decide⟩
 | succ k => exact ⟨Fm.ad_lo _ _,Fm.ad_hi _ _⟩
theorem tm_cg (a b : List Int) (k : Nat) : Fm.cg (tm a b k) (Gs.sm k fun j => a.getD j 0 * b.getD j 0) := by
 induction k with
 | zero => exact Fm.cg_refl _
 | succ k ih => exact Fm.cg_trans (Fm.cg_ad _ _) (Fm.cg_add ih (Fm.cg_ml _ _))
theorem times1_any (k : Nat) (x : Int) (g : Nat) (A : Option Addr) (m c : Nat) (ys : List Int) (B : Nat) (w : World) (hg : Row w g 23 [.slice A m c]) (h : Rd w B 1 A m (ivs ys)) (hk : k < m) (hm : m ≤ 4096) :
  Calls Tryz.prog 83 #[.int .i64 k,.int .i64 x,.pointer (some ⟨g,0,none⟩)] w fun r w' => r = .returned (.int .i64 (Fm.ml x (ys.getD k 0))) ∧ w = w' := by
 obtain ⟨_,b,o,rfl,_,hc⟩ := i64at h hk;have q0 := hg.cell (i := 0) rfl;have q1 := hc k hk _ (Below.refl _ _);obtain ⟨y,hy⟩ : ∃ y,ys.getD k 0 = y := ⟨_,rfl⟩;rw [hy] at q1 ⊢;have k0 : (0 : Int) ≤ (k : Int) := by omega
 have k1 : (k : Int) < (m : Int) := by omega
 clear hc hg h hy;go_enter Tryz.func83,Tryz.ntmps83
 go_wp2_with (with_reducible refine (mul_any _ _ _).mono ?_;rintro r w1 ⟨rfl,rfl⟩)
 go_ret;exact ⟨rfl,rfl⟩
theorem sumD_any (A1 : Option Addr) (n c1 : Nat) (xs : List Int) (g : Nat) (A : Option Addr) (m c : Nat) (ys : List Int) (w : World) (h1 : Rd w w.heap.size 1 A1 n (ivs xs)) (hg : Row w g 23 [.slice A m c]) (h : Rd w w.heap.size 1 A m (ivs ys)) (hnm : n ≤ m) (hm : m ≤ 4096) :
  Calls Tryz.prog 82 #[.slice A1 n c1,.func (.func 83) #[] #[.pointer (some ⟨g,0,none⟩)]] w fun r w' => r = .returned (.int .i64 (tm xs ys n)) ∧ Below w.heap.size w w' := by
 obtain ⟨s,hs⟩ : ∃ s,w.heap.size = s := ⟨_,rfl⟩
 have HT : Hid (∀ (k : Nat) x W,Below s w W → k < n → Calls Tryz.prog 83 #[.int .i64 k,.int .i64 x,.pointer (some ⟨g,0,none⟩)] W fun r w' => r = .returned (.int .i64 (Fm.ml x (ys.getD k 0))) ∧ W = w') := fun k x W hW hk =>
  times1_any k x g A m c ys w.heap.size W (hg.below (by rw [hs];exact hW) hg.lt) (h.below (by rw [hs];exact hW)) (by omega) hm
 have HA : Hid (0 < n → ∃ b o,A1 = some ⟨b,o,none⟩ ∧ ∀ j,j < n → ∀ W,Below s w W → W.cell? ⟨b,o + j,none⟩ = some (.int .i64 (xs.getD j 0))) := fun h0 => by
  obtain ⟨_,b,o,e,_,hc⟩ := i64at h1 h0;exact ⟨b,o,e,fun j hj W hW => hc j hj W (by rw [hs];exact hW)⟩
 have hn : n ≤ 4096 := by omega
 have HS := Lib.hid hs;rw [hs];clear hg h h1 hs hnm;go_enter Tryz.func82,Tryz.ntmps82
 go_wp2_with fail
 go_loopw [4,9] (fun t i wr => ∃ k : Nat,k ≤ n ∧ i = .int .i64 k ∧ t = .int .i64 (tm xs ys k) ∧ Below s w wr) (fun _ i _ => n - (intOf i).toNat)
 case atStart => exact ⟨0,Nat.zero_le _,rfl,rfl,by rw [← HS.out];exact Below.refl _ _⟩
 case round =>
  obtain ⟨k,hk,rfl,rfl,hb⟩ := hrel;have HB := Lib.hid hb;clear hb
  by_cases hlt : k < n
  ·have k1 : (k : Int) < (n : Int) := by omega
   have k0 : (0 : Int) ≤ (k : Int) := by omega
   obtain ⟨b,o,hA1,hcc⟩ := HA.out (by omega);subst hA1;have q0 := hcc k hlt wr HB.out;have HC := Lib.hid (HT.out k (xs.getD k 0) wr HB.out hlt);have HN : Hid (tm xs ys (k + 1) = Fm.ad (tm xs ys k) (Fm.ml (xs.getD k 0) (ys.getD k 0))) := rfl;generalize xs.getD k 0 = X at q0 HC HN;generalize ys.getD k 0 = Y at HC HN;generalize tm xs ys k = T at HN ⊢;clear hcc
   go_wp2_with fail
   refine HC.out.mono ?_;rintro r w1 ⟨rfl,rfl⟩
   go_wp2_with fail
   refine (add_any _ _ _).mono ?_;rintro r w2 ⟨rfl,hw2⟩;have HB2 : Hid (Below s w w2) := by rw [← hw2];exact HB.out.alloc (by have := HB.out.size;rw [HS.out] at this;exact this) _
   clear hw2 q0
   go_wp2_with fail
   go_roundw
   case rel => exact ⟨k + 1,by omega,by go_num,by rw [HN.out],HB2.out⟩
   case measure => simp [intOf];omega
  ·obtain rfl : k = n := by omega
   go_wp2;go_ret;exact ⟨rfl,HB.out⟩
theorem times_any (A1 : Option Addr) (n c1 : Nat) (xs : List Int) (A : Option Addr) (m c : Nat) (ys : List Int) (w : World) (h1 : Rd w w.heap.size 1 A1 n (ivs xs)) (h : Rd w w.heap.size 1 A m (ivs ys)) (hnm : n ≤ m) (hm : m ≤ 4096) :
  Calls Tryz.prog 30 #[.slice A1 n c1,.slice A m c] w fun r w' => r = .returned (.int .i64 (tm xs ys n)) ∧ Below w.heap.size w w' := by
 have hb : Below w.heap.size w (w.alloc (.cells #[.slice A m c] 23)) := (Below.refl _ w).alloc (Nat.le_refl _) _;have HS := Lib.hid (sumD_any A1 n c1 xs w.heap.size A m c ys (w.alloc (.cells #[.slice A m c] 23)) ((h1.below hb).more (by simp)) (Row.fresh' _ _ _ rfl) ((h.below hb).more (by simp)) hnm hm);have HB := Lib.hid hb;clear h1 h hb hnm hm;go_enter Tryz.func30,Tryz.ntmps30
 go_wp2_with fail
 refine HS.out.mono ?_;rintro r w1 ⟨rfl,hb1⟩;have HB1 : Hid (Below w.heap.size w w1) := HB.out.trans (hb1.mono (by simp));clear hb1;go_wp2;go_ret;exact ⟨rfl,HB1.out⟩
section
variable {W : World} {B B' N : Nat} {rs : List RI} {P L : List Int} {rA : Option Addr} {rc : Nat} {oA : Option Addr} {oc tb : Nat} {RA : Option Addr} {rc' : Nat} {OA : Option Addr} {oc' : Nat}
theorem selR_len : (selR rs P L).length = (sel P L P.length).length := by simp [selR]
theorem selR_mem (hp : Prg W B' N P RA rc' OA oc' rs) {r : RI} (hr : r ∈ selR rs P L) : r ∈ rs := by
 obtain ⟨i,hi,rfl⟩ := List.mem_map.1 hr;exact (getD_mem' (by rw [hp.len];exact sel_lt hi)).1
theorem QA.rdm (h : QA W B rs P L N rA rc oA oc tb) (hp : Prg W B' N P RA rc' OA oc' rs) (hB : B' ≤ W.heap.size) : RdM W W.heap.size rA (selR rs P L) := by
 refine ⟨?_,fun r hr => (hp.rd.rows r (selR_mem hp hr)).more hB⟩;rw [selR_len,show (selR rs P L).map RI.cell = (sel P L P.length).map fun i => (rs.getD i r0).cell by simp [selR]];exact Rd.of_own h.own1
end
theorem tgt_ok {W : World} {tb N : Nat} (h : Row W tb 3 (ivs (1 :: List.replicate (N - 1) 0))) (hN : 1 ≤ N) (hN2 : N ≤ 4096) : (⟨some ⟨tb,0,none⟩,N,1 :: List.replicate (N - 1) 0⟩ : RI).ok W W.heap.size ∧ FRow N ⟨some ⟨tb,0,none⟩,N,1 :: List.replicate (N - 1) 0⟩ := by
 have hl : (1 :: List.replicate (N - 1) (0 : Int)).length = N := by simp;omega
 refine ⟨⟨⟨by simp,fun _ => ⟨tb,0,rfl,h.lt,fun j u hu => by rw [Nat.zero_add];exact h.cell hu⟩⟩,by show (1 :: List.replicate (N - 1) (0 : Int)).length ≤ N ∧ N ≤ maxLen;rw [hl];exact ⟨Nat.le_refl _,by unfold maxLen;omega⟩⟩,hl,fun x hx => ?_,fun x hx => ?_⟩
 ·rcases List.mem_cons.1 hx with rfl | hx
  ·decide
  ·rw [(List.mem_replicate.1 hx).2];decide
 ·rcases List.mem_cons.1 hx with rfl | hx
  ·decide
  ·rw [(List.mem_replicate.1 hx).2];decide
theorem selR_d (rs : List RI) (P L : List Int) (hl : rs.length = P.length) : (selR rs P L).map RI.d = selD (rs.map RI.d) P L := by
 unfold selR selD;rw [List.map_map];refine List.map_congr_left fun i hi => ?_;have := sel_lt hi;show (rs.getD i r0).d = _;rw [List.getD_eq_getElem?_getD,List.getD_eq_getElem?_getD,List.getElem?_map,List.getElem?_eq_getElem (by omega)]
 rfl
def AccV (s n : Nat) (b : Bool) (us : List Int) (v : Value) (w' : World) : Prop := (b = false → v = .slice none 0 0) ∧ (b = true → ∃ zb,v = .slice (some ⟨zb,0,none⟩) n n ∧ Row w' zb 3 (ivs us) ∧ s ≤ zb)
def AccQ (ACC : Bool → List Int → Prop) (s n : Nat) (r : Ending) (w' : World) : Prop := ∃ v b us,r = .returned (.tuple #[v,.bool b,.int .i64 0]) ∧ ACC b us ∧ AccV s n b us v w'
theorem acc_any (N : Nat) (P L : List Int) (RA : Option Addr) (rc : Nat) (OA : Option Addr) (oc : Nat) (rs : List RI) (WA : Option Addr) (wc : Nat) (w : World) (h : Prg w w.heap.size N P RA rc OA oc rs) (h0 : P = [] → N = 1) (hP : ∀ p ∈ P,0 ≤ p ∧ p < 64) (hN0 : 1 ≤ N) (hN : N ≤ 60) (hn : P.length ≤ 60)
  (hL : Ppl L) (hw : Rd w w.heap.size 1 WA L.length (ivs L)) :
  Calls Tryz.prog 7 #[.agg #[.slice RA P.length rc,.slice OA P.length oc],.slice WA L.length wc] w fun r w' => AccQ (AccR N (rs.map RI.d) P L) w.heap.size P.length r w' ∧ Below w.heap.size w w' := by
 have hq := (h.below ((Below.refl _ w).alloc (Nat.le_refl _) (.cells #[.slice RA P.length rc,.slice OA P.length oc] 25))).more (B' := (w.alloc (.cells #[.slice RA P.length rc,.slice OA P.length oc] 25)).heap.size) (by simp);have hwq := (hw.below ((Below.refl _ w).alloc (Nat.le_refl _) (.cells #[.slice RA P.length rc,.slice OA P.length oc] 25))).more (B' := (w.alloc (.cells #[.slice RA P.length rc,.slice OA P.length oc] 25)).heap.size) (by simp)
 have HQ : Hid (Calls Tryz.prog 32 #[.agg #[.slice RA P.length rc,.slice OA P.length oc],.slice WA L.length wc] (w.alloc (.cells #[.slice RA P.length rc,.slice OA P.length oc] 25)) fun r w' => ∃ qA qc aA ac tb,r = .returned (.tuple #[.slice qA (sel P L P.length).length qc,.slice aA (sel P L P.length).length ac,.slice (some ⟨tb,0,none⟩) N N,.int .i64 0]) ∧ QA w' (w.alloc (.cells #[.slice RA P.length rc,.slice OA P.length oc] 25)).heap.size rs P L N qA qc aA ac tb ∧ Below (w.alloc (.cells #[.slice RA P.length rc,.slice OA P.length oc] 25)).heap.size (w.alloc (.cells #[.slice RA P.length rc,.slice OA P.length oc] 25)) w') := by
  show Calls _ _ _ _ _
  by_cases e : P = []
  ·exact question0_any N P L RA rc OA oc rs WA wc _ hq e (h0 e) hP hN0 (by omega) (by omega) hL hwq
  ·exact question_any N P L RA rc OA oc rs WA wc _ hq (by cases P with | nil => exact absurd rfl e | cons a l => simp) hP hN0 (by omega) (by omega) hL hwq
 have HSE : Hid (∀ W qA qc aA ac tb B,QA W B rs P L N qA qc aA ac tb → Below w.heap.size w W → Calls Tryz.prog 33 #[.slice qA (sel P L P.length).length qc,.slice (some ⟨tb,0,none⟩) N N] W fun x w' => CombR (Gs.Sol N (selD (rs.map RI.d) P L) (tgt N)) W.heap.size (sel P L P.length).length x w' ∧ Below W.heap.size W w') := fun W qA qc aA ac tb B hq hb => by
  have hp := h.below hb;obtain ⟨t1,t2⟩ := tgt_ok hq.tgt hN0 (by omega);have hl := selR_len (rs := rs) (P := P) (L := L);have hsl : (sel P L P.length).length ≤ P.length := sel_le P L P.length;have := combG_any N qA qc (selR rs P L) ⟨some ⟨tb,0,none⟩,N,1 :: List.replicate (N - 1) 0⟩ W (hq.rdm hp hb.size) (fun r hr => hp.dat r (selR_mem hp hr)) t1 t2 (by omega) hN (by omega);rw [hl,RI.cell_eq,t2.len,selR_d rs P L h.len] at this;exact this
 have HB1 : Hid (Below w.heap.size w (w.alloc (.cells #[.slice RA P.length rc,.slice OA P.length oc] 25)) ∧ Row (w.alloc (.cells #[.slice RA P.length rc,.slice OA P.length oc] 25)) w.heap.size 25 [.slice RA P.length rc,.slice OA P.length oc]) := ⟨(Below.refl _ _).alloc (Nat.le_refl _) _,Row.fresh _ _ _⟩;have HSL : Hid (∀ i,i ∈ sel P L P.length → i < P.length) := fun i hi => sel_lt hi;have HSZ0 : Hid ((sel P L P.length).length ≤ 60) := Nat.le_trans (sel_le P L P.length) hn;have HACC : Hid (∀ b ys,Gs.Sol N (selD (rs.map RI.d) P L) (tgt N) b ys → AccR N (rs.map RI.d) P L b (usTo P.length (sel P L P.length) ys (sel P L P.length).length)) := fun b ys h => ⟨ys,h,rfl⟩
 have HYL : Hid (∀ b ys,Gs.Sol N (selD (rs.map RI.d) P L) (tgt N) b ys → ys.length = (sel P L P.length).length) := fun b ys h => by
  obtain ⟨ps,M,_,_,rfl⟩ := h;rw [Gs.ysTo_len];simp [selD]
 obtain ⟨SOL,hSOL⟩ : ∃ S,Gs.Sol N (selD (rs.map RI.d) P L) (tgt N) = S := ⟨_,rfl⟩;obtain ⟨ACC,hACC⟩ : ∃ S,AccR N (rs.map RI.d) P L = S := ⟨_,rfl⟩;rw [hSOL] at HSE HACC HYL;rw [hACC] at HACC ⊢;obtain ⟨n,hnn⟩ : ∃ n,P.length = n := ⟨_,rfl⟩;obtain ⟨m,hmm⟩ : ∃ m,L.length = m := ⟨_,rfl⟩;have HQA : Hid (∀ W B qA qc aA ac tb,QA W B rs P L N qA qc aA ac tb → Rd W W.heap.size 1 aA (sel P L P.length).length ((sel P L P.length).map fun i : Nat => .int .i64 (i : Int))) := fun W B qA qc aA ac tb hq => Rd.of_own hq.own2;obtain ⟨SL,hSL⟩ : ∃ x,sel P L P.length = x := ⟨_,rfl⟩;rw [hSL] at HSL HQA HSZ0 HACC HYL HQ HSE;rw [hnn] at HQ HB1 HSL HACC ⊢;rw [hmm] at HQ ⊢;obtain ⟨M,hM⟩ : ∃ x,SL.length = x := ⟨_,rfl⟩;have HSN := Lib.hid hM;rw [hM] at HQ HSE HQA HACC HYL HSZ0;have hn64 : n ≤ 60 := by omega
 have hM60 : M ≤ 60 := HSZ0.out;clear h h0 hP hL hw hSL hnn hmm hn hM hq hwq hSOL hACC HSZ0;obtain ⟨s,hs⟩ : ∃ s,w.heap.size = s := ⟨_,rfl⟩;rw [hs] at HB1 HSE ⊢;have HS := Lib.hid hs;clear hs;go_enter Tryz.func7,Tryz.ntmps7
 go_wp2_with fail
 rw [HS.out];refine HQ.out.mono ?_;rintro x w2 ⟨qA,qc,aA,ac,tb,rfl,hqa,hb2⟩;have hsz1 := HB1.out.2.lt;have HB2 : Hid (Below s w w2) := HB1.out.1.trans (hb2.mono (by omega));have hr2 := HB1.out.2.below hb2 hsz1;have HRD := Lib.hid (HQA.out _ _ _ _ _ _ _ hqa);have HS2 := Lib.hid (HSE.out w2 qA qc aA ac tb _ hqa HB2.out);have HR2 := Lib.hid hr2;clear hqa hb2 hr2 HSE HQ HB1 HQA hsz1
 go_wp2_with fail
 refine HS2.out.mono ?_;rintro x w3 ⟨⟨cv,cb,ys,rfl,hsol,hcf,hct⟩,hb3⟩;have HB3 : Hid (Below s w w3) := HB2.out.trans (hb3.mono (by have := HR2.out.lt;omega));have HR3 := Lib.hid (HR2.out.below hb3 HR2.out.lt);have HRD3 := Lib.hid (HRD.out.below hb3);have hsz3 := hb3.size;have HSZ : Hid (w2.heap.size ≤ w3.heap.size) := hsz3;have HSO := Lib.hid hsol
 cases cb with
 | false =>
  have hcv := hcf rfl;subst hcv;clear hb3 hsz3 hsol hcf hct
  go_wp2_with fail
  refine bodyPost_ret (results_tmp_3 rfl _ _) rfl ?_;exact ⟨⟨.slice none 0 0,false,_,rfl,HACC.out _ _ HSO.out,⟨fun _ => rfl,(fun h => by cases h)⟩⟩,HB3.out⟩
 | true =>
  obtain ⟨yb,hcv,hry,hyb⟩ := hct rfl;subst hcv;have hyl := HYL.out _ _ hsol;have HYY := Lib.hid (And.intro hyl (And.intro hry hyb));clear hb3 hyl hry hyb hsz3 hsol hcf hct;have p0 := HR3.out.cell (i := 0) rfl;have ls := HR3.out.lt;have hmk := makeI_any n (by omega)
  go_wp2_with fail
  clear p0;have hy4 : Row (w3.alloc (.cells (madeCells #[.int .i64 0] n) 3)) w3.heap.size 3 (ivs (List.replicate n 0)) := by rw [madeZero];exact Row.fresh w3 3 (ivs (List.replicate n 0))
  have hb4 : Below w3.heap.size w3 (w3.alloc (.cells (madeCells #[.int .i64 0] n) 3)) := (Below.refl _ _).alloc (Nat.le_refl _) _;generalize (w3.alloc (.cells (madeCells #[.int .i64 0] n) 3)) = w4 at hy4 hb4 ⊢;obtain ⟨zb,hzb⟩ : ∃ x,w3.heap.size = x := ⟨_,rfl⟩;rw [hzb] at hy4;rw [hzb];have HW4 : Hid (Row w4 zb 3 (ivs (List.replicate n 0)) ∧ Below w3.heap.size w3 w4) := ⟨hy4,hb4⟩;have HZB := Lib.hid hzb;clear hmk hy4 hb4 hzb ls
  go_loopw [44] (fun i wx => ∃ (k : Nat) (us : List Int),us = usTo n SL ys k ∧ k ≤ M ∧ i = .int .i64 k ∧ us.length = n ∧ Row wx zb 3 (ivs us) ∧ Tch (fun g => g = zb) w4 wx) (fun i _ => M - (intOf i).toNat)
  case atStart => exact ⟨0,List.replicate n 0,rfl,Nat.zero_le _,rfl,by simp,HW4.out.1,Tch.refl _ _⟩
  case round =>
   obtain ⟨k,us,hus,hk,rfl,hul,hru,htc⟩ := hrel
   by_cases hlt : k < M
   ·have k1 : (k : Int) < (M : Int) := by omega
    have k0 : (0 : Int) ≤ (k : Int) := by omega
    obtain ⟨b,o,hA1,hbb,hcc⟩ := HRD3.out.2 (by omega);subst hA1;have hkl : k < SL.length := by rw [HSN.out];exact hlt
    have hw3 : Below w3.heap.size w3 wr := HW4.out.2.trans (htc.below HW4.out.2.size (by intro i hi e;have := HZB.out;omega))
    have q0 : wr.cell? ⟨b,o + k,none⟩ = some (.int .i64 ((SL[k] : Nat) : Int)) := by
     rw [hw3.cell (p := ⟨b,o + k,none⟩) (by have := HSZ.out;show b < w3.heap.size;omega)];exact hcc k _ (by rw [List.getElem?_map,List.getElem?_eq_getElem hkl];rfl)
    have hsk := HSL.out _ (List.getElem_mem hkl);obtain ⟨r,hr⟩ : ∃ r,SL[k] = r := ⟨_,rfl⟩;have hrD : SL.getD k 0 = r := by rw [List.getD_eq_getElem?_getD,List.getElem?_eq_getElem hkl];exact hr
    rw [hr] at q0 hsk
    have q1 : wr.cell? ⟨yb,k,none⟩ = some (.int .i64 (ys.getD k 0)) := by
     rw [hw3.cell (p := ⟨yb,k,none⟩) HYY.out.2.1.lt];exact HYY.out.2.1.cell (by rw [List.getElem?_map,List.getElem?_eq_getElem (by rw [HYY.out.1];exact hlt),List.getD_eq_getElem?_getD,List.getElem?_eq_getElem (by rw [HYY.out.1];exact hlt)];rfl)
    obtain ⟨X,hX⟩ : ∃ x,ys.getD k 0 = x := ⟨_,rfl⟩;rw [hX] at q1;have HUS : Hid (us.set r X = usTo n SL ys (k + 1)) := by show us.set r X = (usTo n SL ys k).set _ _;rw [hus,hrD,hX]
    have j0 : (0 : Int) ≤ (r : Int) := by omega
    have j1 : (r : Int) < (n : Int) := by omega
    have cy := hru.cell (i := r) (v := .int .i64 (us.getD r 0)) (by rw [List.getElem?_map,List.getElem?_eq_getElem (by omega),List.getD_eq_getElem?_getD,List.getElem?_eq_getElem (by omega)];rfl);have fy := hru.fz r;have HRU := Lib.hid (And.intro hul (And.intro hru htc));clear hcc hul hru htc hw3 hr hX hus hrD
    go_wp2_with fail
    go_roundw
    case rel =>
     refine ⟨k + 1,us.set r X,HUS.out,by omega,by go_num,by rw [List.length_set];exact HRU.out.1,?_,HRU.out.2.2.set (p := ⟨zb,r,none⟩) (.inr rfl) _⟩;have := HRU.out.2.1.put r (.int .i64 X)
     rwa [show (ivs us).set r (.int .i64 X) = ivs (us.set r X) by simp [List.map_set]] at this
    case measure => simp [intOf];omega
   ·have hkM : k = M := by omega
    have HTC := Lib.hid (And.intro htc hru);have HUS := Lib.hid hus;have HKM := Lib.hid hkM;have k1 : ¬ (k : Int) < (M : Int) := by omega
    clear hru htc hus hlt hkM
    go_wp2_with fail
    refine bodyPost_ret (results_tmp_3 rfl _ _) rfl ?_;refine ⟨⟨.slice (some ⟨zb,0,none⟩) n n,true,us,rfl,?_,⟨(fun h => by cases h),fun _ => ⟨zb,rfl,HTC.out.2,?_⟩⟩⟩,?_⟩
    ·rw [HUS.out,HKM.out];exact HACC.out _ _ HSO.out
    ·have := HB3.out.size;have := HZB.out;have := HR3.out.lt;omega
    ·exact (HB3.out.trans (HW4.out.2.mono (by have := HR3.out.lt;omega))).trans (HTC.out.1.below (by have := HB3.out.size;have := HW4.out.2.size;have := HR3.out.lt;omega) (by intro i hi e;have := HZB.out;have := HR3.out.lt;omega))
end Go.Proofs.YtifejdpffkeniaaGreatDoor
