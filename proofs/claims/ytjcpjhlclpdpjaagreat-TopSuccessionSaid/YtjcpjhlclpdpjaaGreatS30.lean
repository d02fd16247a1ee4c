import Derived.Test.YtjcpjhlclpdpjaaGreatS29
import Derived.Test.YtjcpjhlclpdpjaaGreatS27
set_option linter.unusedVariables false
set_option maxRecDepth 100000
set_option maxHeartbeats 16000000
namespace Go.Proofs.YtjcpjhlclpdpjaaGreat
open Go.RowKit
attribute [local go_sem] Oper.semAt_some
theorem pcheck0_any (RA : Option Addr) (rc : Nat) (OA : Option Addr) (oc : Nat) (w : World) :
  Calls Tryz.prog 71 #[.agg #[.slice RA 0 rc,.slice OA 0 oc]] w fun r w' => r = .returned (.int .i64 0) ∧ w.alloc (.cells #[.slice RA 0 rc,.slice OA 0 oc] 71) = w' := by
 have HCR : Hid (∀ W,Calls Tryz.prog 98 #[.slice RA 0 rc,.func (.func 97) #[] #[]] W fun r w' => r = .returned (.bool false) ∧ W = w') := fun W =>
  prC_any RA 0 rc (by omega) (fun k => none) (fun k => 0) (fun k => 0) (fun _ V => W = V) W rfl (fun h => absurd h (by omega)) (fun k hk => absurd hk (by omega))
 have HCR0 := Lib.hid (HCR.out (w.alloc (.cells #[.slice RA 0 rc,.slice OA 0 oc] 71)))
 go_enter Tryz.func71,Tryz.ntmps71
 go_wp2_with fail
 refine HCR0.out.mono ?_
 rintro x w2 ⟨rfl,rfl⟩
 go_wp2_with fail
 refine wp_loop_rounds 1 ?_
 rw [rounds_succ]
 go_wp2_with fail
 go_ret
 exact ⟨rfl,rfl⟩
theorem own0_hands (P L : List Int) (RA : Option Addr) (rc : Nat) (OA : Option Addr) (oc : Nat) (rs : List RI) (WA : Option Addr) (wc sp sw : Nat) (h0 : P = []) (w0 : World) (I : Nat → World → Prop)
  (hI : ∀ s W,I s W → Row W sp 71 [.slice RA 0 rc,.slice OA 0 oc]) :
  Hands Fence.wide 8 Tryz.prog 102 #[.pointer (some ⟨sp,0,none⟩),.pointer (some ⟨sw,0,none⟩)] w0 I (fun s vs s' _ => OwnT P L rs s vs s') 0 (OwnS P L) := by
 intro l J Jx W hb hJI hJ hJx hY h0'
 have c1 := hI _ _ (hJI _ _ h0')
 have p0 := c1.cell (i := 0) rfl
 have H0 := Lib.hid h0'
 clear hI hJI hJ hJx hY h0' hb c1
 refine callsIn_of_wp Tryz.func102 rfl trivial ?_ rfl
 simp only [Tryz.ntmps102,List.size_toArray,List.length_cons,List.length_nil,Nat.reduceAdd,Nat.reduceSub,Array.replicate_succ,Array.replicate_zero,List.push_toArray,List.append_toArray,List.nil_append,List.cons_append]
 gi_wp2
 gi_loopw [11] (fun x wr => x = .int .i64 0 ∧ J 0 wr) (fun x _ => 0)
 case atStart => exact ⟨rfl,H0.out⟩
 case round =>
  clear H0
  obtain ⟨rfl,hj⟩ := hrel
  have HJ := Lib.hid hj
  clear hj
  gi_wp2
  refine bodyPost_end (results_none' rfl _ _ _ rfl) rfl ?_
  exact ⟨⟨_,rfl⟩,.inl ⟨0,fun j h1 h2 => absurd h2 (by rw [h0];simp),HJ.out⟩⟩
theorem question0_any (N : Nat) (P L : List Int) (RA : Option Addr) (rc : Nat) (OA : Option Addr) (oc : Nat) (rs : List RI) (WA : Option Addr) (wc : Nat) (w : World) (h : Prg w w.heap.size N P RA rc OA oc rs) (h0 : P = []) (hN1' : N = 1) (hP : ∀ p ∈ P,0 ≤ p ∧ p < 64) (hN0 : 1 ≤ N) (hN : N ≤ 64) (hn : P.length ≤ 64)
  (hL : Ppl L) (hw : Rd w w.heap.size 1 WA L.length (ivs L)) :
  Calls Tryz.prog 49 #[.agg #[.slice RA P.length rc,.slice OA P.length oc],.slice WA L.length wc] w fun r w' => ∃ qA qc aA ac tb,r = .returned (.tuple #[.slice qA (sel P L P.length).length qc,.slice aA (sel P L P.length).length ac,.slice (some ⟨tb,0,none⟩) N N,.int .i64 0]) ∧ QA w' w.heap.size rs P L N qA qc aA ac tb ∧ Below w.heap.size w w' := by
 subst hN1'
 obtain ⟨s,hs⟩ : ∃ s,w.heap.size = s := ⟨_,rfl⟩
 have hm := hL.len
 have HCK : Hid (∀ W,Below s w W → Calls Tryz.prog 71 #[.agg #[.slice RA P.length rc,.slice OA P.length oc]] W fun r w' => r = .returned (.int .i64 0) ∧ Below W.heap.size W w') := fun W hW => by
  rw [h0]
  refine (pcheck0_any RA rc OA oc W).mono ?_
  rintro r w' ⟨e1,e2⟩
  exact ⟨e1,by rw [← e2];exact (Below.refl _ _).alloc (Nat.le_refl _) _⟩
 have HHN : Hid (∀ W,Below s w W → ∀ sp sw (w0 : World) (I : Nat → World → Prop),(∀ q V,I q V → Below W.heap.size W V ∨ Below s w V) → (∀ q V,I q V → Row V sp 71 [.slice RA P.length rc,.slice OA P.length oc] ∧ Row V sw 23 [.slice WA L.length wc]) → Hands Fence.wide 8 Tryz.prog 102 #[.pointer (some ⟨sp,0,none⟩),.pointer (some ⟨sw,0,none⟩)] w0 I (fun s vs s' _ => OwnT P L rs s vs s') 0 (OwnS P L)) := fun W hW sp sw w0 I hb hI =>
  own0_hands P L RA rc OA oc rs WA wc sp sw h0 w0 I fun q V hq => by have h9 := (hI q V hq).1;rw [h0] at h9;exact h9
 have HWL : Hid (∀ k,k < L.length → ∃ b o p,WA = some ⟨b,o,none⟩ ∧ (∀ W,Below s w W → W.cell? ⟨b,o + k,none⟩ = some (.int .i64 p)) ∧ p = L.getD k 0 ∧ lastI L k < p ∧ lastI L (k + 1) = p ∧ ∀ W,Calls Tryz.prog 72 #[.int .i64 p] W fun r w' => r = .returned (.bool true) ∧ W = w') := fun k hk => by
  obtain ⟨_,b,o,e1,_,hc⟩ := i64at hw hk
  obtain ⟨q1,q2,q3,_⟩ := hL.last hk
  exact ⟨b,o,L.getD k 0,e1,by rw [← hs];exact hc k hk,rfl,q1,by unfold lastI;rw [if_neg (by omega)];rfl,fun W => isPerson_any _ W q2 q3⟩
 have H0 := Lib.hid h0
 have hnn : P.length = 0 := by rw [h0];rfl
 obtain ⟨m,hmm⟩ : ∃ m,L.length = m := ⟨_,rfl⟩
 have HNN := Lib.hid (And.intro hnn hmm)
 rw [hnn] at HCK HHN hn ⊢
 rw [hmm] at HHN HWL hm ⊢
 have HS := Lib.hid hs
 have HW0 : Hid (∀ W,W = (((w.alloc (.cells #[.slice RA 0 rc,.slice OA 0 oc] 71)).alloc (.cells #[.slice none 0 0] 24)).alloc (.cells #[.slice none 0 0] 23)) → Below s w W ∧ Row W s 71 [.slice RA 0 rc,.slice OA 0 oc] ∧ Row W (s + 1) 24 [.slice none 0 0] ∧ Row W (s + 1 + 1) 23 [.slice none 0 0]) := fun W e => by
  rw [e]
  exact ⟨by rw [← hs];exact (((Below.refl _ w).alloc (Nat.le_refl _) _).alloc (by simp) _).alloc (by simp;omega) _,((Row.fresh' _ _ _ hs).alloc _).alloc _,(Row.fresh' _ _ _ (by simp [hs])).alloc _,Row.fresh' _ _ _ (by simp [hs])⟩
 clear h hP hL hw hs hnn hmm h0
 have hN1 : (0 : Int) < (1 : Int) := by omega
 rw [HS.out]
 refine (callsIn_wide (n := 9)).1 ?_
 refine callsIn_of_wp_marks Tryz.func49 rfl trivial ?_ rfl
 simp only [Tryz.ntmps49,List.size_toArray,List.length_cons,List.length_nil,Nat.reduceAdd,Nat.reduceSub,Array.replicate_succ,Array.replicate_zero,List.push_toArray,List.append_toArray,List.nil_append,List.cons_append]
 gi_wp2_with fail
 rw [HS.out]
 obtain ⟨w1,hw1⟩ : ∃ x,(((w.alloc (.cells #[.slice RA 0 rc,.slice OA 0 oc] 71)).alloc (.cells #[.slice none 0 0] 24)).alloc (.cells #[.slice none 0 0] 23)) = x := ⟨_,rfl⟩
 obtain ⟨r1,r2,r3,r4⟩ := HW0.out w1 hw1.symm
 rw [hw1]
 clear HW0 hw1
 refine ⟨trivial,(callsIn_wide.2 (HCK.out w1 r1)).mono ?_⟩
 rintro x w2 ⟨rfl,hb2⟩
 have HB2 : Hid (Below s w w2) := r1.trans (hb2.mono (by have := r2.lt;omega))
 have HR2 : Hid (Row w2 s 71 [.slice RA 0 rc,.slice OA 0 oc] ∧ Row w2 (s + 1) 24 [.slice none 0 0] ∧ Row w2 (s + 1 + 1) 23 [.slice none 0 0]) := ⟨r2.below hb2 r2.lt,r3.below hb2 r3.lt,r4.below hb2 r4.lt⟩
 clear r1 r2 r3 r4 hb2 HCK
 gi_wp2_with fail
 gi_loopw [21,8] (fun i l wr => w2 = wr ∧ ∃ k : Nat,k ≤ m ∧ i = .int .i64 k ∧ l = .int .i64 (lastI L k)) (fun i _ _ => m - (intOf i).toNat)
 case atStart => exact ⟨rfl,0,Nat.zero_le _,rfl,rfl⟩
 case round =>
  obtain ⟨rfl,k,hk,rfl,rfl⟩ := hrel
  by_cases hlt : k < m
  ·have k1 : (k : Int) < (m : Int) := by omega
   have k0 : (0 : Int) ≤ (k : Int) := by omega
   obtain ⟨b,o,p,hWA,hc,hp,hl1,hl2,hIP⟩ := HWL.out k hlt
   subst hWA
   have q0 := hc w2 HB2.out
   have HIP := Lib.hid hIP
   obtain ⟨X,hX⟩ : ∃ X,lastI L k = X := ⟨_,rfl⟩
   rw [hX] at hl1 ⊢
   have HL2 := Lib.hid hl2
   have nl : ¬ (p ≤ X) := by omega
   clear hc hp hl2 hIP hX
   gi_wp2_with (refine ⟨trivial,?_⟩;gi_at_call 72;refine (callsIn_wide.2 (HIP.out _)).mono ?_;rintro e w4 ⟨rfl,rfl⟩)
   go_roundw
   case rel => exact ⟨trivial,k + 1,by omega,by go_num,by rw [HL2.out]⟩
   case measure => simp [intOf];omega
  ·obtain rfl : k = m := by omega
   clear HWL
   have p0 := HR2.out.1.cell (i := 0) rfl
   have p1 := HR2.out.1.cell (i := 1) rfl
   have hmk : ∀ w : World,(Instr.makeSlice 23 (.int .i64 1) (.int .i64 1)).run Tryz.prog w = .ok (.slice (some ⟨w.heap.size,0,none⟩) 1 1) (w.alloc (.cells (madeCells #[.int .i64 0] 1) 3)) := by
    have h9 := makeI_any 1 (by omega)
    rw [show ((1 : Nat) : Int) = 1 by omega] at h9
    exact h9
   have hrm : Row (w2.alloc (.cells (madeCells #[.int .i64 0] 1) 3)) w2.heap.size 3 (ivs (List.replicate 1 0)) := by rw [madeZero];exact Row.fresh w2 3 (ivs (List.replicate 1 0))
   have cm := hrm.cell (i := 0) (v := .int .i64 0) (by rw [List.getElem?_map,List.getElem?_replicate,if_pos (by omega)];rfl)
   have fm := hrm.fz 0
   have ls := HR2.out.1.lt
   have HRM := Lib.hid hrm
   clear hrm
   have HTB : Hid ((madeCells #[Value.int .i64 0] 1).setIfInBounds 0 (.int .i64 1) = (ivs (1 :: List.replicate (1 - 1) 0)).toArray) := by
    show _ = _
    rw [madeZero]
    simp
   gi_wp2_with fail
   refine ⟨trivial,(callsIn_wide.2 (own_any _ _ _ _ _ _ _ _ _ _)).mono ?_⟩
   rintro x w4 ⟨rfl,hw4⟩
   rw [HTB.out] at hw4 ⊢
   obtain ⟨tb,htb⟩ : ∃ x,w2.heap.size = x := ⟨_,rfl⟩
   have hb4 : Below w2.heap.size w2 w4 := by rw [← hw4];exact (((Below.refl _ _).alloc (Nat.le_refl _) _).alloc (by simp) _).alloc (by simp;omega) _
   have ht4 : Row w4 tb 3 (ivs (1 :: List.replicate (1 - 1) 0)) := by rw [← hw4];exact ((Row.fresh' _ _ _ htb).alloc _).alloc _
   have hsp : Row w4 (tb + 1) 71 [.slice RA 0 rc,.slice OA 0 oc] := by rw [← hw4];exact (Row.fresh' _ _ _ (by simp [htb])).alloc _
   have hsw : Row w4 (tb + 1 + 1) 23 [.slice WA k wc] := by rw [← hw4];exact Row.fresh' _ _ _ (by simp [htb])
   have hz4 : w4.heap.size = tb + 1 + 1 + 1 := by rw [← hw4];simp [htb]
   have hB4 : Below s w w4 := HB2.out.trans (hb4.mono (by have := HR2.out.1.lt;omega))
   have hx1 := HR2.out.2.1.below hb4 HR2.out.2.1.lt
   have hx2 := HR2.out.2.2.below hb4 HR2.out.2.2.lt
   have hst : s + 1 + 1 < tb := by have := HR2.out.2.2.lt;omega
   have HQ0 : Hid (QJ w4 (s + 1) (s + 1 + 1) (tb + 1 + 1 + 1) rs P L 0 w4 none 0 none 0) := ⟨hx1,hx2,World.ownsRow_nil _ _ _ _,World.ownsRow_nil _ _ _ _,fun g hg => (by cases hg),Tch.refl _ _⟩
   have hns := HNN.out.1
   simp only [World.size_alloc]
   rw [htb]
   clear hw4 p0 p1 hmk cm fm HRM hx1 hx2 hb4 ls
   gi_wp2_with fail
   refine wpIn_range_hands (F := Fence.wide) (σ := Nat) rfl (by omega) (gf := 102) (lb := #[.pointer (some ⟨tb + 1,0,none⟩),.pointer (some ⟨tb + 1 + 1,0,none⟩)]) (by rfl) trivial (enters_of Tryz.func102 (by kernel_rfl) rfl)
    (fun (q : Nat) V => q ≤ 0 ∧ ∃ rA rc' oA oc',QJ w4 (s + 1) (s + 1 + 1) (tb + 1 + 1 + 1) rs P L q V rA rc' oA oc') (fun _ (_ : Nat) W => False)
    (fun (q : Nat) vs q' _ => OwnT P L rs q vs q') 0 (OwnS P L) w4 (Below.refl _ _) ?hsq
    ?oi (fun _ _ _ _ _ h _ _ => h) ⟨Nat.zero_le _,_,_,_,_,HQ0.out⟩ (fun _ _ _ _ h => by obtain ⟨i,_,_,_,_,_,e⟩ := h;rw [e];rfl)
    (fun (q : Nat) a' V => (∃ q0 i A' c' : Nat,∃ A' : Option Addr,q = i + 1 ∧ q0 ≤ i ∧ i < 0 ∧ (∀ j,q0 ≤ j → j < i → ¬ P.getD j 0 ∈ L) ∧ P.getD i 0 ∈ L ∧ (rs.getD i r0).cell = .slice A' 1 c' ∧ a'.tmps.getD 12 undef = .int .i64 (i : Int) ∧ a'.tmps.getD 13 undef = .slice A' 1 c' ∧ q0 ≤ 0 ∧ ∃ rA rc' oA oc',QJ w4 (s + 1) (s + 1 + 1) (tb + 1 + 1 + 1) rs P L q0 V rA rc' oA oc') ∧ a'.tmps.size = 64 ∧ a'.tmps.getD 4 undef = .pointer (some ⟨s + 1,0,none⟩) ∧ a'.tmps.getD 5 undef = .pointer (some ⟨s + 1 + 1,0,none⟩) ∧ a'.defers = []) ?oa ?assign ?body ?done ?stop
   case hsq =>
    refine HHN.out w4 hB4 _ _ w4 _ ?_ ?_
    ·rintro q V ⟨_,rA,rc',oA,oc',h⟩
     exact .inr (hB4.trans (h.tch.below (by omega) (by rintro i hi (e | e) <;> omega)))
    ·rintro q V ⟨_,rA,rc',oA,oc',h⟩
     exact ⟨h.tch.row hsp (by omega),h.tch.row hsw (by omega)⟩
   case oi =>
    rintro q V V' row ⟨hq,rA,rc',oA,oc',h⟩ hg hr
    exact ⟨hq,_,_,_,_,h.grown hg hr⟩
   case oa =>
    rintro q a' _ V V' row ⟨⟨q0,i,A0,c',A',p1,p2,p3,p4,p5,p6,p7,p8,p9,rA,rc',oA,oc',h⟩,q7⟩ hg hr
    exact ⟨⟨q0,i,A0,c',A',p1,p2,p3,p4,p5,p6,p7,p8,p9,_,_,_,_,h.grown hg hr⟩,q7⟩
   case assign =>
    rintro l q vs q' V K hI ⟨i,h1,h2,_⟩ hK
    rw [H0.out] at h2
    exact absurd h2 (by simp)
   case body =>
    rintro l q a' W hl ⟨⟨q0,i,A0,c',A',_,h1,h2,_⟩,_⟩
    exact absurd h2 (by omega)
   case done =>
    rintro D q V hD hOS ⟨hq,rA,rc',oA,oc',hQ⟩ hd
    have hqs : sel P L 0 = sel P L q := sel_skip hq (fun j h1 h2 => hOS j h1 (by rw [hns];exact h2))
    obtain ⟨x1,x2,o1,o2,hdis,htc⟩ := hQ
    rw [← hqs] at x1 x2 o1 o2
    obtain ⟨j,hj⟩ : ∃ x,(sel P L 0).length = x := ⟨_,rfl⟩
    rw [hj] at x1 x2 o1 o2
    have hVT := htc.row ht4 (by omega)
    have hVB : Below s w V := hB4.trans (htc.below (by omega) (by rintro i hi (e | e) <;> omega))
    have hMV : Marks (tb + 1 + 1 + 1) V.heap.size [{ target := .collected D,args := #[] }] V := (Marks.nil (tb + 1 + 1 + 1) (tb + 1 + 1 + 1) V).cons (by omega) (by omega) (heap_lt hd) hd
    have HV := Lib.hid (And.intro o1 (And.intro o2 (And.intro hVT (And.intro hVB hMV))))
    have HJ := Lib.hid hj
    have HSX : Hid ((fun (_ : Nat) (W : World) => Row W (s + 1) 24 [.slice rA j rc'] ∧ Row W (s + 1 + 1) 23 [.slice oA j oc']) 0 V.drew) := ⟨x1.below (Below.refl _ _).drew x1.lt,x2.below (Below.refl _ _).drew x2.lt⟩
    have HVS : Hid (tb + 1 + 1 + 1 ≤ V.heap.size) := by show _ ≤ _;have := htc.size;omega
    clear hqs x1 x2 o1 o2 hdis htc hVT hVB hMV hj hd hD hOS
    gi_wp2_with fail
    rename_i Kz hKz
    refine wpIn_region_treeC (fun (_ : Nat) (W : World) => Row W (s + 1) 24 [.slice rA j rc'] ∧ Row W (s + 1 + 1) 23 [.slice oA j oc']) (.take 0 (.take 1 (.take 2 (.one 3 (.one 4 (.take 5 (.take 6 .done))))))) (by kernel_rfl) (by kernel_rfl) (by kernel_rfl) (by kernel_rfl) (by kernel_rfl) ?_
    have HVD : Hid (Tch (fun g => g = s + 1 ∨ g = s + 1 + 1) V V.drew) := (Tch.refl _ V).drew
    generalize V.drew = Vd at HSX HVD ⊢
    iterate 2 (refine wpOTC_take rfl _ (by rfl) (fun _ => rfl) (by intro w' hS;have q0 := hS.1.cell (i := 0) rfl;have q1 := hS.2.cell (i := 0) rfl;go_simp;try with_reducible rfl) HSX.out fun KK hKK => ?_;go_simp;refine hKK _ ?_;clear hKK KK)
    refine wpOTC_take rfl _ (by rfl) (fun _ => rfl) (by intro w' hS;go_simp;try with_reducible rfl) HSX.out fun KK hKK => ?_
    go_simp
    refine hKK _ ?_
    clear hKK KK
    refine wpOTC_one _ rfl (by rfl) rfl fun KK hKK => ?_
    have c0 := HSX.out.1.cell (i := 0) rfl
    have f0 := HSX.out.1.fz 0
    go_simp
    have hy1 : Row (Vd.setCell ⟨s + 1,0,none⟩ (.slice rA j rc')) (s + 1) 24 [.slice rA j rc'] := HSX.out.1.put 0 _
    have hy2 := HSX.out.2.away (p := ⟨s + 1,0,none⟩) (by show s + 1 + 1 ≠ s + 1;omega) (.slice rA j rc')
    refine hKK _ _ (fun _ _ => ⟨hy1,hy2⟩) ?_
    clear hKK KK c0 f0
    refine wpOTC_one _ rfl (by rfl) rfl fun KK hKK => ?_
    have c0 := HSX.out.2.cell (i := 0) rfl
    have f0 := HSX.out.2.fz 0
    go_simp
    have hy3 := hy1.away (p := ⟨s + 1 + 1,0,none⟩) (by show s + 1 ≠ s + 1 + 1;omega) (.slice oA j oc')
    have hy4 : Row ((Vd.setCell ⟨s + 1,0,none⟩ (.slice rA j rc')).setCell ⟨s + 1 + 1,0,none⟩ (.slice oA j oc')) (s + 1 + 1) 23 [.slice oA j oc'] := hy2.put 0 _
    refine hKK _ _ (fun _ _ => ⟨hy3,hy4⟩) ?_
    clear hKK KK c0 f0
    have htf : Tch (fun g => g = s + 1 ∨ g = s + 1 + 1) V ((Vd.setCell ⟨s + 1,0,none⟩ (.slice rA j rc')).setCell ⟨s + 1 + 1,0,none⟩ (.slice oA j oc')) := (HVD.out.set (p := ⟨s + 1,0,none⟩) (.inr (.inl rfl)) _).set (p := ⟨s + 1 + 1,0,none⟩) (.inr (.inr rfl)) _
    generalize ((Vd.setCell ⟨s + 1,0,none⟩ (.slice rA j rc')).setCell ⟨s + 1 + 1,0,none⟩ (.slice oA j oc')) = V5 at hy3 hy4 htf ⊢
    have HSY : Hid ((fun (_ : Nat) (W : World) => Row W (s + 1) 24 [.slice rA j rc'] ∧ Row W (s + 1 + 1) 23 [.slice oA j oc']) 0 V5) := ⟨hy3,hy4⟩
    have HTF := Lib.hid htf
    clear hy1 hy2 hy3 hy4 htf
    iterate 2 (refine wpOTC_take rfl _ (by rfl) (fun _ => rfl) (by intro w' hS;go_simp;try with_reducible rfl) HSY.out fun KK hKK => ?_;go_simp;refine hKK _ ?_;clear hKK KK)
    refine wpOTC_done ?_
    show Kz _ _
    refine hKz _ _ ?_
    go_simp
    gi_wp2_with fail
    show LeavesInM _ _ _ _ _ _ _ _ _
    obtain ⟨o1,o2,hVT,hVB,hMV⟩ := HV.out
    have hl1 : ∀ g,(Value.slice rA j rc').ownBlock = some g → tb + 1 + 1 + 1 ≤ g ∧ g < V.heap.size := fun g hg => o1.lt g hg
    have hl2 : ∀ g,(Value.slice oA j oc').ownBlock = some g → tb + 1 + 1 + 1 ≤ g ∧ g < V.heap.size := fun g hg => o2.lt g hg
    have hM5 := hMV.tch HTF.out (fun g h1 h2 => by omega) (Nat.le_refl _)
    refine leaves_marksU (C := V.heap.size) _ _ hM5 fun w' hb' hc' => ?_
    have ho : ∀ {e : TypeId} {v : Value} {m : Nat} {xs : List Value},V.ownsRow (tb + 1 + 1 + 1) e 1 v m xs → w'.ownsRow s e 1 v m xs := fun {e v m xs} h => own_mono (by omega) (own_cells (own_blk h fun g h1 h2 => HTF.out.block g h2 (by omega)) hc')
    have hz1 : Row w' (s + 1) 24 [.slice rA j rc'] := hc' _ _ HSY.out.1 rfl
    have hz2 : Row w' (s + 1 + 1) 23 [.slice oA j oc'] := hc' _ _ HSY.out.2 rfl
    refine ⟨_,results_cctt rfl _ _ (s + 1) (s + 1 + 1) _ _ (by rfl) (by rfl) (hz1.cell (i := 0) rfl) (hz2.cell (i := 0) rfl) (isAgg_rows _) (isAgg_ints _),rA,rc',oA,oc',tb,by rw [HJ.out];rfl,?_,?_⟩
    ·refine ⟨?_,?_,hc' _ _ (HTF.out.row hVT (by omega)) rfl⟩
     ·rw [hns,HJ.out];exact ho o1
     ·rw [hns,HJ.out];exact ho o2
    ·exact (hVB.trans (HTF.out.below (by have := hVB.size;have := HS.out;omega) (by rintro i hi (e | e) <;> omega))).trans (hb'.mono (by omega))
   case stop =>
    rintro D c q W hD h
    exact h.elim
theorem refuses0_any (N : Nat) (P L : List Int) (RA : Option Addr) (rc : Nat) (OA : Option Addr) (oc : Nat) (rs : List RI) (WA : Option Addr) (wc : Nat) (w : World) (h : Prg w w.heap.size N P RA rc OA oc rs) (h0 : P = []) (hN1' : N = 1) (hP : ∀ p ∈ P,0 ≤ p ∧ p < 64) (hN0 : 1 ≤ N) (hN : N ≤ 60) (hn : P.length ≤ 60)
  (hL : Ppl L) (hw : Rd w w.heap.size 1 WA L.length (ivs L)) (hs : (sel P L P.length).length < N) :
  Calls Tryz.prog 27 #[.agg #[.slice RA P.length rc,.slice OA P.length oc],.slice WA L.length wc] w fun r w' => ∃ v,r = .returned (.tuple #[v,.bool true,.int .i64 0]) ∧ Below w.heap.size w w' := by
 have HQ : Hid (Calls Tryz.prog 49 #[.agg #[.slice RA P.length rc,.slice OA P.length oc],.slice WA L.length wc] (w.alloc (.cells #[.slice RA P.length rc,.slice OA P.length oc] 71)) fun r w' => ∃ qA qc aA ac tb,r = .returned (.tuple #[.slice qA (sel P L P.length).length qc,.slice aA (sel P L P.length).length ac,.slice (some ⟨tb,0,none⟩) N N,.int .i64 0]) ∧ QA w' (w.alloc (.cells #[.slice RA P.length rc,.slice OA P.length oc] 71)).heap.size rs P L N qA qc aA ac tb ∧ Below (w.alloc (.cells #[.slice RA P.length rc,.slice OA P.length oc] 71)).heap.size (w.alloc (.cells #[.slice RA P.length rc,.slice OA P.length oc] 71)) w') :=
  question0_any N P L RA rc OA oc rs WA wc _ ((h.below ((Below.refl _ _).alloc (Nat.le_refl _) _)).more (by simp)) h0 hN1' hP hN0 (by omega) (by omega) hL ((hw.below ((Below.refl _ _).alloc (Nat.le_refl _) _)).more (by simp))
 have HSE : Hid (∀ W qA qc aA ac tb B,QA W B rs P L N qA qc aA ac tb → Below w.heap.size w W → Calls Tryz.prog 50 #[.slice qA (sel P L P.length).length qc,.slice (some ⟨tb,0,none⟩) N N] W fun x w' => ∃ v,x = .returned (.tuple #[v,.bool true,.int .i64 0]) ∧ Below W.heap.size W w') := fun W qA qc aA ac tb B hq hb => by
  have hp := h.below hb
  obtain ⟨t1,t2⟩ := tgt_ok hq.tgt hN0 (by omega)
  have hl := selR_len (rs := rs) (P := P) (L := L)
  have := separate_any N qA qc (selR rs P L) ⟨some ⟨tb,0,none⟩,N,1 :: List.replicate (N - 1) 0⟩ W (hq.rdm hp hb.size) (fun r hr => hp.frow r (selR_mem hp hr)) t1 t2 (by omega) hN (by rw [hl];omega) (fun j hj => tgt_e0 hj) (by
   obtain ⟨z,hz1,hz2⟩ := Gs.pwr_sep (selX P L) N (by rw [selX,List.length_map];exact hs) (fun x hx => selX_rng (by omega) hx)
   refine ⟨z,fun i hi => ?_,hz2⟩
   rw [hl] at hi
   have hm : (selX P L).getD i 0 ∈ selX P L := by
    rw [List.getD_eq_getElem?_getD,List.getElem?_eq_getElem (by rw [selX,List.length_map];exact hi)]
    exact List.getElem_mem _
   have h1 := hz1 _ hm
   rw [show Gs.dot N (rowM (selR rs P L) i) z = Gs.dot N (Gs.pwr ((selX P L).getD i 0)) z from Gs.sm_eq fun j hj => by show (((selR rs P L).getD i r0).d.getD j 0) * _ = _;rw [selR_at hp hi hj]]
   exact h1)
  rw [hl,RI.cell_eq,t2.len] at this
  exact this
 have HB1 : Hid (Below w.heap.size w (w.alloc (.cells #[.slice RA P.length rc,.slice OA P.length oc] 71))) := (Below.refl _ _).alloc (Nat.le_refl _) _
 obtain ⟨n,hnn⟩ : ∃ n,P.length = n := ⟨_,rfl⟩
 obtain ⟨m,hmm⟩ : ∃ m,L.length = m := ⟨_,rfl⟩
 obtain ⟨j,hj⟩ : ∃ j,(sel P L P.length).length = j := ⟨_,rfl⟩
 rw [hj] at HQ HSE
 rw [hnn] at HQ HB1 ⊢
 rw [hmm] at HQ ⊢
 clear h h0 hN1' hP hL hw hs hj hnn hmm hn
 go_enter Tryz.func27,Tryz.ntmps27
 go_wp2_with fail
 refine HQ.out.mono ?_
 rintro x w2 ⟨qA,qc,aA,ac,tb,rfl,hqa,hb2⟩
 have HB2 : Hid (Below w.heap.size w w2) := HB1.out.trans (hb2.mono HB1.out.size)
 have HS2 := Lib.hid (HSE.out w2 qA qc aA ac tb _ hqa HB2.out)
 clear hqa hb2 HSE HQ HB1
 go_wp2_with fail
 refine HS2.out.mono ?_
 rintro x w3 ⟨v,rfl,hb3⟩
 have HB3 : Hid (Below w.heap.size w w3) := HB2.out.trans (hb3.mono HB2.out.size)
 clear hb3
 go_wp2_with fail
 refine bodyPost_ret (results_tmp_3 rfl _ _) rfl ?_
 exact ⟨v,rfl,HB3.out⟩
end Go.Proofs.YtjcpjhlclpdpjaaGreat
namespace Go.Proofs.YtjcpjhlclpdpjaaGreat
open Go.RowKit
attribute [local go_sem] Oper.semAt_some
theorem living_any (g : Gt) (L : List Int) (WA : Option Addr) (wc : Nat) (w : World) (h : g.ok w w.heap.size) (hP : Ppl g.P) (h0 : 0 < g.P.length) (h6 : g.P.length ≤ 6) (hL : Ppl L) (hw : Rd w w.heap.size 1 WA L.length (ivs L)) :
  Calls Tryz.prog 28 #[g.val,.slice WA L.length wc] w fun r w' => ((g.N ≤ ((cntW L g.P : Nat) : Int) ∧ ∃ e A k,(e.length : Int) = g.N ∧ e.Sublist g.P ∧ r = .returned (.tuple #[.slice A e.length k,.bool true,.int .i64 0]) ∧ Rd w' w'.heap.size 1 A e.length (ivs e) ∧ e.length ≤ k ∧ k ≤ maxLen) ∨ (¬ g.N ≤ ((cntW L g.P : Nat) : Int) ∧ r = .returned (.tuple #[.slice none 0 0,.bool false,.int .i64 0]))) ∧ Below w.heap.size w w' := by
 obtain ⟨s,hs⟩ : ∃ s,w.heap.size = s := ⟨_,rfl⟩
 have hm64 := hL.len
 have HCK : Hid (∀ W,Below s w W → Calls Tryz.prog 51 #[g.val,.slice WA L.length wc] W fun r w' => ∃ pg pc,r = .returned (.tuple #[.agg #[.int .i64 (-1),.int .i64 g.N,.slice g.A g.P.length g.c,.slice (some ⟨pg,0,none⟩) g.P.length pc],.int .i64 0]) ∧ w'.ownsRow W.heap.size 3 1 (.slice (some ⟨pg,0,none⟩) g.P.length pc) g.P.length (ivs g.P) ∧ Below W.heap.size W w') := fun W hW =>
  lcheck_living g L WA wc W ((h.below (by rw [hs];exact hW)).more (by have := hW.size;omega)) hP h0 (by omega) hL ((hw.below (by rw [hs];exact hW)).more (by have := hW.size;omega))
 have HHO : Hid (∀ W pA pc,Below s w W → Calls Tryz.prog 55 #[.agg #[.int .i64 (-1),.int .i64 g.N,.slice g.A g.P.length g.c,.slice pA g.P.length pc],.slice WA L.length wc] W fun r w' => r = .returned (.bool (decide (g.N ≤ ((cntW L g.P : Nat) : Int)))) ∧ Below W.heap.size W w') := fun W pA pc hW =>
  sholds_any g pA g.P.length pc WA L.length wc L W ((h.below (by rw [hs];exact hW)).more (by have := hW.size;omega)) ((hw.below (by rw [hs];exact hW)).more (by have := hW.size;omega)) hL rfl
 have HWO : Hid (∀ W pg pc,Below s w W → Rd W W.heap.size 1 (some ⟨pg,0,none⟩) g.P.length (ivs g.P) → g.P.length ≤ pc → pc ≤ maxLen → Calls Tryz.prog 52 #[.slice (some ⟨pg,0,none⟩) g.P.length pc,.slice WA L.length wc] W fun x w' => ∃ q : RI,x = .returned q.cell ∧ q.d = wout g.P L ∧ q.ok w' w'.heap.size ∧ Below W.heap.size W w') := fun W pg pc hW hrd h1 h2 =>
  without_any ⟨some ⟨pg,0,none⟩,pc,g.P⟩ WA L.length wc L W ⟨hrd,h1,h2⟩ h0 (by show g.P.length ≤ 4096;omega) ((hw.below (by rw [hs];exact hW)).more (by have := hW.size;omega)) (by omega)
 have HGK : Hid (∀ W,Below s w W → g.ok W W.heap.size) := fun W hW => (h.below (by rw [hs];exact hW)).more (by have := hW.size;omega)
 obtain ⟨gN,gA,gc,P⟩ := g
 obtain ⟨n,hnn⟩ : ∃ n,P.length = n := ⟨_,rfl⟩
 obtain ⟨m,hmm⟩ : ∃ m,L.length = m := ⟨_,rfl⟩
 obtain ⟨R,hR⟩ : ∃ R,decide (gN ≤ ((cntW L P : Nat) : Int)) = R := ⟨_,rfl⟩
 change Hid (∀ W,Below s w W → Calls Tryz.prog 51 #[.agg #[.int .i64 (-1),.int .i64 gN,.slice gA P.length gc],.slice WA L.length wc] W fun r w' => ∃ pg pc,r = .returned (.tuple #[.agg #[.int .i64 (-1),.int .i64 gN,.slice gA P.length gc,.slice (some ⟨pg,0,none⟩) P.length pc],.int .i64 0]) ∧ w'.ownsRow W.heap.size 3 1 (.slice (some ⟨pg,0,none⟩) P.length pc) P.length (ivs P) ∧ Below W.heap.size W w') at HCK
 change Hid (∀ W pA pc,Below s w W → Calls Tryz.prog 55 #[.agg #[.int .i64 (-1),.int .i64 gN,.slice gA P.length gc,.slice pA P.length pc],.slice WA L.length wc] W fun r w' => r = .returned (.bool (decide (gN ≤ ((cntW L P : Nat) : Int)))) ∧ Below W.heap.size W w') at HHO
 change Hid (∀ W pg pc,Below s w W → Rd W W.heap.size 1 (some ⟨pg,0,none⟩) P.length (ivs P) → P.length ≤ pc → pc ≤ maxLen → Calls Tryz.prog 52 #[.slice (some ⟨pg,0,none⟩) P.length pc,.slice WA L.length wc] W fun x w' => ∃ q : RI,x = .returned q.cell ∧ q.d = wout P L ∧ q.ok w' w'.heap.size ∧ Below W.heap.size W w') at HWO
 change 0 < P.length at h0
 change P.length ≤ 6 at h6
 change Ppl P at hP
 show Calls _ _ #[.agg #[.int .i64 (-1),.int .i64 gN,.slice gA P.length gc],_] _ fun r w' => ((gN ≤ ((cntW L P : Nat) : Int) ∧ ∃ e A k,(e.length : Int) = gN ∧ e.Sublist P ∧ r = .returned (.tuple #[.slice A e.length k,.bool true,.int .i64 0]) ∧ Rd w' w'.heap.size 1 A e.length (ivs e) ∧ e.length ≤ k ∧ k ≤ maxLen) ∨ (¬ gN ≤ ((cntW L P : Nat) : Int) ∧ r = .returned (.tuple #[.slice none 0 0,.bool false,.int .i64 0]))) ∧ Below w.heap.size w w'
 rw [hR] at HHO
 rw [hnn] at HCK HHO HWO h0 h6 ⊢
 rw [hmm] at HCK HHO HWO hm64 ⊢
 have HNN := Lib.hid (And.intro hnn (And.intro hmm (And.intro hR hP)))
 have HS := Lib.hid hs
 have HB1 : Hid (Below s w (w.alloc (.cells #[.int .i64 (-1),.int .i64 gN,.slice gA n gc] 68))) := by show Below _ _ _;rw [← hs];exact (Below.refl _ _).alloc (Nat.le_refl _) _
 clear h hw hL hs hnn hmm hR hP
 rw [HS.out]
 go_enter Tryz.func28,Tryz.ntmps28
 go_wp2_with fail
 refine (HCK.out _ HB1.out).mono ?_
 rintro x w2 ⟨pg,pc,rfl,how,hb2⟩
 go_wp2_with fail
 have hB2 : Below s w w2 := HB1.out.trans (hb2.mono (by have := HB1.out.size;have := HS.out;omega))
 have hge := own_ge how h0
 obtain ⟨z,hz⟩ : ∃ x,w2.heap.size = x := ⟨_,rfl⟩
 have hsz : s ≤ z := by have := hB2.size;have := HS.out;omega
 obtain ⟨w3,hw3⟩ : ∃ x,w2.alloc (.cells #[.int .i64 (-1),.int .i64 gN,.slice gA n gc,.slice (some ⟨pg,0,none⟩) n pc] 107) = x := ⟨_,rfl⟩
 have hB3 : Below s w w3 := by rw [← hw3];exact hB2.alloc (by omega) _
 have hr3 : Row w3 z 107 [.int .i64 (-1),.int .i64 gN,.slice gA n gc,.slice (some ⟨pg,0,none⟩) n pc] := by rw [← hw3];exact Row.fresh' _ _ _ hz
 have hrd3 : Rd w3 w3.heap.size 1 (some ⟨pg,0,none⟩) n (ivs P) := by rw [← hw3];exact ((Rd.of_own how).below ((Below.refl _ _).alloc (Nat.le_refl _) _)).more (by simp)
 have H3 := Lib.hid (And.intro hB3 (And.intro hr3 (And.intro hrd3 (And.intro hge.2.2 hsz))))
 rename_i Kz hKz
 rw [hw3,hz]
 clear how hb2 hB2 hge hsz hB3 hr3 hrd3 hw3 hz
 refine wp_region_tree (fun w' => Below w3.heap.size w3 w') (.take 0 (.take 1 (.take 2 (.take 3 (.take 4 (.one 5 (.one 6 (.take 7 .done)))))))) (by kernel_rfl) (by kernel_rfl) (by kernel_rfl) (by kernel_rfl) (fun x _ _ _ _ h => by cases x <;> exact h) ((Below.refl _ _).drew) ?_
 iterate 5 (refine wpOT_take rfl _ (by rfl) (by intro w' hS;have q3 := (H3.out.2.1.below hS H3.out.2.1.lt).cell (i := 3) rfl;go_simp;try with_reducible rfl) fun KK hKK => ?_;go_simp;refine hKK _ ?_;clear hKK KK)
 refine wpOT_one rfl (by rfl) fun KK hKK => ?_
 go_simp
 refine (HWO.out _ pg pc H3.out.1.drew ((H3.out.2.2.1.below (Below.refl _ _).drew)) H3.out.2.2.2.1.1 H3.out.2.2.2.1.2).mono ?_
 rintro x8 w8 ⟨q,rfl,hqd,hqo,hb8⟩
 rw [RI.cell_eq]
 have hB8 : Below w3.heap.size w3 w8 := ((Below.refl _ w3).drew).trans hb8
 refine hKK _ _ hB8 ?_
 clear hKK KK
 have hBs8 : Below s w w8 := H3.out.1.trans (hB8.mono (by have := H3.out.1.size;have := HS.out;omega))
 have hP := HNN.out.2.2.2
 have hcap := H3.out.2.2.2.1
 have hrd8 := (H3.out.2.2.1.below hB8).more hB8.size
 rw [← HNN.out.1] at hrd8
 have hq8 := hqo.1
 have hqn : q.d.length ≤ 64 := by rw [hqd];exact Nat.le_trans (wout_sub P L).length_le (by rw [HNN.out.1];omega)
 have hwo := without_any ⟨some ⟨pg,0,none⟩,pc,P⟩ q.A q.d.length q.c q.d w8 ⟨hrd8,by show P.length ≤ pc;rw [HNN.out.1];exact hcap.1,hcap.2⟩ (by show 0 < P.length;rw [HNN.out.1];exact h0) (by show P.length ≤ 4096;rw [HNN.out.1];omega) hq8 (by omega)
 change Calls Tryz.prog 52 #[.slice (some ⟨pg,0,none⟩) P.length pc,.slice q.A q.d.length q.c] w8 (fun x w' => ∃ q2 : RI,x = .returned q2.cell ∧ q2.d = wout P q.d ∧ q2.ok w' w'.heap.size ∧ Below w8.heap.size w8 w') at hwo
 rw [HNN.out.1,hqd] at hwo
 rw [hqd]
 have HWQ := Lib.hid (And.intro hwo (And.intro hB8 hBs8))
 clear hwo hB8 hBs8 hrd8 hq8 hqn hqo hqd hb8 hcap
 refine wpOT_one rfl (by rfl) fun KK hKK => ?_
 go_simp
 refine HWQ.out.1.mono ?_
 rintro x9 w9 ⟨q2,rfl,hq2d,hq2o,hb9⟩
 rw [RI.cell_eq]
 have hB9 : Below w3.heap.size w3 w9 := HWQ.out.2.1.trans (hb9.mono HWQ.out.2.1.size)
 refine hKK _ _ hB9 ?_
 clear hKK KK
 refine wpOT_take rfl _ (by rfl) (by intro w' hS;skip;go_simp;try with_reducible rfl) fun KK hKK => ?_
 go_simp
 refine hKK _ ?_
 clear hKK KK
 refine wpOT_done ?_
 show Kz _ _
 refine hKz _ _ ?_
 go_simp
 have HR9 := Lib.hid (H3.out.2.1.below hB9 H3.out.2.1.lt)
 have HB9 : Hid (Below s w w9) := H3.out.1.trans (hB9.mono (by have := H3.out.1.size;have := HS.out;omega))
 obtain ⟨oA,oc,od⟩ := q2
 change od = _ at hq2d
 subst hq2d
 have HQ2 : Hid ((⟨oA,oc,wout P (wout P L)⟩ : RI).ok w9 w9.heap.size) := hq2o
 obtain ⟨j,hj⟩ : ∃ j,(wout P (wout P L)).length = j := ⟨_,rfl⟩
 have HJ := Lib.hid hj
 show Code.wp _ _ _ { tmps := _,defers := _ } w9
 rw [hj]
 clear hq2o hb9 hB9 hj HWQ
 go_wp2_with fail
 trace_state
 rename_i Kz2 hKz2
 refine wp_region_tree (fun w' => Below w9.heap.size w9 w') (.take 0 (.take 2 (.take 3 (.one 1 (.one 4 (.take 5 (.take 6 (.take 7 (.take 8 (.take 9 .done)))))))))) (by kernel_rfl) (by kernel_rfl) (by kernel_rfl) (by kernel_rfl) (fun x _ _ _ _ h => by cases x <;> exact h) ((Below.refl _ _).drew) ?_
 iterate 3 (refine wpOT_take rfl _ (by rfl) (by intro w' hS;have r9 := HR9.out.below hS HR9.out.lt;have q0 := r9.cell (i := 0) rfl;have q1 := r9.cell (i := 1) rfl;have q2 := r9.cell (i := 2) rfl;have q3 := r9.cell (i := 3) rfl;go_simp;try with_reducible rfl) fun KK hKK => ?_;go_simp;refine hKK _ ?_;clear hKK KK)
 refine wpOT_one rfl (by rfl) fun KK hKK => ?_
 go_simp
 refine (subsets_any _ _ _ _).mono ?_
 rintro x w10 ⟨rfl,hw10⟩
 have hb10 : Below w9.heap.size w9 w10 := by rw [← hw10];exact ((Below.refl _ _).drew).alloc (Nat.le_refl _) _
 have hsb : Row w10 w9.heap.size 23 [.slice oA (wout P (wout P L)).length oc] := by rw [← hw10,HJ.out];exact Row.fresh w9.drew _ _
 have hB10 : Below s w w10 := HB9.out.trans (hb10.mono (by have := HB9.out.size;have := HS.out;omega))
 have hP := HNN.out.2.2.2
 have hq10 := ((HQ2.out.below hb10).more hb10.size).1
 have hl6 : (wout P (wout P L)).length ≤ 6 := Nat.le_trans (wout_sub P _).length_le (by rw [HNN.out.1];exact h6)
 have HFD := Lib.hid (first_holds (.agg #[.int .i64 (-1),.int .i64 gN,.slice gA P.length gc,.slice (some ⟨pg,0,none⟩) n pc]) (wout P (wout P L)) oA oc w9.heap.size (fun e => decide (gN ≤ ((cntW e P : Nat) : Int))) w10 hl6 hsb hq10 (fun W e A k c hW he hk hrd _ _ =>
  sholds_any ⟨gN,gA,gc,P⟩ (some ⟨pg,0,none⟩) n pc A k c e W (HGK.out W (hB10.trans (hW.mono (by have := hB10.size;have := HS.out;omega)))) hrd (hP.sub ((subs_sub he).trans (wout_sub P _))) hk))
 rw [HNN.out.1] at HFD
 have HB10 := Lib.hid (And.intro hB10 hb10)
 refine hKK _ _ hb10 ?_
 clear hKK KK hsb hq10 hB10 hb10 hw10
 refine wpOT_one rfl (by rfl) fun KK hKK => ?_
 go_simp
 refine HFD.out.mono ?_
 rintro x w11 ⟨hfa,hb11⟩
 have hB11 : Below s w w11 := HB10.out.1.trans (hb11.mono (by have := HB10.out.1.size;have := HS.out;omega))
 have hb9 : Below w9.heap.size w9 w11 := HB10.out.2.trans (hb11.mono HB10.out.2.size)
 have HB11 := Lib.hid hB11
 clear HFD hB11 hb11
 rcases hfa with ⟨e,A,k,hfi,rfl,hrd,hk1,hk2⟩ | ⟨hfn,rfl⟩
 ·refine hKK _ _ hb9 ?_
  clear hKK KK hb9
  have HF := Lib.hid (And.intro hfi (And.intro hrd (And.intro hk1 hk2)))
  clear hfi hrd hk1 hk2
  iterate 5 (refine wpOT_take rfl _ (by rfl) (by intro w' hS;go_simp;try with_reducible rfl) fun KK hKK => ?_;go_simp;refine hKK _ ?_;clear hKK KK)
  refine wpOT_done ?_
  show Kz2 _ _
  refine hKz2 _ _ ?_
  go_simp
  go_wp2_with fail
  refine bodyPost_ret (results_tmp_3 rfl _ _) rfl ?_
  obtain ⟨N,hN⟩ : ∃ N : Nat,gN = (N : Int) := ⟨gN.toNat,by have h1 : 1 ≤ gN := (HGK.out _ HB1.out).n0;omega⟩
  have h6P : P.length ≤ 6 := by rw [HNN.out.1];exact h6
  have hfi := HF.out.1
  rw [hN] at hfi
  have hle : N ≤ cntW L P := Classical.byContradiction fun hno => living_no (L := L) hP hno (List.mem_of_find?_eq_some hfi) (by have := List.find?_some hfi;have := of_decide_eq_true this;omega)
  obtain ⟨h1,h2⟩ := living_min (L := L) hP h6P hle hfi
  exact ⟨.inl ⟨by rw [hN];omega,e,by rw [hN];omega,h2,A,k,rfl,HF.out.2.1,HF.out.2.2.1,HF.out.2.2.2⟩,HB11.out⟩
 ·refine hKK _ _ hb9 ?_
  clear hKK KK hb9
  have HF := Lib.hid hfn
  clear hfn
  iterate 5 (refine wpOT_take rfl _ (by rfl) (by intro w' hS;go_simp;try with_reducible rfl) fun KK hKK => ?_;go_simp;refine hKK _ ?_;clear hKK KK)
  refine wpOT_done ?_
  show Kz2 _ _
  refine hKz2 _ _ ?_
  go_simp
  go_wp2_with fail
  refine bodyPost_ret (results_tmp_3 rfl _ _) rfl ?_
  obtain ⟨N,hN⟩ : ∃ N : Nat,gN = (N : Int) := ⟨gN.toNat,by have h1 : 1 ≤ gN := (HGK.out _ HB1.out).n0;omega⟩
  have h6P : P.length ≤ 6 := by rw [HNN.out.1];exact h6
  refine ⟨.inr ⟨Int.not_le.1 (fun hle => ?_),rfl⟩,HB11.out⟩
  have hfn := HF.out
  rw [hN] at hfn
  exact living_none (L := L) hP h6P (by omega) hfn
end Go.Proofs.YtjcpjhlclpdpjaaGreat
namespace Go.Proofs.YtjcpjhlclpdpjaaGreat
open Go.RowKit
theorem sel_cnt (L : List Int) : ∀ (P : List Int),(sel P L P.length).length = cntW L P := fun P => by
 have key : ∀ (n : Nat),n ≤ P.length → (sel P L n).length = cntW L (P.take n) := by
  intro n
  induction n with
  | zero => intro _;simp [sel,cntW]
  | succ n ih =>
   intro hn
   have h1 := ih (by omega)
   have hg : P[n]? = some (P.getD n 0) := by rw [List.getD_eq_getElem?_getD,List.getElem?_eq_getElem (by omega)];rfl
   unfold sel cntW at h1 ⊢
   rw [List.range_succ,List.filter_append,List.length_append,h1,List.take_add_one,hg,List.filter_append,List.length_append]
   congr 1
   by_cases hp : P.getD n 0 ∈ L <;> simp only [List.filter_cons,List.filter_nil,Option.toList_some,hp,decide_true,decide_false,if_true,List.length_cons,List.length_nil] <;> rfl
 have h := key P.length (Nat.le_refl _)
 rwa [List.take_length] at h
structure Gst (g : Gt) : Prop where
 ppl : Ppl g.P
 len : g.P.length ≤ 6
 z : g.P = [] → g.A = none ∧ g.c = 0 ∧ g.N = 1
 n : g.N ≤ 60
theorem Prg.none {w : World} {B N : Nat} {RA OA : Option Addr} {rc oc : Nat} : Prg w B N [] RA rc OA oc [] :=
 ⟨⟨rd_nil _ _ _ _,fun r hr => absurd hr (by simp)⟩,rfl,fun i hi => absurd hi (by simp),rd_nil _ _ _ _⟩
theorem makeU_any (g : Gt) (N : Nat) (w : World) (h : g.ok w w.heap.size) (hs : Gst g) (hN : g.N = (N : Int)) :
  Calls Tryz.prog 25 #[g.val] w fun r w' => ∃ RA rc OA oc rs,r = .returned (.tuple #[.agg #[.slice RA g.P.length rc,.slice OA g.P.length oc],.int .i64 0]) ∧ Prg w' w'.heap.size N g.P RA rc OA oc rs ∧ Below w.heap.size w w' := by
 rcases Nat.eq_zero_or_pos g.P.length with h0 | h0
 ·have hp := List.length_eq_zero_iff.1 h0
  obtain ⟨hA,hc,h1⟩ := hs.z hp
  obtain ⟨gN,gA,gc,P⟩ := g
  change gA = none at hA;change gc = 0 at hc;change P = [] at hp;change gN = _ at hN
  subst hA hc hp hN
  refine (make0_any N w h).mono ?_
  rintro r w' ⟨RA,rc,OA,oc,e,hb⟩
  exact ⟨RA,rc,OA,oc,[],e,Prg.none,hb⟩
 ·exact make_any g N w h hN h0
theorem refusesU_any (N : Nat) (P L : List Int) (RA : Option Addr) (rc : Nat) (OA : Option Addr) (oc : Nat) (rs : List RI) (WA : Option Addr) (wc : Nat) (w : World) (h : Prg w w.heap.size N P RA rc OA oc rs) (hz : P = [] → N = 1) (hP : Ppl P) (hN0 : 1 ≤ N) (hN : N ≤ 60) (hn : P.length ≤ 6)
  (hL : Ppl L) (hw : Rd w w.heap.size 1 WA L.length (ivs L)) (hs : cntW L P < N) :
  Calls Tryz.prog 27 #[.agg #[.slice RA P.length rc,.slice OA P.length oc],.slice WA L.length wc] w fun r w' => ∃ v,r = .returned (.tuple #[v,.bool true,.int .i64 0]) ∧ Below w.heap.size w w' := by
 rw [← sel_cnt] at hs
 rcases Nat.eq_zero_or_pos P.length with h0 | h0
 ·have hp := List.length_eq_zero_iff.1 h0
  exact refuses0_any N P L RA rc OA oc rs WA wc w h hp (hz hp) (fun p hp => ⟨hP.lo p hp,hP.hi p hp⟩) hN0 hN (by omega) hL hw hs
 ·exact refuses_any N P L RA rc OA oc rs WA wc w h h0 (fun p hp => ⟨hP.lo p hp,hP.hi p hp⟩) hN0 hN (by omega) hL hw hs
theorem livingU_any (g : Gt) (L : List Int) (WA : Option Addr) (wc : Nat) (w : World) (h : g.ok w w.heap.size) (hs : Gst g) (hL : Ppl L) (hw : Rd w w.heap.size 1 WA L.length (ivs L)) :
  Calls Tryz.prog 28 #[g.val,.slice WA L.length wc] w fun r w' => ((g.N ≤ ((cntW L g.P : Nat) : Int) ∧ 0 < g.P.length ∧ ∃ e A k,(e.length : Int) = g.N ∧ e.Sublist g.P ∧ r = .returned (.tuple #[.slice A e.length k,.bool true,.int .i64 0]) ∧ Rd w' w'.heap.size 1 A e.length (ivs e) ∧ e.length ≤ k ∧ k ≤ maxLen) ∨ (¬ g.N ≤ ((cntW L g.P : Nat) : Int) ∧ r = .returned (.tuple #[.slice none 0 0,.bool false,.int .i64 0]))) ∧ Below w.heap.size w w' := by
 rcases Nat.eq_zero_or_pos g.P.length with h0 | h0
 ·have hp := List.length_eq_zero_iff.1 h0
  obtain ⟨hA,hc,h1⟩ := hs.z hp
  obtain ⟨gN,gA,gc,P⟩ := g
  change gA = none at hA;change gc = 0 at hc;change P = [] at hp;change gN = _ at h1
  subst hA hc hp h1
  refine (living0_any 1 L WA wc w h hL hw).mono ?_
  rintro r w' ⟨e,hb⟩
  exact ⟨.inr ⟨by simp [cntW],e⟩,hb⟩
 ·refine (living_any g L WA wc w h hs.ppl h0 hs.len hL hw).mono ?_
  rintro r w' ⟨h1 | h1,hb⟩
  ·exact ⟨.inl ⟨h1.1,h0,h1.2⟩,hb⟩
  ·exact ⟨.inr h1,hb⟩
theorem deadU_any (g : Gt) (L : List Int) (WA : Option Addr) (wc : Nat) (w : World) (h : g.ok w w.heap.size) (hs : Gst g) (hL : Ppl L) (hw : Rd w w.heap.size 1 WA L.length (ivs L)) :
  Calls Tryz.prog 29 #[g.val,.slice WA L.length wc] w fun r w' => ((g.N ≤ ((cntW L g.P : Nat) : Int) ∧ r = .returned (.tuple #[.slice none 0 0,.bool false,.int .i64 0])) ∨ (¬ g.N ≤ ((cntW L g.P : Nat) : Int) ∧ ∃ e A k,(∀ p ∈ e,¬ p ∈ L) ∧ e.length ≤ 6 ∧ r = .returned (.tuple #[.slice A e.length k,.bool true,.int .i64 0]) ∧ Rd w' w'.heap.size 1 A e.length (ivs e))) ∧ Below w.heap.size w w' := by
 rcases Nat.eq_zero_or_pos g.P.length with h0 | h0
 ·have hp := List.length_eq_zero_iff.1 h0
  obtain ⟨hA,hc,h1⟩ := hs.z hp
  obtain ⟨gN,gA,gc,P⟩ := g
  change gA = none at hA;change gc = 0 at hc;change P = [] at hp;change gN = _ at h1
  subst hA hc hp h1
  refine (dead0_any 1 L WA wc w h hL hw).mono ?_
  rintro r w' ⟨⟨A,k,e⟩,hb⟩
  exact ⟨.inr ⟨by simp [cntW],[],A,k,fun p hp => absurd hp (by simp),by simp,e,⟨rfl,fun h => absurd h (by simp)⟩⟩,hb⟩
 ·refine (dead_any g L WA wc w h hs.ppl h0 hs.len hL hw).mono ?_
  rintro r w' ⟨h1 | ⟨h1,e,A,k,he,h2,h3⟩,hb⟩
  ·exact ⟨.inl h1,hb⟩
  ·refine ⟨.inr ⟨h1,e,A,k,fun p hp hl => ?_,?_,h2,h3⟩,hb⟩
   ·have hm := (subs_sub he).subset hp
    unfold wout at hm
    rw [List.mem_filter] at hm
    simp [hl] at hm
   ·exact Nat.le_trans (subs_sub he).length_le (Nat.le_trans (wout_sub g.P L).length_le hs.len)
theorem marginU_any (g : Gt) (L : List Int) (WA : Option Addr) (wc : Nat) (w : World) (h : g.ok w w.heap.size) (hs : Gst g) (hL : Ppl L) (hw : Rd w w.heap.size 1 WA L.length (ivs L)) :
  Calls Tryz.prog 30 #[g.val,.slice WA L.length wc] w fun r w' => ((g.N ≤ ((cntW L g.P : Nat) : Int) ∧ ∃ e A k,1 ≤ e.length ∧ r = .returned (.tuple #[.slice A e.length k,.bool true,.int .i64 0]) ∧ Rd w' w'.heap.size 1 A e.length (ivs e)) ∨ (¬ g.N ≤ ((cntW L g.P : Nat) : Int) ∧ r = .returned (.tuple #[.slice none 0 0,.bool false,.int .i64 0]))) ∧ Below w.heap.size w w' := by
 rcases Nat.eq_zero_or_pos g.P.length with h0 | h0
 ·have hp := List.length_eq_zero_iff.1 h0
  obtain ⟨hA,hc,h1⟩ := hs.z hp
  obtain ⟨gN,gA,gc,P⟩ := g
  change gA = none at hA;change gc = 0 at hc;change P = [] at hp;change gN = _ at h1
  subst hA hc hp h1
  refine (margin0_any 1 L WA wc w h hL hw).mono ?_
  rintro r w' ⟨e,hb⟩
  exact ⟨.inr ⟨by simp [cntW],e⟩,hb⟩
 ·exact margin_any g L WA wc w h hs.ppl h0 hs.len hL hw
theorem acceptsU_any (N : Nat) (P e : List Int) (RA : Option Addr) (rc : Nat) (OA : Option Addr) (oc : Nat) (rs : List RI) (WA : Option Addr) (wc : Nat) (w : World) (h : Prg w w.heap.size N P RA rc OA oc rs) (h0 : 0 < P.length) (hP : Ppl P) (hN0 : 1 ≤ N) (hN : N ≤ 60) (hn : P.length ≤ 6)
  (he : e.Sublist P) (hl : e.length = N) (hw : Rd w w.heap.size 1 WA e.length (ivs e)) :
  Calls Tryz.prog 31 #[.agg #[.slice RA P.length rc,.slice OA P.length oc],.slice WA e.length wc] w fun r w' => ∃ yb,r = .returned (.tuple #[.slice (some ⟨yb,0,none⟩) P.length P.length,.bool true,.int .i64 0]) ∧ Below w.heap.size w w' :=
 accepts_prog N P e RA rc OA oc rs WA wc w h h0 (fun p hp => ⟨hP.lo p hp,hP.hi p hp⟩) hN0 hN (by omega) (hP.sub he) hw (by rw [sel_cnt,cntW_sub he hP,hl])
end Go.Proofs.YtjcpjhlclpdpjaaGreat
