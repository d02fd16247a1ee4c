import Derived.Test.YtifejdpffkeniaaGreatDoorS14
set_option linter.unusedVariables false
set_option maxRecDepth 100000
set_option maxHeartbeats 40000000
namespace Go.Proofs.YtifejdpffkeniaaGreatDoor
open Go.RowKit
attribute [local go_sem] Oper.semAt_some
def sel (P L : List Int) (s : Nat) : List Nat := (List.range s).filter fun i => decide (P.getD i 0 ∈ L)
theorem sel_skip {P L : List Int} {s : Nat} : ∀ {i : Nat},s ≤ i → (∀ j,s ≤ j → j < i → ¬ P.getD j 0 ∈ L) → sel P L i = sel P L s
 | 0,h,_ => by rw [show s = 0 by omega]
 | i + 1,h,hn => by
  by_cases e : s = i + 1
  ·rw [e]
  ·have h1 := sel_skip (i := i) (by omega) (fun j h1 h2 => hn j h1 (by omega))
   rw [← h1];unfold sel;rw [List.range_succ,List.filter_append,List.filter_cons_of_neg (p := fun i => decide (P.getD i 0 ∈ L)) (a := i) (by rw [decide_eq_false (hn i (by omega) (by omega))];simp)];exact List.append_nil _
theorem sel_step {P L : List Int} {s i : Nat} (h : s ≤ i) (hn : ∀ j,s ≤ j → j < i → ¬ P.getD j 0 ∈ L) (hi : P.getD i 0 ∈ L) : sel P L (i + 1) = sel P L s ++ [i] := by
 rw [← sel_skip h hn];unfold sel;rw [List.range_succ,List.filter_append,List.filter_cons_of_pos (p := fun i => decide (P.getD i 0 ∈ L)) (a := i) (by exact decide_eq_true hi)]
 rfl
theorem sel_le (P L : List Int) (s : Nat) : (sel P L s).length ≤ s := by
 have := List.length_filter_le (fun i => decide (P.getD i 0 ∈ L)) (List.range s);rw [List.length_range] at this;exact this
structure QJ (w4 : World) (b1 b2 B : Nat) (rs : List RI) (P L : List Int) (s : Nat) (W : World) (rA : Option Addr) (rc : Nat) (oA : Option Addr) (oc : Nat) : Prop where
 x1 : Row W b1 22 [.slice rA (sel P L s).length rc]
 x2 : Row W b2 23 [.slice oA (sel P L s).length oc]
 own1 : W.ownsRow B 23 1 (.slice rA (sel P L s).length rc) (sel P L s).length ((sel P L s).map fun i => (rs.getD i r0).cell)
 own2 : W.ownsRow B 3 1 (.slice oA (sel P L s).length oc) (sel P L s).length ((sel P L s).map fun i : Nat => .int .i64 (i : Int))
 dis : ∀ g,(Value.slice rA (sel P L s).length rc).ownBlock = some g → (Value.slice oA (sel P L s).length oc).ownBlock ≠ some g
 tch : Tch (fun g => g = b1 ∨ g = b2) w4 W
section
variable {w4 : World} {b1 b2 B : Nat} {rs : List RI} {P L : List Int} {s : Nat} {W W' : World} {rA : Option Addr} {rc : Nat} {oA : Option Addr} {oc : Nat}
theorem own_cells {b : Nat} {e : TypeId} {sz : Nat} {v : Value} {m : Nat} {xs : List Value} (ho : W.ownsRow b e sz v m xs) (hc : ∀ (k : Nat) (o : Obj),W.heap[k]? = some o → o.isCells = true → W'.heap[k]? = some o) : W'.ownsRow b e sz v m xs := by
 refine ⟨ho.1,?_⟩
 rcases ho.2 with h2 | ⟨g,cap,cur,e1,e2,e3,e4⟩
 ·exact .inl h2
 ·exact .inr ⟨g,cap,cur,e1,e2,hc _ _ e3 rfl,e4⟩
theorem own_blk {b : Nat} {e : TypeId} {sz : Nat} {v : Value} {m : Nat} {xs : List Value} (ho : W.ownsRow b e sz v m xs) (hc : ∀ g,b ≤ g → g < W.heap.size → W'.heap[g]? = W.heap[g]?) : W'.ownsRow b e sz v m xs := by
 refine ⟨ho.1,?_⟩
 rcases ho.2 with h2 | ⟨g,cap,cur,e1,e2,e3,e4⟩
 ·exact .inl h2
 ·exact .inr ⟨g,cap,cur,e1,e2,(hc g e2 (heap_lt e3)).trans e3,e4⟩
theorem QJ.grown (h : QJ w4 b1 b2 B rs P L s W rA rc oA oc) {row : Option Nat} (hg : W.grownBy W' row) (hr : ∀ r,row = some r → w4.heap.size ≤ r ∧ ∃ o : Obj,W.heap[r]? = some o ∧ o.isCells = false) : QJ w4 b1 b2 B rs P L s W' rA rc oA oc := by
 have hc : ∀ (k : Nat) (o : Obj),W.heap[k]? = some o → o.isCells = true → W'.heap[k]? = some o := fun k o hk ho => (grownBy_keeps_cells hg (fun r e => (hr r e).2) hk ho).trans hk;exact ⟨hc _ _ h.x1 rfl,hc _ _ h.x2 rfl,own_cells h.own1 hc,own_cells h.own2 hc,h.dis,h.tch.grown hg (fun g e => .inl (hr g e).1)⟩
theorem QJ.step (h : QJ w4 b1 b2 B rs P L s W rA rc oA oc) (hB : w4.heap.size ≤ B) {i : Nat} {vc : Value} (h1 : s ≤ i) (h2 : ∀ j,s ≤ j → j < i → ¬ P.getD j 0 ∈ L) (h3 : P.getD i 0 ∈ L) (hv : (rs.getD i r0).cell = vc) {rA' : Option Addr} {rc' : Nat} {oA' : Option Addr} {oc' : Nat}
  (x1 : Row W' b1 22 [.slice rA' ((sel P L s).length + 1) rc']) (x2 : Row W' b2 23 [.slice oA' ((sel P L s).length + 1) oc'])
  (hP : PP 23 3 (fun g => g = b1 ∨ g = b2) B W (.slice rA (sel P L s).length rc) (.slice oA (sel P L s).length oc) W' (.slice rA' ((sel P L s).length + 1) rc') (.slice oA' ((sel P L s).length + 1) oc') ((sel P L s).length + 1) ((sel P L s).length + 1) (((sel P L s).map fun i => (rs.getD i r0).cell) ++ [vc]) (((sel P L s).map fun i : Nat => .int .i64 (i : Int)) ++ [.int .i64 (i : Int)])) :
  KeepsFrom w4.heap.size W W' ∧ QJ w4 b1 b2 B rs P L (i + 1) W' rA' rc' oA' oc' := by
 have e := sel_step h1 h2 h3;have el : (sel P L (i + 1)).length = (sel P L s).length + 1 := by rw [e];simp
 refine ⟨hP.tch.keepsFrom fun k hk o ho => ?_,by rw [el];exact x1,by rw [el];exact x2,by rw [el,e,List.map_append,List.map_singleton,hv];exact hP.own1,by rw [el,e,List.map_append,List.map_singleton];exact hP.own2,by rw [el];exact hP.dis,h.tch.over hP.tch fun g hg => ?_⟩
 ·rcases hk with hk | hk | rfl | rfl
  ·obtain ⟨o',g1,g2⟩ := own_isc h.own1 hk
   rw [ho] at g1;cases g1;exact g2
  ·obtain ⟨o',g1,g2⟩ := own_isc h.own2 hk
   rw [ho] at g1;cases g1;exact g2
  ·exact h.x1.isc ho
  ·exact h.x2.isc ho
 ·rcases hg with hg | hg | hg
  ·exact .inl (by have := (h.own1.lt g hg).1;omega)
  ·exact .inl (by have := (h.own2.lt g hg).1;omega)
  ·exact .inr hg
end
theorem results_cctt {P : Program} {fn : Func} {p q t u : Tmp} {ty tz : TypeId} (h : fn.results = #[.cell p ty,.cell q tz,.tmp t,.tmp u]) (tmps : Array Value) (w : World) (g1 g2 : Nat) (v1 v2 : Value)
  (hp : tmps.getD p undef = .pointer (some ⟨g1,0,none⟩)) (hq : tmps.getD q undef = .pointer (some ⟨g2,0,none⟩)) (hc : w.cell? ⟨g1,0,none⟩ = some v1) (hc2 : w.cell? ⟨g2,0,none⟩ = some v2) (ha : (isAgg ty).run P w = .ok false w) (ha2 : (isAgg tz).run P w = .ok false w) : (results fn tmps).run P w = .ok (.tuple #[v1,v2,tmps.getD t undef,tmps.getD u undef]) w := by
 have hp' : tmps[p]?.getD undef = .pointer (some ⟨g1,0,none⟩) := by simpa using hp
 have hq' : tmps[q]?.getD undef = .pointer (some ⟨g2,0,none⟩) := by simpa using hq
 simp [results,h,hp',hq',asAddr,loadVar,ha,ha2,hc,hc2]
theorem isAgg_rows (w : World) : (isAgg 22).run Tryz.prog w = .ok false w := by kernel_rfl
theorem isAgg_ints (w : World) : (isAgg 23).run Tryz.prog w = .ok false w := by kernel_rfl
structure QA (W : World) (B : Nat) (rs : List RI) (P L : List Int) (N : Nat) (rA : Option Addr) (rc : Nat) (oA : Option Addr) (oc : Nat) (tb : Nat) : Prop where
 own1 : W.ownsRow B 23 1 (.slice rA (sel P L P.length).length rc) (sel P L P.length).length ((sel P L P.length).map fun i => (rs.getD i r0).cell)
 own2 : W.ownsRow B 3 1 (.slice oA (sel P L P.length).length oc) (sel P L P.length).length ((sel P L P.length).map fun i : Nat => .int .i64 (i : Int))
 tgt : Row W tb 3 (ivs (1 :: List.replicate (N - 1) 0))
theorem question_any (N : Nat) (P L : List Int) (RA : Option Addr) (rc : Nat) (OA : Option Addr) (oc : Nat) (rs : List RI) (WA : Option Addr) (wc : Nat) (w : World) (h : Prg w w.heap.size N P RA rc OA oc rs) (h0 : 0 < P.length) (hP : ∀ p ∈ P,0 ≤ p ∧ p < 64) (hN0 : 1 ≤ N) (hN : N ≤ 64) (hn : P.length ≤ 64)
  (hL : Ppl L) (hw : Rd w w.heap.size 1 WA L.length (ivs L)) :
  Calls Tryz.prog 32 #[.agg #[.slice RA P.length rc,.slice OA P.length oc],.slice WA L.length wc] w fun r w' => ∃ qA qc aA ac tb,r = .returned (.tuple #[.slice qA (sel P L P.length).length qc,.slice aA (sel P L P.length).length ac,.slice (some ⟨tb,0,none⟩) N N,.int .i64 0]) ∧ QA w' w.heap.size rs P L N qA qc aA ac tb ∧ Below w.heap.size w w' := by
 obtain ⟨s,hs⟩ : ∃ s,w.heap.size = s := ⟨_,rfl⟩;have hm := hL.len
 have HCK : Hid (∀ W,Below s w W → Calls Tryz.prog 26 #[.agg #[.slice RA P.length rc,.slice OA P.length oc]] W fun r w' => r = .returned (.int .i64 0) ∧ Below W.heap.size W w') := fun W hW => by
  refine (pcheck_any N P RA rc OA oc rs W ((h.below (by rw [hs];exact hW)).more (by have := hW.size;omega)) h0 hP hN0 hN hn).mono ?_;rintro r w' ⟨e1,e2⟩;exact ⟨e1,by rw [← e2];exact (Below.refl _ _).alloc (Nat.le_refl _) _⟩
 have HHN : Hid (∀ W,Below s w W → ∀ sp sw (w0 : World) (I : Nat → World → Prop),(∀ q V,I q V → Below W.heap.size W V ∨ Below s w V) → (∀ q V,I q V → Row V sp 25 [.slice RA P.length rc,.slice OA P.length oc] ∧ Row V sw 23 [.slice WA L.length wc]) → Hands Fence.wide 8 Tryz.prog 128 #[.pointer (some ⟨sp,0,none⟩),.pointer (some ⟨sw,0,none⟩)] w0 I (fun s vs s' _ => OwnT P L rs s vs s') 0 (OwnS P L)) := fun W hW sp sw w0 I hb hI =>
  own1_hands N P L RA rc OA oc rs WA wc sp sw s h0 hn hm hL.inc w0 I fun q V hq => by
   obtain ⟨q1,q2⟩ := hI q V hq
   have hV : Below s w V := by
    rcases hb q V hq with h1 | h1
    ·exact hW.trans (h1.mono (by have := hW.size;omega))
    ·exact h1
   exact ⟨q1,q2,by rw [hs] at h;exact h.below hV,by rw [hs] at hw;exact hw.below hV,by have := hV.size;omega⟩
 have HWL : Hid (∀ k,k < L.length → ∃ b o p,WA = some ⟨b,o,none⟩ ∧ (∀ W,Below s w W → W.cell? ⟨b,o + k,none⟩ = some (.int .i64 p)) ∧ p = L.getD k 0 ∧ lastI L k < p ∧ lastI L (k + 1) = p ∧ ∀ W,Calls Tryz.prog 78 #[.int .i64 p] W fun r w' => r = .returned (.bool true) ∧ W = w') := fun k hk => by
  obtain ⟨_,b,o,e1,_,hc⟩ := i64at hw hk;obtain ⟨q1,q2,q3,_⟩ := hL.last hk;exact ⟨b,o,L.getD k 0,e1,by rw [← hs];exact hc k hk,rfl,q1,by unfold lastI;rw [if_neg (by omega)];rfl,fun W => isPerson_any _ W q2 q3⟩
 have HRW : Hid (∃ b o A c,RA = some ⟨b,o,none⟩ ∧ ∀ V,Below s w V → V.cell? ⟨b,o + 0,none⟩ = some (.slice A N c)) := by
  obtain ⟨b,o,e1,_,hrow⟩ := h.row h0;obtain ⟨A,c,_,_,_,_,_,hc⟩ := hrow 0 h0;exact ⟨b,o,A,c,e1,by rw [← hs];exact hc⟩
 have HCELL : Hid (∀ i,i < P.length → ∃ A c,(rs.getD i r0).cell = .slice A N c) := fun i hi => by
  obtain ⟨b,o,e1,_,hrow⟩ := h.row h0;obtain ⟨A,c,d,e,hdl,_,_,_⟩ := hrow i hi;exact ⟨A,c,by rw [e,RI.cell_eq];show Value.slice A d.length c = _;rw [hdl]⟩
 obtain ⟨n,hnn⟩ : ∃ n,P.length = n := ⟨_,rfl⟩;obtain ⟨m,hmm⟩ : ∃ m,L.length = m := ⟨_,rfl⟩;have HNN := Lib.hid (And.intro hnn hmm);rw [hnn] at HCK HHN HCELL h0 hn ⊢;rw [hmm] at HHN HWL hm ⊢;have HS := Lib.hid hs
 have HW0 : Hid (∀ W,W = (((w.alloc (.cells #[.slice RA n rc,.slice OA n oc] 25)).alloc (.cells #[.slice none 0 0] 22)).alloc (.cells #[.slice none 0 0] 23)) → Below s w W ∧ Row W s 25 [.slice RA n rc,.slice OA n oc] ∧ Row W (s + 1) 22 [.slice none 0 0] ∧ Row W (s + 1 + 1) 23 [.slice none 0 0]) := fun W e => by
  rw [e];exact ⟨by rw [← hs];exact (((Below.refl _ w).alloc (Nat.le_refl _) _).alloc (by simp) _).alloc (by simp;omega) _,((Row.fresh' _ _ _ hs).alloc _).alloc _,(Row.fresh' _ _ _ (by simp [hs])).alloc _,Row.fresh' _ _ _ (by simp [hs])⟩
 clear h hP hL hw hs hnn hmm;have hn1 : (0 : Int) < (n : Int) := by omega
 have hN1 : (0 : Int) < (N : Int) := by omega
 rw [HS.out];refine (callsIn_wide (n := 9)).1 ?_;refine callsIn_of_wp_marks Tryz.func32 rfl trivial ?_ rfl;simp only [Tryz.ntmps32,List.size_toArray,List.length_cons,List.length_nil,Nat.reduceAdd,Nat.reduceSub,Array.replicate_succ,Array.replicate_zero,List.push_toArray,List.append_toArray,List.nil_append,List.cons_append]
 gi_wp2_with fail
 rw [HS.out];obtain ⟨w1,hw1⟩ : ∃ x,(((w.alloc (.cells #[.slice RA n rc,.slice OA n oc] 25)).alloc (.cells #[.slice none 0 0] 22)).alloc (.cells #[.slice none 0 0] 23)) = x := ⟨_,rfl⟩;obtain ⟨r1,r2,r3,r4⟩ := HW0.out w1 hw1.symm;rw [hw1];clear HW0 hw1;refine ⟨trivial,(callsIn_wide.2 (HCK.out w1 r1)).mono ?_⟩;rintro x w2 ⟨rfl,hb2⟩;have HB2 : Hid (Below s w w2) := r1.trans (hb2.mono (by have := r2.lt;omega));have HR2 : Hid (Row w2 s 25 [.slice RA n rc,.slice OA n oc] ∧ Row w2 (s + 1) 22 [.slice none 0 0] ∧ Row w2 (s + 1 + 1) 23 [.slice none 0 0]) := ⟨r2.below hb2 r2.lt,r3.below hb2 r3.lt,r4.below hb2 r4.lt⟩;clear r1 r2 r3 r4 hb2 HCK
 gi_wp2_with fail
 gi_loopw [21,8] (fun i l wr => w2 = wr ∧ ∃ k : Nat,k ≤ m ∧ i = .int .i64 k ∧ l = .int .i64 (lastI L k)) (fun i _ _ => m - (intOf i).toNat)
 case atStart => exact ⟨rfl,0,Nat.zero_le _,rfl,rfl⟩
 case round =>
  obtain ⟨rfl,k,hk,rfl,rfl⟩ := hrel
  by_cases hlt : k < m
  ·have k1 : (k : Int) < (m : Int) := by omega
   have k0 : (0 : Int) ≤ (k : Int) := by omega
   obtain ⟨b,o,p,hWA,hc,hp,hl1,hl2,hIP⟩ := HWL.out k hlt;subst hWA;have q0 := hc w2 HB2.out;have HIP := Lib.hid hIP;obtain ⟨X,hX⟩ : ∃ X,lastI L k = X := ⟨_,rfl⟩;rw [hX] at hl1 ⊢;have HL2 := Lib.hid hl2;have nl : ¬ (p ≤ X) := by omega
   clear hc hp hl2 hIP hX
   gi_wp2_with (refine ⟨trivial,?_⟩;gi_at_call 78;refine (callsIn_wide.2 (HIP.out _)).mono ?_;rintro e w4 ⟨rfl,rfl⟩)
   go_roundw
   case rel => exact ⟨trivial,k + 1,by omega,by go_num,by rw [HL2.out]⟩
   case measure => simp [intOf];omega
  ·obtain rfl : k = m := by omega
   clear HWL;obtain ⟨b,o,A,c,hRA,hc⟩ := HRW.out;subst hRA;have q0 := hc w2 HB2.out;rw [Nat.add_zero] at q0;have p0 := HR2.out.1.cell (i := 0) rfl;have p1 := HR2.out.1.cell (i := 1) rfl;have hmk := makeI_any N (by omega);have hrm : Row (w2.alloc (.cells (madeCells #[.int .i64 0] N) 3)) w2.heap.size 3 (ivs (List.replicate N 0)) := by rw [madeZero];exact Row.fresh w2 3 (ivs (List.replicate N 0))
   have cm := hrm.cell (i := 0) (v := .int .i64 0) (by rw [List.getElem?_map,List.getElem?_replicate,if_pos (by omega)];rfl);have fm := hrm.fz 0;have ls := HR2.out.1.lt;have HRM := Lib.hid hrm;clear hc hrm
   have HTB : Hid ((madeCells #[Value.int .i64 0] N).setIfInBounds 0 (.int .i64 1) = (ivs (1 :: List.replicate (N - 1) 0)).toArray) := by
    show _ = _;rw [madeZero];obtain ⟨N',rfl⟩ : ∃ N',N = N' + 1 := ⟨N - 1,by omega⟩;simp [List.replicate_succ]
   gi_wp2_with fail
   refine ⟨trivial,(callsIn_wide.2 (own_any _ _ _ _ _ _ _ _ _ _)).mono ?_⟩;rintro x w4 ⟨rfl,hw4⟩;rw [HTB.out] at hw4 ⊢;obtain ⟨tb,htb⟩ : ∃ x,w2.heap.size = x := ⟨_,rfl⟩;have hb4 : Below w2.heap.size w2 w4 := by rw [← hw4];exact (((Below.refl _ _).alloc (Nat.le_refl _) _).alloc (by simp) _).alloc (by simp;omega) _
   have ht4 : Row w4 tb 3 (ivs (1 :: List.replicate (N - 1) 0)) := by rw [← hw4];exact ((Row.fresh' _ _ _ htb).alloc _).alloc _
   have hsp : Row w4 (tb + 1) 25 [.slice (some ⟨b,o,none⟩) n rc,.slice OA n oc] := by rw [← hw4];exact (Row.fresh' _ _ _ (by simp [htb])).alloc _
   have hsw : Row w4 (tb + 1 + 1) 23 [.slice WA k wc] := by rw [← hw4];exact Row.fresh' _ _ _ (by simp [htb])
   have hz4 : w4.heap.size = tb + 1 + 1 + 1 := by rw [← hw4];simp [htb]
   have hB4 : Below s w w4 := HB2.out.trans (hb4.mono (by have := HR2.out.1.lt;omega));have hx1 := HR2.out.2.1.below hb4 HR2.out.2.1.lt;have hx2 := HR2.out.2.2.below hb4 HR2.out.2.2.lt;have hst : s + 1 + 1 < tb := by have := HR2.out.2.2.lt;omega
   have HQ0 : Hid (QJ w4 (s + 1) (s + 1 + 1) (tb + 1 + 1 + 1) rs P L 0 w4 none 0 none 0) := ⟨hx1,hx2,World.ownsRow_nil _ _ _ _,World.ownsRow_nil _ _ _ _,fun g hg => (by cases hg),Tch.refl _ _⟩;have hns := HNN.out.1;simp only [World.size_alloc];rw [htb];clear hw4 p0 p1 q0 hmk cm fm HRM hx1 hx2 hb4 ls
   gi_wp2_with fail
   refine wpIn_range_hands (F := Fence.wide) (σ := Nat) rfl (by omega) (gf := 128) (lb := #[.pointer (some ⟨tb + 1,0,none⟩),.pointer (some ⟨tb + 1 + 1,0,none⟩)]) (by rfl) trivial (enters_of Tryz.func128 (by kernel_rfl) rfl)
    (fun (q : Nat) V => q ≤ n ∧ ∃ rA rc' oA oc',QJ w4 (s + 1) (s + 1 + 1) (tb + 1 + 1 + 1) rs P L q V rA rc' oA oc') (fun _ (_ : Nat) W => False)
    (fun (q : Nat) vs q' _ => OwnT P L rs q vs q') 0 (OwnS P L) w4 (Below.refl _ _) ?hsq
    ?oi (fun _ _ _ _ _ h _ _ => h) ⟨Nat.zero_le _,_,_,_,_,HQ0.out⟩ (fun _ _ _ _ h => by obtain ⟨i,_,_,_,_,_,e⟩ := h;rw [e];rfl)
    (fun (q : Nat) a' V => (∃ q0 i A' c' : Nat,∃ A' : Option Addr,q = i + 1 ∧ q0 ≤ i ∧ i < n ∧ (∀ j,q0 ≤ j → j < i → ¬ P.getD j 0 ∈ L) ∧ P.getD i 0 ∈ L ∧ (rs.getD i r0).cell = .slice A' N c' ∧ a'.tmps.getD 12 undef = .int .i64 (i : Int) ∧ a'.tmps.getD 13 undef = .slice A' N c' ∧ q0 ≤ n ∧ ∃ rA rc' oA oc',QJ w4 (s + 1) (s + 1 + 1) (tb + 1 + 1 + 1) rs P L q0 V rA rc' oA oc') ∧ a'.tmps.size = 64 ∧ a'.tmps.getD 4 undef = .pointer (some ⟨s + 1,0,none⟩) ∧ a'.tmps.getD 5 undef = .pointer (some ⟨s + 1 + 1,0,none⟩) ∧ a'.defers = []) ?oa ?assign ?body ?done ?stop
   case hsq =>
    refine HHN.out w4 hB4 _ _ w4 _ ?_ ?_
    ·rintro q V ⟨_,rA,rc',oA,oc',h⟩
     exact .inr (hB4.trans (h.tch.below (by omega) (by rintro i hi (e | e) <;> omega)))
    ·rintro q V ⟨_,rA,rc',oA,oc',h⟩
     exact ⟨h.tch.row hsp (by omega),h.tch.row hsw (by omega)⟩
   case oi =>
    rintro q V V' row ⟨hq,rA,rc',oA,oc',h⟩ hg hr;exact ⟨hq,_,_,_,_,h.grown hg hr⟩
   case oa =>
    rintro q a' _ V V' row ⟨⟨q0,i,A0,c',A',p1,p2,p3,p4,p5,p6,p7,p8,p9,rA,rc',oA,oc',h⟩,q7⟩ hg hr;exact ⟨⟨q0,i,A0,c',A',p1,p2,p3,p4,p5,p6,p7,p8,p9,_,_,_,_,h.grown hg hr⟩,q7⟩
   case assign =>
    rintro l q vs q' V K hI ⟨i,h1,h2,h3,h4,rfl,rfl⟩ hK;obtain ⟨A',c',hAc⟩ := HCELL.out i (by omega);rw [hAc];have HK := Lib.hid hK;rw [show ∀ (a b : Value),(#[51,52] : Array Tmp).zip #[a,b] = #[(51,a),(52,b)] from fun a b => by simp];clear hK;gi_wp2;exact HK.out _ _ (KeepsFrom.refl _ _) ⟨⟨q,i,0,c',A',rfl,h1,by omega,h3,h4,hAc,by rfl,by rfl,hI.1,hI.2⟩,by rfl,by rfl,by rfl,by rfl⟩
   case body =>
    rintro l q a' W hl ⟨⟨q0,i,A0,c',A',rfl,h1,h2,h3,h4,hAc,e12,e13,hq0,rA,rc',oA,oc',hQ⟩,h64,e4,e5,hdf⟩;obtain ⟨T2,ds2⟩ := a';dsimp only at h64 e4 e5 e12 e13 hdf;subst hdf;obtain ⟨v3,hT,hv⟩ := arr_fun T2 64 h64;have e' : ((List.range 64).map v3).toArray = #[v3 0,v3 1,v3 2,v3 3,v3 4,v3 5,v3 6,v3 7,v3 8,v3 9,v3 10,v3 11,v3 12,v3 13,v3 14,v3 15,v3 16,v3 17,v3 18,v3 19,v3 20,v3 21,v3 22,v3 23,v3 24,v3 25,v3 26,v3 27,v3 28,v3 29,v3 30,v3 31,v3 32,v3 33,v3 34,v3 35,v3 36,v3 37,v3 38,v3 39,v3 40,v3 41,v3 42,v3 43,v3 44,v3 45,v3 46,v3 47,v3 48,v3 49,v3 50,v3 51,v3 52,v3 53,v3 54,v3 55,v3 56,v3 57,v3 58,v3 59,v3 60,v3 61,v3 62,v3 63] := rfl;rw [show v3 4 = _ from (hv 4).symm.trans e4,show v3 5 = _ from (hv 5).symm.trans e5,show v3 12 = _ from (hv 12).symm.trans e12,show v3 13 = _ from (hv 13).symm.trans e13] at e';rw [hT,e'];clear hT hv e' e12 e13 e4 e5 h64
    have HEND : Hid (∀ (rA' : Option Addr) (rc'' : Nat) (oA' : Option Addr) (oc'' : Nat) (W' : World),Row W' (s + 1) 22 [.slice rA' ((sel P L q0).length + 1) rc''] → Row W' (s + 1 + 1) 23 [.slice oA' ((sel P L q0).length + 1) oc''] →
      PP 23 3 (fun g => g = s + 1 ∨ g = s + 1 + 1) (tb + 1 + 1 + 1) W (.slice rA (sel P L q0).length rc') (.slice oA (sel P L q0).length oc') W' (.slice rA' ((sel P L q0).length + 1) rc'') (.slice oA' ((sel P L q0).length + 1) oc'') ((sel P L q0).length + 1) ((sel P L q0).length + 1) (((sel P L q0).map fun i => (rs.getD i r0).cell) ++ [.slice A' N c']) (((sel P L q0).map fun i : Nat => .int .i64 (i : Int)) ++ [.int .i64 (i : Int)]) →
      KeepsFrom w4.heap.size W W' ∧ i + 1 ≤ n ∧ ∃ rA rc' oA oc',QJ w4 (s + 1) (s + 1 + 1) (tb + 1 + 1 + 1) rs P L (i + 1) W' rA rc' oA oc') := fun rA' rc'' oA' oc'' W' x1 x2 hP => by
     obtain ⟨a1,a2⟩ := hQ.step (by omega) h1 h3 h4 hAc x1 x2 hP;exact ⟨a1,by omega,_,_,_,_,a2⟩
    have hkl := sel_le P L q0;obtain ⟨j,hj⟩ : ∃ x,(sel P L q0).length = x := ⟨_,rfl⟩;obtain ⟨x1,x2,o1,o2,hd,htq⟩ := hQ;rw [hj] at x1 x2 o1 o2 hd HEND hkl;obtain ⟨xs,hxs⟩ : ∃ x,((sel P L q0).map fun i => (rs.getD i r0).cell) = x := ⟨_,rfl⟩;obtain ⟨ys,hys⟩ : ∃ x,((sel P L q0).map fun i : Nat => Value.int .i64 (i : Int)) = x := ⟨_,rfl⟩;rw [hxs] at o1 HEND;rw [hys] at o2 HEND;obtain ⟨zW,hzW⟩ : ∃ x,W.heap.size = x := ⟨_,rfl⟩;have HZW := Lib.hid hzW;have HBB : Hid (tb + 1 + 1 + 1 ≤ zW) := by show _ ≤ _;rw [← hzW];have := htq.size;omega
    have hBz := HBB.out;have HX1 : Hid (∀ g,(Value.slice rA j rc').ownBlock = some g → tb + 1 + 1 + 1 ≤ g ∧ g < zW) := fun g hg => by have := o1.lt g hg;omega
    have HX2 : Hid (∀ g,(Value.slice oA j oc').ownBlock = some g → tb + 1 + 1 + 1 ≤ g ∧ g < zW) := fun g hg => by have := o2.lt g hg;omega
    have HP0 := Lib.hid (PP.start (bx := fun g => g = s + 1 ∨ g = s + 1 + 1) o1 o2 hd);have HS0 : Hid (Row W (s + 1) 22 [.slice rA j rc'] ∧ Row W (s + 1 + 1) 23 [.slice oA j oc']) := ⟨x1,x2⟩;clear x1 x2 o1 o2 hd hxs hys hAc h3 h4 hj hzW
    gi_wp2_with fail
    refine wpIn_region_treeC (fun (i : Nat) (W : World) => Row W (s + 1 + 1) 23 [.slice oA j oc'] ∧ (i ≤ 1 → Row W (s + 1) 22 [.slice rA j rc'])) (.take 0 (.take 1 (.take 4 (.take 5 (.two 2 (.two 3 (.one 6 (.one 7 (.one 8 (.one 9 .done)))) 6 (.one 3 (.one 7 (.one 8 (.one 9 .done))))) 6 (.one 2 (.one 3 (.one 7 (.one 8 (.one 9 .done)))))))))) (by kernel_rfl) (by kernel_rfl) (by kernel_rfl) (by kernel_rfl) (by kernel_rfl) ?_;have HPn := Lib.hid (HP0.out.next (Below.refl _ _).drew);have HSn : Hid ((fun (_ : Nat) (W : World) => Row W (s + 1) 22 [.slice rA j rc'] ∧ Row W (s + 1 + 1) 23 [.slice oA j oc']) 0 W.drew) := ⟨HS0.out.1.below (Below.refl _ _).drew HS0.out.1.lt,HS0.out.2.below (Below.refl _ _).drew HS0.out.2.lt⟩;clear HP0 HS0;have HGD : Hid (zW ≤ W.drew.heap.size) := by show zW ≤ W.heap.size;exact Nat.le_of_eq HZW.out.symm
    generalize W.drew = wd at HPn HSn HGD ⊢;refine wpOTC_take rfl _ (by rfl) (fun _ => rfl) (by intro w' hS;have c0 := (hS.2 (by decide)).cell (i := 0) rfl;go_simp;try with_reducible rfl) ⟨HSn.out.2,fun _ => HSn.out.1⟩ fun KK hKK => ?_;go_simp;refine hKK _ ?_;clear hKK KK;refine wpOTC_take rfl _ (by rfl) (fun _ => rfl) (by intro w' hS;skip;go_simp;try with_reducible rfl) ⟨HSn.out.2,fun _ => HSn.out.1⟩ fun KK hKK => ?_;go_simp;refine hKK _ ?_;clear hKK KK;refine wpOTC_take rfl _ (by rfl) (fun _ => rfl) (by intro w' hS;have c0 := hS.1.cell (i := 0) rfl;go_simp;try with_reducible rfl) ⟨HSn.out.2,fun _ => HSn.out.1⟩ fun KK hKK => ?_;go_simp;refine hKK _ ?_;clear hKK KK;refine wpOTC_take rfl _ (by rfl) (fun _ => rfl) (by intro w' hS;skip;go_simp;try with_reducible rfl) ⟨HSn.out.2,fun _ => HSn.out.1⟩ fun KK hKK => ?_;go_simp;refine hKK _ ?_;clear hKK KK;refine wpOTC_two _ _ rfl (by rfl) rfl rfl (by rfl) rfl (fun KK hKK => ?_) (fun KK hKK => ?_)
    ·go_simp
     obtain ⟨g1,hg1⟩ : ∃ x,wd.heap.size = x := ⟨_,rfl⟩;rw [hg1];have hP := HPn.out.next ((Below.refl wd.heap.size wd).alloc (Nat.le_refl _) (.cells #[.slice A' N c'] 23));have hS : (fun (_ : Nat) (W : World) => Row W (s + 1) 22 [.slice rA j rc'] ∧ Row W (s + 1 + 1) 23 [.slice oA j oc']) 0 (wd.alloc (.cells #[.slice A' N c'] 23)) := ⟨HSn.out.1.alloc _,HSn.out.2.alloc _⟩;have hR : Row (wd.alloc (.cells #[.slice A' N c'] 23)) g1 23 [.slice A' N c'] := by rw [← hg1];exact Row.fresh _ _ _
     have hG : zW ≤ g1 := by rw [← hg1];exact HGD.out
     have hGD : zW ≤ (wd.alloc (.cells #[.slice A' N c'] 23)).heap.size := by rw [World.size_alloc,hg1];omega
     refine hKK _ _ (fun _ _ => ⟨hS.2,fun _ => hS.1⟩) ?_;clear hKK KK hg1;clear HPn HSn HGD;generalize (wd.alloc (.cells #[.slice A' N c'] 23)) = w1 at hP hS hR hGD ⊢;have HPn := Lib.hid hP;have HSn := Lib.hid hS;have HGD := Lib.hid hGD;have HR1 := Lib.hid hR;have HG1 := Lib.hid hG;clear hP hS hR hG hGD;refine wpOTC_two _ _ rfl (by rfl) rfl rfl (by rfl) rfl (fun KK hKK => ?_) (fun KK hKK => ?_)
     ·refine wpInU_append_rd (.tmp 53) (.tmp 55) 22 rfl (tb + 1 + 1 + 1) 23 _ (.slice none 0 0) 1 24 Tryz.underlying22 rfl rfl rfl rfl rfl (by decide) (.slice rA j rc') j xs (by rfl) HPn.out.own1 (g1 + 1) (some ⟨g1,0,none⟩) 1 1 [.slice A' N c'] (by rfl) (rd_rowU HR1.out) (by intro u hu;simp at hu;rw [hu];rfl) (by unfold maxLen;omega) (by omega) (by have := HGD.out;omega) ?_
      intro v1 w2 hown hgr hor;have hS : (fun (_ : Nat) (W : World) => Row W (s + 1) 22 [.slice rA j rc'] ∧ Row W (s + 1 + 1) 23 [.slice oA j oc']) 0 w2 := ⟨HSn.out.1.grown hgr (fun e => by have := HX1.out _ e.symm;omega),HSn.out.2.grown hgr (fun e => by have := HX1.out _ e.symm;omega)⟩;have hGD : zW ≤ w2.heap.size := Nat.le_trans HGD.out hgr.size;refine hKK _ _ (fun _ _ => ⟨hS.2,fun _ => hS.1⟩) ?_;clear hKK KK;have hP := HPn.out.app1 hown hgr hor;obtain ⟨g1v,c1v,hv1,_,_⟩ := hown.form (by omega);subst hv1;clear HPn HSn HR1 HG1 HGD hown hgr hor;have HPn := Lib.hid hP;have HSn := Lib.hid hS;have HGD := Lib.hid hGD;clear hP hS hGD;refine wpOTC_one _ rfl (by rfl) rfl fun KK hKK => ?_;go_simp;obtain ⟨g2,hg2⟩ : ∃ x,w2.heap.size = x := ⟨_,rfl⟩;rw [hg2];have hP := HPn.out.next ((Below.refl w2.heap.size w2).alloc (Nat.le_refl _) (.cells #[.int .i64 (i : Int)] 3));have hS : (fun (_ : Nat) (W : World) => Row W (s + 1) 22 [.slice rA j rc'] ∧ Row W (s + 1 + 1) 23 [.slice oA j oc']) 0 (w2.alloc (.cells #[.int .i64 (i : Int)] 3)) := ⟨HSn.out.1.alloc _,HSn.out.2.alloc _⟩;have hR : Row (w2.alloc (.cells #[.int .i64 (i : Int)] 3)) g2 3 [.int .i64 (i : Int)] := by rw [← hg2];exact Row.fresh _ _ _
      have hG : zW ≤ g2 := by rw [← hg2];exact HGD.out
      have hGD : zW ≤ (w2.alloc (.cells #[.int .i64 (i : Int)] 3)).heap.size := by rw [World.size_alloc,hg2];omega
      refine hKK _ _ (fun _ _ => ⟨hS.2,fun _ => hS.1⟩) ?_;clear hKK KK hg2;clear HPn HSn HGD;generalize (w2.alloc (.cells #[.int .i64 (i : Int)] 3)) = w3 at hP hS hR hGD ⊢;have HPn := Lib.hid hP;have HSn := Lib.hid hS;have HGD := Lib.hid hGD;have HR2 := Lib.hid hR;have HG2 := Lib.hid hG;clear hP hS hR hG hGD;refine wpOTC_one _ rfl (by rfl) rfl fun KK hKK => ?_;refine wpInU_append_rd (.tmp 57) (.tmp 59) 23 rfl (tb + 1 + 1 + 1) 3 _ (.int .i64 0) 1 8 Tryz.underlying23 rfl rfl rfl rfl rfl (by decide) (.slice oA j oc') j ys (by rfl) HPn.out.own2 (g2 + 1) (some ⟨g2,0,none⟩) 1 1 [.int .i64 (i : Int)] (by rfl) (rd_rowU HR2.out) (by intro u hu;simp at hu;rw [hu];rfl) (by unfold maxLen;omega) (by omega) (by have := HGD.out;omega) ?_;intro v2 w4 hown hgr hor;have hS : (fun (_ : Nat) (W : World) => Row W (s + 1) 22 [.slice rA j rc'] ∧ Row W (s + 1 + 1) 23 [.slice oA j oc']) 0 w4 := ⟨HSn.out.1.grown hgr (fun e => by have := HX2.out _ e.symm;omega),HSn.out.2.grown hgr (fun e => by have := HX2.out _ e.symm;omega)⟩;have hGD : zW ≤ w4.heap.size := Nat.le_trans HGD.out hgr.size;refine hKK _ _ (fun _ _ => ⟨hS.2,fun _ => hS.1⟩) ?_;clear hKK KK;have hP := HPn.out.app2 hown hgr hor;obtain ⟨g2v,c2v,hv2,_,_⟩ := hown.form (by omega);subst hv2;clear HPn HSn HR2 HG2 HGD hown hgr hor;have HPn := Lib.hid hP;have HSn := Lib.hid hS;have HGD := Lib.hid hGD;clear hP hS hGD;refine wpOTC_one [] rfl (by rfl) (by kernel_rfl) fun KK hKK => ?_;have hs1 := HSn.out.2.away (p := ⟨(s + 1),0,none⟩) (by show (s + 1 + 1) ≠ (s + 1);omega) (.slice (some ⟨g1v,0,none⟩) (j + 1) c1v);have c0 := HSn.out.1.cell (i := 0) rfl;have f0 := HSn.out.1.fz 0;have c1 := hs1.cell (i := 0) rfl;have f1 := hs1.fz 0;go_simp;refine hKK _ _ (fun e he => absurd he (by simp)) ?_;clear hKK KK c0;refine wpOTC_one [] rfl (by rfl) (by kernel_rfl) fun KK hKK => ?_;go_simp;refine hKK _ _ (fun e he => absurd he (by simp)) ?_;clear hKK KK c1 f0 f1;have hm0 : Row (w4.setCell ⟨(s + 1),0,none⟩ (.slice (some ⟨g1v,0,none⟩) (j + 1) c1v)) (s + 1) 22 [.slice (some ⟨g1v,0,none⟩) (j + 1) c1v] := HSn.out.1.put 0 _;have hl1 := HPn.out.own1.lt _ rfl;have hl2 := HPn.out.own2.lt _ rfl;have hm1 := hm0.away (p := ⟨(s + 1 + 1),0,none⟩) (by show (s + 1) ≠ (s + 1 + 1);omega) (.slice (some ⟨g2v,0,none⟩) (j + 1) c2v);have hm2 : Row ((w4.setCell ⟨(s + 1),0,none⟩ (.slice (some ⟨g1v,0,none⟩) (j + 1) c1v)).setCell ⟨(s + 1 + 1),0,none⟩ (.slice (some ⟨g2v,0,none⟩) (j + 1) c2v)) (s + 1 + 1) 23 [.slice (some ⟨g2v,0,none⟩) (j + 1) c2v] := hs1.put 0 _;have hp1 := (HPn.out.set1 (p := ⟨(s + 1),0,none⟩) (v := .slice (some ⟨g1v,0,none⟩) (j + 1) c1v) (.inr (.inl rfl)) (by simp [Value.ownBlock];omega) (by simp [Value.ownBlock];omega)).set1 (p := ⟨(s + 1 + 1),0,none⟩) (v := .slice (some ⟨g2v,0,none⟩) (j + 1) c2v) (.inr (.inr rfl)) (by simp [Value.ownBlock];omega) (by simp [Value.ownBlock];omega);refine wpOTC_done ?_;show KeepsFrom _ _ _ ∧ _;exact HEND.out _ _ _ _ _ hm1 hm2 hp1
     ·go_simp
      obtain ⟨g2,hg2⟩ : ∃ x,w1.heap.size = x := ⟨_,rfl⟩;rw [hg2];have hP := HPn.out.next ((Below.refl w1.heap.size w1).alloc (Nat.le_refl _) (.cells #[.int .i64 (i : Int)] 3));have hS : (fun (_ : Nat) (W : World) => Row W (s + 1) 22 [.slice rA j rc'] ∧ Row W (s + 1 + 1) 23 [.slice oA j oc']) 0 (w1.alloc (.cells #[.int .i64 (i : Int)] 3)) := ⟨HSn.out.1.alloc _,HSn.out.2.alloc _⟩;have hR : Row (w1.alloc (.cells #[.int .i64 (i : Int)] 3)) g2 3 [.int .i64 (i : Int)] := by rw [← hg2];exact Row.fresh _ _ _
      have hG : zW ≤ g2 := by rw [← hg2];exact HGD.out
      have hGD : zW ≤ (w1.alloc (.cells #[.int .i64 (i : Int)] 3)).heap.size := by rw [World.size_alloc,hg2];omega
      refine hKK _ _ (fun _ _ => ⟨hS.2,fun _ => hS.1⟩) ?_;clear hKK KK hg2;have hk := HR1.out.alloc (.cells #[.int .i64 (i : Int)] 3);clear HR1;clear HPn HSn HGD;generalize (w1.alloc (.cells #[.int .i64 (i : Int)] 3)) = w2 at hP hS hR hGD hk ⊢;have HPn := Lib.hid hP;have HSn := Lib.hid hS;have HGD := Lib.hid hGD;have HR2 := Lib.hid hR;have HG2 := Lib.hid hG;clear hP hS hR hG hGD;have HR1 := Lib.hid hk;clear hk;refine wpOTC_one _ rfl (by rfl) rfl fun KK hKK => ?_;refine wpInU_append_rd (.tmp 53) (.tmp 55) 22 rfl (tb + 1 + 1 + 1) 23 _ (.slice none 0 0) 1 24 Tryz.underlying22 rfl rfl rfl rfl rfl (by decide) (.slice rA j rc') j xs (by rfl) HPn.out.own1 (g1 + 1) (some ⟨g1,0,none⟩) 1 1 [.slice A' N c'] (by rfl) (rd_rowU HR1.out) (by intro u hu;simp at hu;rw [hu];rfl) (by unfold maxLen;omega) (by omega) (by have := HGD.out;omega) ?_;intro v1 w3 hown hgr hor;have hS : (fun (_ : Nat) (W : World) => Row W (s + 1) 22 [.slice rA j rc'] ∧ Row W (s + 1 + 1) 23 [.slice oA j oc']) 0 w3 := ⟨HSn.out.1.grown hgr (fun e => by have := HX1.out _ e.symm;omega),HSn.out.2.grown hgr (fun e => by have := HX1.out _ e.symm;omega)⟩;have hGD : zW ≤ w3.heap.size := Nat.le_trans HGD.out hgr.size;have hk := HR2.out.grown hgr (fun e => by have := HX1.out _ e.symm;have := HG2.out;omega);clear HR2;refine hKK _ _ (fun _ _ => ⟨hS.2,fun _ => hS.1⟩) ?_;clear hKK KK;have hP := HPn.out.app1 hown hgr hor;obtain ⟨g1v,c1v,hv1,_,_⟩ := hown.form (by omega);subst hv1;clear HPn HSn HR1 HG1 HGD hown hgr hor;have HPn := Lib.hid hP;have HSn := Lib.hid hS;have HGD := Lib.hid hGD;clear hP hS hGD;have HR2 := Lib.hid hk;clear hk;refine wpOTC_one _ rfl (by rfl) rfl fun KK hKK => ?_;refine wpInU_append_rd (.tmp 57) (.tmp 59) 23 rfl (tb + 1 + 1 + 1) 3 _ (.int .i64 0) 1 8 Tryz.underlying23 rfl rfl rfl rfl rfl (by decide) (.slice oA j oc') j ys (by rfl) HPn.out.own2 (g2 + 1) (some ⟨g2,0,none⟩) 1 1 [.int .i64 (i : Int)] (by rfl) (rd_rowU HR2.out) (by intro u hu;simp at hu;rw [hu];rfl) (by unfold maxLen;omega) (by omega) (by have := HGD.out;omega) ?_;intro v2 w4 hown hgr hor;have hS : (fun (_ : Nat) (W : World) => Row W (s + 1) 22 [.slice rA j rc'] ∧ Row W (s + 1 + 1) 23 [.slice oA j oc']) 0 w4 := ⟨HSn.out.1.grown hgr (fun e => by have := HX2.out _ e.symm;omega),HSn.out.2.grown hgr (fun e => by have := HX2.out _ e.symm;omega)⟩;have hGD : zW ≤ w4.heap.size := Nat.le_trans HGD.out hgr.size;refine hKK _ _ (fun _ _ => ⟨hS.2,fun _ => hS.1⟩) ?_;clear hKK KK;have hP := HPn.out.app2 hown hgr hor;obtain ⟨g2v,c2v,hv2,_,_⟩ := hown.form (by omega);subst hv2;clear HPn HSn HR2 HG2 HGD hown hgr hor;have HPn := Lib.hid hP;have HSn := Lib.hid hS;have HGD := Lib.hid hGD;clear hP hS hGD;refine wpOTC_one [] rfl (by rfl) (by kernel_rfl) fun KK hKK => ?_;have hs1 := HSn.out.2.away (p := ⟨(s + 1),0,none⟩) (by show (s + 1 + 1) ≠ (s + 1);omega) (.slice (some ⟨g1v,0,none⟩) (j + 1) c1v);have c0 := HSn.out.1.cell (i := 0) rfl;have f0 := HSn.out.1.fz 0;have c1 := hs1.cell (i := 0) rfl;have f1 := hs1.fz 0;go_simp;refine hKK _ _ (fun e he => absurd he (by simp)) ?_
      clear hKK KK c0;refine wpOTC_one [] rfl (by rfl) (by kernel_rfl) fun KK hKK => ?_;go_simp;refine hKK _ _ (fun e he => absurd he (by simp)) ?_;clear hKK KK c1 f0 f1;have hm0 : Row (w4.setCell ⟨(s + 1),0,none⟩ (.slice (some ⟨g1v,0,none⟩) (j + 1) c1v)) (s + 1) 22 [.slice (some ⟨g1v,0,none⟩) (j + 1) c1v] := HSn.out.1.put 0 _;have hl1 := HPn.out.own1.lt _ rfl;have hl2 := HPn.out.own2.lt _ rfl;have hm1 := hm0.away (p := ⟨(s + 1 + 1),0,none⟩) (by show (s + 1) ≠ (s + 1 + 1);omega) (.slice (some ⟨g2v,0,none⟩) (j + 1) c2v);have hm2 : Row ((w4.setCell ⟨(s + 1),0,none⟩ (.slice (some ⟨g1v,0,none⟩) (j + 1) c1v)).setCell ⟨(s + 1 + 1),0,none⟩ (.slice (some ⟨g2v,0,none⟩) (j + 1) c2v)) (s + 1 + 1) 23 [.slice (some ⟨g2v,0,none⟩) (j + 1) c2v] := hs1.put 0 _;have hp1 := (HPn.out.set1 (p := ⟨(s + 1),0,none⟩) (v := .slice (some ⟨g1v,0,none⟩) (j + 1) c1v) (.inr (.inl rfl)) (by simp [Value.ownBlock];omega) (by simp [Value.ownBlock];omega)).set1 (p := ⟨(s + 1 + 1),0,none⟩) (v := .slice (some ⟨g2v,0,none⟩) (j + 1) c2v) (.inr (.inr rfl)) (by simp [Value.ownBlock];omega) (by simp [Value.ownBlock];omega);refine wpOTC_done ?_;show KeepsFrom _ _ _ ∧ _;exact HEND.out _ _ _ _ _ hm1 hm2 hp1
    ·go_simp
     obtain ⟨g2,hg2⟩ : ∃ x,wd.heap.size = x := ⟨_,rfl⟩;rw [hg2];have hP := HPn.out.next ((Below.refl wd.heap.size wd).alloc (Nat.le_refl _) (.cells #[.int .i64 (i : Int)] 3));have hS : (fun (_ : Nat) (W : World) => Row W (s + 1) 22 [.slice rA j rc'] ∧ Row W (s + 1 + 1) 23 [.slice oA j oc']) 0 (wd.alloc (.cells #[.int .i64 (i : Int)] 3)) := ⟨HSn.out.1.alloc _,HSn.out.2.alloc _⟩;have hR : Row (wd.alloc (.cells #[.int .i64 (i : Int)] 3)) g2 3 [.int .i64 (i : Int)] := by rw [← hg2];exact Row.fresh _ _ _
     have hG : zW ≤ g2 := by rw [← hg2];exact HGD.out
     have hGD : zW ≤ (wd.alloc (.cells #[.int .i64 (i : Int)] 3)).heap.size := by rw [World.size_alloc,hg2];omega
     refine hKK _ _ (fun _ _ => ⟨hS.2,fun _ => hS.1⟩) ?_;clear hKK KK hg2;clear HPn HSn HGD;generalize (wd.alloc (.cells #[.int .i64 (i : Int)] 3)) = w1 at hP hS hR hGD ⊢;have HPn := Lib.hid hP;have HSn := Lib.hid hS;have HGD := Lib.hid hGD;have HR2 := Lib.hid hR;have HG2 := Lib.hid hG;clear hP hS hR hG hGD;refine wpOTC_one _ rfl (by rfl) rfl fun KK hKK => ?_;go_simp;obtain ⟨g1,hg1⟩ : ∃ x,w1.heap.size = x := ⟨_,rfl⟩;rw [hg1];have hP := HPn.out.next ((Below.refl w1.heap.size w1).alloc (Nat.le_refl _) (.cells #[.slice A' N c'] 23));have hS : (fun (_ : Nat) (W : World) => Row W (s + 1) 22 [.slice rA j rc'] ∧ Row W (s + 1 + 1) 23 [.slice oA j oc']) 0 (w1.alloc (.cells #[.slice A' N c'] 23)) := ⟨HSn.out.1.alloc _,HSn.out.2.alloc _⟩;have hR : Row (w1.alloc (.cells #[.slice A' N c'] 23)) g1 23 [.slice A' N c'] := by rw [← hg1];exact Row.fresh _ _ _
     have hG : zW ≤ g1 := by rw [← hg1];exact HGD.out
     have hGD : zW ≤ (w1.alloc (.cells #[.slice A' N c'] 23)).heap.size := by rw [World.size_alloc,hg1];omega
     refine hKK _ _ (fun _ _ => ⟨hS.2,fun _ => hS.1⟩) ?_;clear hKK KK hg1;have hk := HR2.out.alloc (.cells #[.slice A' N c'] 23);clear HR2;clear HPn HSn HGD;generalize (w1.alloc (.cells #[.slice A' N c'] 23)) = w2 at hP hS hR hGD hk ⊢;have HPn := Lib.hid hP;have HSn := Lib.hid hS;have HGD := Lib.hid hGD;have HR1 := Lib.hid hR;have HG1 := Lib.hid hG;clear hP hS hR hG hGD;have HR2 := Lib.hid hk;clear hk;refine wpOTC_one _ rfl (by rfl) rfl fun KK hKK => ?_;refine wpInU_append_rd (.tmp 53) (.tmp 55) 22 rfl (tb + 1 + 1 + 1) 23 _ (.slice none 0 0) 1 24 Tryz.underlying22 rfl rfl rfl rfl rfl (by decide) (.slice rA j rc') j xs (by rfl) HPn.out.own1 (g1 + 1) (some ⟨g1,0,none⟩) 1 1 [.slice A' N c'] (by rfl) (rd_rowU HR1.out) (by intro u hu;simp at hu;rw [hu];rfl) (by unfold maxLen;omega) (by omega) (by have := HGD.out;omega) ?_;intro v1 w3 hown hgr hor;have hS : (fun (_ : Nat) (W : World) => Row W (s + 1) 22 [.slice rA j rc'] ∧ Row W (s + 1 + 1) 23 [.slice oA j oc']) 0 w3 := ⟨HSn.out.1.grown hgr (fun e => by have := HX1.out _ e.symm;omega),HSn.out.2.grown hgr (fun e => by have := HX1.out _ e.symm;omega)⟩;have hGD : zW ≤ w3.heap.size := Nat.le_trans HGD.out hgr.size;have hk := HR2.out.grown hgr (fun e => by have := HX1.out _ e.symm;have := HG2.out;omega);clear HR2;refine hKK _ _ (fun _ _ => ⟨hS.2,fun _ => hS.1⟩) ?_;clear hKK KK;have hP := HPn.out.app1 hown hgr hor;obtain ⟨g1v,c1v,hv1,_,_⟩ := hown.form (by omega);subst hv1;clear HPn HSn HR1 HG1 HGD hown hgr hor;have HPn := Lib.hid hP;have HSn := Lib.hid hS;have HGD := Lib.hid hGD;clear hP hS hGD;have HR2 := Lib.hid hk;clear hk;refine wpOTC_one _ rfl (by rfl) rfl fun KK hKK => ?_;refine wpInU_append_rd (.tmp 57) (.tmp 59) 23 rfl (tb + 1 + 1 + 1) 3 _ (.int .i64 0) 1 8 Tryz.underlying23 rfl rfl rfl rfl rfl (by decide) (.slice oA j oc') j ys (by rfl) HPn.out.own2 (g2 + 1) (some ⟨g2,0,none⟩) 1 1 [.int .i64 (i : Int)] (by rfl) (rd_rowU HR2.out) (by intro u hu;simp at hu;rw [hu];rfl) (by unfold maxLen;omega) (by omega) (by have := HGD.out;omega) ?_;intro v2 w4 hown hgr hor;have hS : (fun (_ : Nat) (W : World) => Row W (s + 1) 22 [.slice rA j rc'] ∧ Row W (s + 1 + 1) 23 [.slice oA j oc']) 0 w4 := ⟨HSn.out.1.grown hgr (fun e => by have := HX2.out _ e.symm;omega),HSn.out.2.grown hgr (fun e => by have := HX2.out _ e.symm;omega)⟩;have hGD : zW ≤ w4.heap.size := Nat.le_trans HGD.out hgr.size;refine hKK _ _ (fun _ _ => ⟨hS.2,fun _ => hS.1⟩) ?_;clear hKK KK;have hP := HPn.out.app2 hown hgr hor;obtain ⟨g2v,c2v,hv2,_,_⟩ := hown.form (by omega);subst hv2;clear HPn HSn HR2 HG2 HGD hown hgr hor;have HPn := Lib.hid hP;have HSn := Lib.hid hS;have HGD := Lib.hid hGD;clear hP hS hGD;refine wpOTC_one [] rfl (by rfl) (by kernel_rfl) fun KK hKK => ?_;have hs1 := HSn.out.2.away (p := ⟨(s + 1),0,none⟩) (by show (s + 1 + 1) ≠ (s + 1);omega) (.slice (some ⟨g1v,0,none⟩) (j + 1) c1v);have c0 := HSn.out.1.cell (i := 0) rfl;have f0 := HSn.out.1.fz 0;have c1 := hs1.cell (i := 0) rfl;have f1 := hs1.fz 0;go_simp;refine hKK _ _ (fun e he => absurd he (by simp)) ?_
     clear hKK KK c0;refine wpOTC_one [] rfl (by rfl) (by kernel_rfl) fun KK hKK => ?_;go_simp;refine hKK _ _ (fun e he => absurd he (by simp)) ?_;clear hKK KK c1 f0 f1;have hm0 : Row (w4.setCell ⟨(s + 1),0,none⟩ (.slice (some ⟨g1v,0,none⟩) (j + 1) c1v)) (s + 1) 22 [.slice (some ⟨g1v,0,none⟩) (j + 1) c1v] := HSn.out.1.put 0 _;have hl1 := HPn.out.own1.lt _ rfl;have hl2 := HPn.out.own2.lt _ rfl;have hm1 := hm0.away (p := ⟨(s + 1 + 1),0,none⟩) (by show (s + 1) ≠ (s + 1 + 1);omega) (.slice (some ⟨g2v,0,none⟩) (j + 1) c2v);have hm2 : Row ((w4.setCell ⟨(s + 1),0,none⟩ (.slice (some ⟨g1v,0,none⟩) (j + 1) c1v)).setCell ⟨(s + 1 + 1),0,none⟩ (.slice (some ⟨g2v,0,none⟩) (j + 1) c2v)) (s + 1 + 1) 23 [.slice (some ⟨g2v,0,none⟩) (j + 1) c2v] := hs1.put 0 _;have hp1 := (HPn.out.set1 (p := ⟨(s + 1),0,none⟩) (v := .slice (some ⟨g1v,0,none⟩) (j + 1) c1v) (.inr (.inl rfl)) (by simp [Value.ownBlock];omega) (by simp [Value.ownBlock];omega)).set1 (p := ⟨(s + 1 + 1),0,none⟩) (v := .slice (some ⟨g2v,0,none⟩) (j + 1) c2v) (.inr (.inr rfl)) (by simp [Value.ownBlock];omega) (by simp [Value.ownBlock];omega);refine wpOTC_done ?_;show KeepsFrom _ _ _ ∧ _;exact HEND.out _ _ _ _ _ hm1 hm2 hp1
   case done =>
    rintro D q V hD hOS ⟨hq,rA,rc',oA,oc',hQ⟩ hd;have hqs : sel P L n = sel P L q := sel_skip hq (fun j h1 h2 => hOS j h1 (by rw [hns];exact h2));obtain ⟨x1,x2,o1,o2,hdis,htc⟩ := hQ;rw [← hqs] at x1 x2 o1 o2;obtain ⟨j,hj⟩ : ∃ x,(sel P L n).length = x := ⟨_,rfl⟩;rw [hj] at x1 x2 o1 o2;have hVT := htc.row ht4 (by omega);have hVB : Below s w V := hB4.trans (htc.below (by omega) (by rintro i hi (e | e) <;> omega));have hMV : Marks (tb + 1 + 1 + 1) V.heap.size [{ target := .collected D,args := #[] }] V := (Marks.nil (tb + 1 + 1 + 1) (tb + 1 + 1 + 1) V).cons (by omega) (by omega) (heap_lt hd) hd;have HV := Lib.hid (And.intro o1 (And.intro o2 (And.intro hVT (And.intro hVB hMV))));have HJ := Lib.hid hj;have HSX : Hid ((fun (_ : Nat) (W : World) => Row W (s + 1) 22 [.slice rA j rc'] ∧ Row W (s + 1 + 1) 23 [.slice oA j oc']) 0 V.drew) := ⟨x1.below (Below.refl _ _).drew x1.lt,x2.below (Below.refl _ _).drew x2.lt⟩;have HVS : Hid (tb + 1 + 1 + 1 ≤ V.heap.size) := by show _ ≤ _;have := htc.size;omega
    clear hqs x1 x2 o1 o2 hdis htc hVT hVB hMV hj hd hD hOS
    gi_wp2_with fail
    rename_i Kz hKz;refine wpIn_region_treeC (fun (_ : Nat) (W : World) => Row W (s + 1) 22 [.slice rA j rc'] ∧ Row W (s + 1 + 1) 23 [.slice oA j oc']) (.take 0 (.take 1 (.take 2 (.one 3 (.one 4 (.take 5 (.take 6 .done))))))) (by kernel_rfl) (by kernel_rfl) (by kernel_rfl) (by kernel_rfl) (by kernel_rfl) ?_;have HVD : Hid (Tch (fun g => g = s + 1 ∨ g = s + 1 + 1) V V.drew) := (Tch.refl _ V).drew;generalize V.drew = Vd at HSX HVD ⊢
    iterate 2 (refine wpOTC_take rfl _ (by rfl) (fun _ => rfl) (by intro w' hS;have q0 := hS.1.cell (i := 0) rfl;have q1 := hS.2.cell (i := 0) rfl;go_simp;try with_reducible rfl) HSX.out fun KK hKK => ?_;go_simp;refine hKK _ ?_;clear hKK KK)
    refine wpOTC_take rfl _ (by rfl) (fun _ => rfl) (by intro w' hS;go_simp;try with_reducible rfl) HSX.out fun KK hKK => ?_;go_simp;refine hKK _ ?_;clear hKK KK;refine wpOTC_one _ rfl (by rfl) rfl fun KK hKK => ?_;have c0 := HSX.out.1.cell (i := 0) rfl;have f0 := HSX.out.1.fz 0;go_simp;have hy1 : Row (Vd.setCell ⟨s + 1,0,none⟩ (.slice rA j rc')) (s + 1) 22 [.slice rA j rc'] := HSX.out.1.put 0 _;have hy2 := HSX.out.2.away (p := ⟨s + 1,0,none⟩) (by show s + 1 + 1 ≠ s + 1;omega) (.slice rA j rc');refine hKK _ _ (fun _ _ => ⟨hy1,hy2⟩) ?_;clear hKK KK c0 f0;refine wpOTC_one _ rfl (by rfl) rfl fun KK hKK => ?_;have c0 := HSX.out.2.cell (i := 0) rfl;have f0 := HSX.out.2.fz 0;go_simp;have hy3 := hy1.away (p := ⟨s + 1 + 1,0,none⟩) (by show s + 1 ≠ s + 1 + 1;omega) (.slice oA j oc');have hy4 : Row ((Vd.setCell ⟨s + 1,0,none⟩ (.slice rA j rc')).setCell ⟨s + 1 + 1,0,none⟩ (.slice oA j oc')) (s + 1 + 1) 23 [.slice oA j oc'] := hy2.put 0 _;refine hKK _ _ (fun _ _ => ⟨hy3,hy4⟩) ?_;clear hKK KK c0 f0;have htf : Tch (fun g => g = s + 1 ∨ g = s + 1 + 1) V ((Vd.setCell ⟨s + 1,0,none⟩ (.slice rA j rc')).setCell ⟨s + 1 + 1,0,none⟩ (.slice oA j oc')) := (HVD.out.set (p := ⟨s + 1,0,none⟩) (.inr (.inl rfl)) _).set (p := ⟨s + 1 + 1,0,none⟩) (.inr (.inr rfl)) _;generalize ((Vd.setCell ⟨s + 1,0,none⟩ (.slice rA j rc')).setCell ⟨s + 1 + 1,0,none⟩ (.slice oA j oc')) = V5 at hy3 hy4 htf ⊢;have HSY : Hid ((fun (_ : Nat) (W : World) => Row W (s + 1) 22 [.slice rA j rc'] ∧ Row W (s + 1 + 1) 23 [.slice oA j oc']) 0 V5) := ⟨hy3,hy4⟩;have HTF := Lib.hid htf;clear hy1 hy2 hy3 hy4 htf
    iterate 2 (refine wpOTC_take rfl _ (by rfl) (fun _ => rfl) (by intro w' hS;go_simp;try with_reducible rfl) HSY.out fun KK hKK => ?_;go_simp;refine hKK _ ?_;clear hKK KK)
    refine wpOTC_done ?_;show Kz _ _;refine hKz _ _ ?_;go_simp
    gi_wp2_with fail
    show LeavesInM _ _ _ _ _ _ _ _ _;obtain ⟨o1,o2,hVT,hVB,hMV⟩ := HV.out;have hl1 : ∀ g,(Value.slice rA j rc').ownBlock = some g → tb + 1 + 1 + 1 ≤ g ∧ g < V.heap.size := fun g hg => o1.lt g hg;have hl2 : ∀ g,(Value.slice oA j oc').ownBlock = some g → tb + 1 + 1 + 1 ≤ g ∧ g < V.heap.size := fun g hg => o2.lt g hg;have hM5 := hMV.tch HTF.out (fun g h1 h2 => by omega) (Nat.le_refl _);refine leaves_marksU (C := V.heap.size) _ _ hM5 fun w' hb' hc' => ?_;have ho : ∀ {e : TypeId} {v : Value} {m : Nat} {xs : List Value},V.ownsRow (tb + 1 + 1 + 1) e 1 v m xs → w'.ownsRow s e 1 v m xs := fun {e v m xs} h => own_mono (by omega) (own_cells (own_blk h fun g h1 h2 => HTF.out.block g h2 (by omega)) hc');have hz1 : Row w' (s + 1) 22 [.slice rA j rc'] := hc' _ _ HSY.out.1 rfl;have hz2 : Row w' (s + 1 + 1) 23 [.slice oA j oc'] := hc' _ _ HSY.out.2 rfl;refine ⟨_,results_cctt rfl _ _ (s + 1) (s + 1 + 1) _ _ (by rfl) (by rfl) (hz1.cell (i := 0) rfl) (hz2.cell (i := 0) rfl) (isAgg_rows _) (isAgg_ints _),rA,rc',oA,oc',tb,by rw [HJ.out];rfl,?_,?_⟩
    ·refine ⟨?_,?_,hc' _ _ (HTF.out.row hVT (by omega)) rfl⟩
     ·rw [hns,HJ.out];exact ho o1
     ·rw [hns,HJ.out];exact ho o2
    ·exact (hVB.trans (HTF.out.below (by have := hVB.size;have := HS.out;omega) (by rintro i hi (e | e) <;> omega))).trans (hb'.mono (by omega))
   case stop =>
    rintro D c q W hD h;exact h.elim
end Go.Proofs.YtifejdpffkeniaaGreatDoor
namespace Go.Proofs.YtifejdpffkeniaaGreatDoor
open Go.RowKit
theorem sel_lt {P L : List Int} {n i : Nat} (h : i ∈ sel P L n) : i < n := by
 have := (List.mem_filter.1 h).1
 simpa using this
theorem sel_inc (P L : List Int) (n : Nat) : (sel P L n).Pairwise (· < ·) := by
 unfold sel;exact List.Pairwise.filter _ List.pairwise_lt_range
theorem sel_in {P L : List Int} {n i : Nat} (h : i ∈ sel P L n) : P.getD i 0 ∈ L := by
 have := (List.mem_filter.1 h).2
 simpa using this
def selR (rs : List RI) (P L : List Int) : List RI := (sel P L P.length).map fun i => rs.getD i r0
def selD (ds : List (List Int)) (P L : List Int) : List (List Int) := (sel P L P.length).map fun i => ds.getD i []
def tgt (N : Nat) : List Int := 1 :: List.replicate (N - 1) 0
def usTo (n : Nat) (at' : List Nat) (ys : List Int) : Nat → List Int
 | 0 => List.replicate n 0
 | k + 1 => (usTo n at' ys k).set (at'.getD k 0) (ys.getD k 0)
theorem usTo_len (n : Nat) (at' : List Nat) (ys : List Int) : ∀ k,(usTo n at' ys k).length = n
 | 0 => by simp [usTo]
 | k + 1 => by simp [usTo,usTo_len n at' ys k]
def AccR (N : Nat) (ds : List (List Int)) (P L : List Int) (b : Bool) (us : List Int) : Prop :=
 ∃ ys,Gs.Sol N (selD ds P L) (tgt N) b ys ∧ us = usTo P.length (sel P L P.length) ys (sel P L P.length).length
theorem AccR.det {N : Nat} {ds : List (List Int)} {P L : List Int} {b b' : Bool} {us us' : List Int} (h : AccR N ds P L b us) (h' : AccR N ds P L b' us') : b = b' ∧ us = us' := by
 obtain ⟨ys,h1,rfl⟩ := h;obtain ⟨ys',h2,rfl⟩ := h';obtain ⟨rfl,rfl⟩ := h1.det h2;exact ⟨rfl,rfl⟩
theorem usTo_zero {n : Nat} {at' : List Nat} {ys : List Int} : ∀ {k j : Nat},(∀ i,i < k → at'.getD i 0 ≠ j) → (usTo n at' ys k).getD j 0 = 0
 | 0,j,_ => by
  show (List.replicate n 0).getD j 0 = 0;rw [List.getD_eq_getElem?_getD,List.getElem?_replicate]
  split <;> rfl
 | k + 1,j,h => by
  show ((usTo n at' ys k).set _ _).getD j 0 = 0;rw [Gs.getD_set_ne (h k (by omega))];exact usTo_zero fun i hi => h i (by omega)
theorem usTo_rng {n : Nat} {at' : List Nat} {ys : List Int} (hy : ∀ y ∈ ys,0 ≤ y ∧ y < 1073741789) : ∀ {k : Nat},∀ u ∈ usTo n at' ys k,0 ≤ u ∧ u < 1073741789
 | 0,u,hu => by have := List.eq_of_mem_replicate hu;omega
 | k + 1,u,hu => by
  rcases List.mem_or_eq_of_mem_set hu with h1 | h1
  ·exact usTo_rng hy u h1
  ·subst h1
   rw [List.getD_eq_getElem?_getD]
   cases h : ys[k]? with
   | none => exact ⟨by decide,by decide⟩
   | some y => exact hy y (List.mem_of_getElem? h)
theorem sm_set {n : Nat} {f : Nat → Int} {l : List Int} {i : Nat} {v : Int} (hi : i < n) (hl : l.length = n) (h0 : l.getD i 0 = 0) :
  Gs.sm n (fun j => f j * (l.set i v).getD j 0) = Gs.sm n (fun j => f j * l.getD j 0) + f i * v := by
 have h1 : Gs.sm n (fun j => f j * (l.set i v).getD j 0) = Gs.sm n (fun j => f j * l.getD j 0 + (if j = i then f i * v else 0)) := Gs.sm_eq fun j hj => by
  by_cases e : j = i
  ·subst e
   rw [Gs.getD_set_eq (by omega),h0,if_pos rfl,Int.mul_zero,Int.zero_add]
  ·rw [Gs.getD_set_ne (fun h => e h.symm),if_neg e,Int.add_zero]
 rw [h1,Gs.sm_add]
 congr 1
 have := Gs.sm_one (n := n) (f := fun j => if j = i then f i * v else 0) hi (fun j _ hne => by simp [hne]);rw [this];simp
theorem usTo_sum {n : Nat} {at' : List Nat} {ys : List Int} {f : Nat → Int} (hat : ∀ i ∈ at',i < n) (hinc : at'.Pairwise (· < ·)) : ∀ k,k ≤ at'.length →
  Gs.sm n (fun j => f j * (usTo n at' ys k).getD j 0) = Gs.sm k (fun i => f (at'.getD i 0) * ys.getD i 0)
 | 0,_ => by
  show _ = 0
  exact Gs.sm_zero fun j _ => by
   show f j * (List.replicate n (0 : Int)).getD j 0 = 0;rw [List.getD_eq_getElem?_getD,List.getElem?_replicate]
   split
   ·exact Int.mul_zero _
   ·exact Int.mul_zero _
 | k + 1,hk => by
  have hge : at'.getD k 0 = at'[k] := by rw [List.getD_eq_getElem?_getD,List.getElem?_eq_getElem (by omega)];rfl
  have hm : at'.getD k 0 < n := hat _ (by rw [hge];exact List.getElem_mem _);have ih := usTo_sum (f := f) (ys := ys) hat hinc k (by omega);show Gs.sm n (fun j => f j * ((usTo n at' ys k).set _ _).getD j 0) = Gs.sm k _ + _;rw [sm_set hm (usTo_len _ _ _ _) (usTo_zero fun i hi => ?_),ih];have h2 := List.pairwise_iff_getElem.1 hinc i k (by omega) (by omega) hi;rw [hge,List.getD_eq_getElem?_getD,List.getElem?_eq_getElem (by omega)];show at'[i] ≠ _;omega
theorem AccR.law {N : Nat} {ds : List (List Int)} {P L : List Int} {us : List Int} (h : AccR N ds P L true us) (hl : ds.length = P.length) : us.length = P.length ∧ (∀ u ∈ us,0 ≤ u ∧ u < 1073741789) ∧
  (∀ i,i < P.length → ¬ P.getD i 0 ∈ L → us.getD i 0 = 0) ∧ ∀ k,k < N → Fm.cg (Gs.sm P.length fun i => (ds.getD i []).getD k 0 * us.getD i 0) ((tgt N).getD k 0) := by
 obtain ⟨ys,h1,rfl⟩ := h;obtain ⟨g1,g2,g3⟩ := h1.law;have hsl : (selD ds P L).length = (sel P L P.length).length := by simp [selD]
 refine ⟨usTo_len _ _ _ _,usTo_rng g2,fun i hi hn => usTo_zero fun j hj e => hn ?_,fun k hk => ?_⟩
 ·have hge : (sel P L P.length).getD j 0 = (sel P L P.length)[j] := by rw [List.getD_eq_getElem?_getD,List.getElem?_eq_getElem hj];rfl
  rw [← e,hge];exact sel_in (List.getElem_mem _)
 ·have := usTo_sum (n := P.length) (at' := sel P L P.length) (ys := ys) (f := fun i => (ds.getD i []).getD k 0) (fun i hi => sel_lt hi) (sel_inc _ _ _) _ (Nat.le_refl _)
  rw [this];have h3 := g3 k hk;rw [hsl] at h3
  have e : Gs.sm (sel P L P.length).length (fun j => ((selD ds P L).getD j []).getD k 0 * ys.getD j 0) = Gs.sm (sel P L P.length).length (fun i => (ds.getD ((sel P L P.length).getD i 0) []).getD k 0 * ys.getD i 0) := Gs.sm_eq fun j hj => by
   have hge : (sel P L P.length).getD j 0 = (sel P L P.length)[j] := by rw [List.getD_eq_getElem?_getD,List.getElem?_eq_getElem hj];rfl
   have hge2 : (selD ds P L).getD j [] = ds.getD (sel P L P.length)[j] [] := by
    unfold selD;rw [List.getD_eq_getElem?_getD,List.getElem?_map,List.getElem?_eq_getElem hj];rfl
   rw [hge,hge2]
  rw [e] at h3;exact h3
end Go.Proofs.YtifejdpffkeniaaGreatDoor
