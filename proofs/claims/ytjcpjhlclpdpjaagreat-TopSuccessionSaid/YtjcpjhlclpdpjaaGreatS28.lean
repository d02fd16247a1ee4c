import Derived.Test.YtjcpjhlclpdpjaaGreatS27
set_option linter.unusedVariables false
set_option maxRecDepth 100000
set_option maxHeartbeats 16000000
namespace Go.Proofs.YtjcpjhlclpdpjaaGreat
open Go.RowKit
attribute [local go_sem] Oper.semAt_some
theorem wout_nil (X : List Int) : wout X [] = X := by
 unfold wout
 rw [List.filter_eq_self]
 intro a ha
 simp
theorem wout_self (X : List Int) : wout X X = [] := by
 unfold wout
 rw [List.filter_eq_nil_iff]
 intro a ha
 simp [ha]
theorem RI.ok.put {w : World} {B : Nat} {r : RI} (h : r.ok w B) {g : Nat} {t : TypeId} {A : Option Addr} {n c : Nat} (hg : Row w g t [.slice A n c]) (h0 : 0 < r.d.length) (v : Value) : r.ok (w.setCell ⟨g,0,none⟩ v) B := by
 refine ⟨⟨h.1.1,fun _ => ?_⟩,h.2⟩
 obtain ⟨b,o,e,hb,hc⟩ := h.1.2 h0
 have hne : b ≠ g := fun he => by
  subst he
  obtain ⟨x,xs,hd⟩ : ∃ x xs,r.d = x :: xs := by cases hd : r.d with
   | nil => rw [hd] at h0;exact absurd h0 (Nat.lt_irrefl 0)
   | cons x xs => exact ⟨x,xs,rfl⟩
  have h1 := hc 0 (.int .i64 x) (by rw [hd];rfl)
  rw [cell_of_row w b (o + 0) _ t (0,0) hg] at h1
  cases o with
  | zero => simp at h1
  | succ o => simp at h1
 exact ⟨b,o,e,hb,fun j u hu => (World.cell?_setCell_other w _ _ v (fun e => hne (congrArg Addr.block e).symm)).trans (hc j u hu)⟩
theorem margin_any (g : Gt) (L : List Int) (WA : Option Addr) (wc : Nat) (w : World) (h : g.ok w w.heap.size) (hP : Ppl g.P) (h0 : 0 < g.P.length) (h6 : g.P.length ≤ 6) (hL : Ppl L) (hw : Rd w w.heap.size 1 WA L.length (ivs L)) :
  Calls Tryz.prog 30 #[g.val,.slice WA L.length wc] w fun r w' => ((g.N ≤ ((cntW L g.P : Nat) : Int) ∧ ∃ e A k,1 ≤ e.length ∧ r = .returned (.tuple #[.slice A e.length k,.bool true,.int .i64 0]) ∧ Rd w' w'.heap.size 1 A e.length (ivs e)) ∨ (¬ g.N ≤ ((cntW L g.P : Nat) : Int) ∧ r = .returned (.tuple #[.slice none 0 0,.bool false,.int .i64 0]))) ∧ Below w.heap.size w w' := by
 obtain ⟨s,hs⟩ : ∃ s,w.heap.size = s := ⟨_,rfl⟩
 have hm64 := hL.len
 have HCK : Hid (∀ W,Below s w W → Calls Tryz.prog 51 #[g.val,.slice WA L.length wc] W fun r w' => ∃ pg pc,r = .returned (.tuple #[.agg #[.int .i64 (-1),.int .i64 g.N,.slice g.A g.P.length g.c,.slice (some ⟨pg,0,none⟩) g.P.length pc],.int .i64 0]) ∧ w'.ownsRow W.heap.size 3 1 (.slice (some ⟨pg,0,none⟩) g.P.length pc) g.P.length (ivs g.P) ∧ Below W.heap.size W w') := fun W hW =>
  lcheck_living g L WA wc W ((h.below (by rw [hs];exact hW)).more (by have := hW.size;omega)) hP h0 (by omega) hL ((hw.below (by rw [hs];exact hW)).more (by have := hW.size;omega))
 have HHO : Hid (∀ W pA pc,Below s w W → Calls Tryz.prog 55 #[.agg #[.int .i64 (-1),.int .i64 g.N,.slice g.A g.P.length g.c,.slice pA g.P.length pc],.slice WA L.length wc] W fun r w' => r = .returned (.bool (decide (g.N ≤ ((cntW L g.P : Nat) : Int)))) ∧ Below W.heap.size W w') := fun W pA pc hW =>
  sholds_any g pA g.P.length pc WA L.length wc L W ((h.below (by rw [hs];exact hW)).more (by have := hW.size;omega)) ((hw.below (by rw [hs];exact hW)).more (by have := hW.size;omega)) hL rfl
 have HWO : Hid (∀ W pg pc,Below s w W → Rd W W.heap.size 1 (some ⟨pg,0,none⟩) g.P.length (ivs g.P) → g.P.length ≤ pc → pc ≤ maxLen → Calls Tryz.prog 52 #[.slice (some ⟨pg,0,none⟩) g.P.length pc,.slice WA L.length wc] W fun x w' => ∃ q : RI,x = .returned q.cell ∧ q.d = wout g.P L ∧ q.ok w' w'.heap.size ∧ Below W.heap.size W w') := fun W pg pc hW hrd h1 h2 =>
  without_any ⟨some ⟨pg,0,none⟩,pc,g.P⟩ WA L.length wc L W ⟨hrd,h1,h2⟩ h0 (by show g.P.length ≤ 4096;omega) ((hw.below (by rw [hs];exact hW)).more (by have := hW.size;omega)) (by omega)
 have HGK : Hid (∀ W,Below s w W → g.ok W W.heap.size) := fun W hW => (h.below (by rw [hs];exact hW)).more (by have := hW.size;omega)
 obtain ⟨gN,gA,gc,P⟩ := g
 obtain ⟨n,hnn⟩ : ∃ n,P.length = n := ⟨_,rfl⟩
 obtain ⟨m,hmm⟩ : ∃ m,L.length = m := ⟨_,rfl⟩
 obtain ⟨R,hR⟩ : ∃ R,decide (gN ≤ ((cntW L P : Nat) : Int)) = R := ⟨_,rfl⟩
 change Hid (∀ W,Below s w W → Calls Tryz.prog 51 #[.agg #[.int .i64 (-1),.int .i64 gN,.slice gA P.length gc],.slice WA L.length wc] W fun r w' => ∃ pg pc,r = .returned (.tuple #[.agg #[.int .i64 (-1),.int .i64 gN,.slice gA P.length gc,.slice (some ⟨pg,0,none⟩) P.length pc],.int .i64 0]) ∧ w'.ownsRow W.heap.size 3 1 (.slice (some ⟨pg,0,none⟩) P.length pc) P.length (ivs P) ∧ Below W.heap.size W w') at HCK
 change Hid (∀ W pA pc,Below s w W → Calls Tryz.prog 55 #[.agg #[.int .i64 (-1),.int .i64 gN,.slice gA P.length gc,.slice pA P.length pc],.slice WA L.length wc] W fun r w' => r = .returned (.bool (decide (gN ≤ ((cntW L P : Nat) : Int)))) ∧ Below W.heap.size W w') at HHO
 change Hid (∀ W pg pc,Below s w W → Rd W W.heap.size 1 (some ⟨pg,0,none⟩) P.length (ivs P) → P.length ≤ pc → pc ≤ maxLen → Calls Tryz.prog 52 #[.slice (some ⟨pg,0,none⟩) P.length pc,.slice WA L.length wc] W fun x w' => ∃ q : RI,x = .returned q.cell ∧ q.d = wout P L ∧ q.ok w' w'.heap.size ∧ Below W.heap.size W w') at HWO
 change 0 < P.length at h0
 change P.length ≤ 6 at h6
 change Ppl P at hP
 show Calls _ _ #[.agg #[.int .i64 (-1),.int .i64 gN,.slice gA P.length gc],_] _ fun r w' => ((gN ≤ ((cntW L P : Nat) : Int) ∧ ∃ e A k,1 ≤ e.length ∧ r = .returned (.tuple #[.slice A e.length k,.bool true,.int .i64 0]) ∧ Rd w' w'.heap.size 1 A e.length (ivs e)) ∨ (¬ gN ≤ ((cntW L P : Nat) : Int) ∧ r = .returned (.tuple #[.slice none 0 0,.bool false,.int .i64 0]))) ∧ Below w.heap.size w w'
 rw [hR] at HHO
 rw [hnn] at HCK HHO HWO h0 h6 ⊢
 rw [hmm] at HCK HHO HWO hm64 ⊢
 have HNN := Lib.hid (And.intro hnn (And.intro hmm (And.intro hR hP)))
 have HS := Lib.hid hs
 have HB1 : Hid (Below s w (w.alloc (.cells #[.int .i64 (-1),.int .i64 gN,.slice gA n gc] 68))) := by show Below _ _ _;rw [← hs];exact (Below.refl _ _).alloc (Nat.le_refl _) _
 clear h hw hL hs hnn hmm hR hP
 rw [HS.out]
 cases R with
 | false =>
  go_enter Tryz.func30,Tryz.ntmps30
  go_wp2_with fail
  refine (HCK.out _ HB1.out).mono ?_
  rintro x w2 ⟨pg,pc,rfl,how,hb2⟩
  have HB2 : Hid (Below s w w2) := HB1.out.trans (hb2.mono (by have := HB1.out.size;have := HS.out;omega))
  clear how hb2
  go_wp2_with fail
  refine (HHO.out _ _ _ (HB2.out.alloc (by have := HB2.out.size;have := HS.out;omega) _)).mono ?_
  rintro x w3 ⟨rfl,hb3⟩
  have HB3 : Hid (Below s w w3) := (HB2.out.alloc (by have := HB2.out.size;have := HS.out;omega) _).trans (hb3.mono (by have := HB2.out.size;have := HS.out;simp;omega))
  clear hb3
  go_wp2_with fail
  refine bodyPost_ret (results_tmp_3 rfl _ _) rfl ?_
  exact ⟨.inr ⟨Int.not_le.1 (of_decide_eq_false HNN.out.2.2.1),rfl⟩,HB3.out⟩
 | true =>
  go_enter Tryz.func30,Tryz.ntmps30
  go_wp2_with fail
  refine (HCK.out _ HB1.out).mono ?_
  rintro x w2 ⟨pg,pc,rfl,how,hb2⟩
  have hB2 : Below s w w2 := HB1.out.trans (hb2.mono (by have := HB1.out.size;have := HS.out;omega))
  have hge := own_ge how h0
  obtain ⟨z,hz⟩ : ∃ x,w2.heap.size = x := ⟨_,rfl⟩
  have hsz : s ≤ z := by have := hB2.size;have := HS.out;omega
  obtain ⟨w3,hw3⟩ : ∃ x,w2.alloc (.cells #[.int .i64 (-1),.int .i64 gN,.slice gA n gc,.slice (some ⟨pg,0,none⟩) n pc] 107) = x := ⟨_,rfl⟩
  have hB3 : Below s w w3 := by rw [← hw3];exact hB2.alloc (by omega) _
  have hr3 : Row w3 z 107 [.int .i64 (-1),.int .i64 gN,.slice gA n gc,.slice (some ⟨pg,0,none⟩) n pc] := by rw [← hw3];exact Row.fresh' _ _ _ hz
  have hrd3 : Rd w3 w3.heap.size 1 (some ⟨pg,0,none⟩) n (ivs P) := by rw [← hw3];exact ((Rd.of_own how).below ((Below.refl _ _).alloc (Nat.le_refl _) _)).more (by simp)
  have H3 := Lib.hid (And.intro hB3 (And.intro hr3 (And.intro hrd3 (And.intro hge.2.2 hsz))))
  have HW3 := Lib.hid hw3
  have HZ := Lib.hid hz
  clear how hb2 hB2 hge hsz hB3 hr3 hrd3 hw3 hz
  go_wp2_with fail
  rw [HW3.out,HZ.out]
  refine (HHO.out _ _ _ H3.out.1).mono ?_
  rintro x w4 ⟨rfl,hb4⟩
  have hB4 := H3.out.1.trans (hb4.mono (by have := H3.out.2.1.lt;have := H3.out.2.2.2.2;omega))
  have hr4 := H3.out.2.1.below hb4 H3.out.2.1.lt
  have hrd4 := (H3.out.2.2.1.below hb4).more hb4.size
  have H4 : Hid (Below s w w4 ∧ Row w4 z 107 [.int .i64 (-1),.int .i64 gN,.slice gA n gc,.slice (some ⟨pg,0,none⟩) n pc] ∧ Rd w4 w4.heap.size 1 (some ⟨pg,0,none⟩) n (ivs P)) := ⟨hB4,hr4,hrd4⟩
  clear hb4 hB4 hr4 hrd4
  go_wp2_with fail
  rename_i Kz hKz
  refine wp_region_tree (fun w' => Below w4.heap.size w4 w') (.take 0 (.take 1 (.take 2 (.take 3 (.take 4 (.two 5 (.two 6 (.one 7 (.one 8 .done)) 7 (.one 6 (.one 8 .done))) 7 (.one 5 (.one 6 (.one 8 .done))))))))) (by kernel_rfl) (by kernel_rfl) (by kernel_rfl) (by kernel_rfl) (fun x _ _ _ _ h => by cases x <;> exact h) ((Below.refl _ _).drew) ?_
  have HBd : Hid (Below s w w4.drew ∧ Below w4.heap.size w4 w4.drew) := ⟨H4.out.1.drew,(Below.refl _ _).drew⟩
  generalize w4.drew = wd at HBd ⊢
  iterate 5 (refine wpOT_take rfl _ (by rfl) (by intro w' hS;have q3 := (H4.out.2.1.below hS H4.out.2.1.lt).cell (i := 3) rfl;go_simp;try with_reducible rfl) fun KK hKK => ?_;go_simp;refine hKK _ ?_;clear hKK KK)
  refine wpOT_two rfl (by rfl) rfl (by rfl) (fun KK hKK => ?_) (fun KK hKK => ?_)
  ·go_simp
   refine (HWO.out wd pg pc HBd.out.1 ((H4.out.2.2.below HBd.out.2).more HBd.out.2.size) H3.out.2.2.2.1.1 H3.out.2.2.2.1.2).mono ?_
   rintro x5 wa ⟨q,rfl,hqd,hqo,hb5⟩
   rw [RI.cell_eq]
   have HQ := Lib.hid (And.intro hqd hqo)
   have hn : Below s w wa ∧ Below w4.heap.size w4 wa := ⟨HBd.out.1.trans (hb5.mono (by have := HBd.out.1.size;have := HS.out;omega)),HBd.out.2.trans (hb5.mono HBd.out.2.size)⟩
   have HBa := Lib.hid hn
   refine hKK _ _ hn.2 ?_
   clear hKK KK hn
   clear hqd hqo hb5
   refine wpOT_two rfl (by rfl) rfl (by rfl) (fun KK hKK => ?_) (fun KK hKK => ?_)
   ·have hrdn := (H4.out.2.2.below HBa.out.2).more HBa.out.2.size
    rw [← HNN.out.1] at hrdn
    have hqn : q.d.length ≤ 64 := by rw [HQ.out.1];exact Nat.le_trans (wout_sub P L).length_le (by rw [HNN.out.1];omega)
    have hwo := without_any ⟨some ⟨pg,0,none⟩,pc,P⟩ q.A q.d.length q.c q.d wa ⟨hrdn,by show P.length ≤ pc;rw [HNN.out.1];exact H3.out.2.2.2.1.1,H3.out.2.2.2.1.2⟩ (by show 0 < P.length;rw [HNN.out.1];exact h0) (by show P.length ≤ 4096;rw [HNN.out.1];omega) HQ.out.2.1 (by omega)
    change Calls Tryz.prog 52 #[.slice (some ⟨pg,0,none⟩) P.length pc,.slice q.A q.d.length q.c] wa (fun x w' => ∃ q2 : RI,x = .returned q2.cell ∧ q2.d = wout P q.d ∧ q2.ok w' w'.heap.size ∧ Below wa.heap.size wa w') at hwo
    rw [HNN.out.1] at hwo
    go_simp
    refine hwo.mono ?_
    rintro x6 wb ⟨⟨oA,oc,od⟩,rfl,hq2d,hq2o,hb6⟩
    have hq2d : od = wout P q.d := hq2d
    rw [HQ.out.1] at hq2d
    subst hq2d
    rw [RI.cell_eq]
    have HQ2 := Lib.hid hq2o
    have hn : Below s w wb ∧ Below w4.heap.size w4 wb := ⟨HBa.out.1.trans (hb6.mono (by have := HBa.out.1.size;have := HS.out;omega)),HBa.out.2.trans (hb6.mono HBa.out.2.size)⟩
    have HBb := Lib.hid hn
    refine hKK _ _ hn.2 ?_
    clear hKK KK hn
    clear hwo hrdn hqn hq2o hb6
    refine wpOT_one rfl (by rfl) fun KK hKK => ?_
    go_simp
    obtain ⟨bx,hbx⟩ : ∃ x,wb.heap.size = x := ⟨_,rfl⟩
    have hx : Row (wb.alloc (.cells #[.slice none 0 0] 23)) bx 23 [.slice none 0 0] := by rw [← hbx];exact Row.fresh _ _ _
    have hb7 : Below wb.heap.size wb (wb.alloc (.cells #[.slice none 0 0] 23)) := (Below.refl _ _).alloc (Nat.le_refl _) _
    have hq72 := (HQ2.out.below hb7).more hb7.size
    have hn : Below s w (wb.alloc (.cells #[.slice none 0 0] 23)) ∧ Below w4.heap.size w4 (wb.alloc (.cells #[.slice none 0 0] 23)) := ⟨HBb.out.1.trans (hb7.mono (by have := HBb.out.1.size;have := HS.out;omega)),HBb.out.2.trans (hb7.mono HBb.out.2.size)⟩
    refine hKK _ _ hn.2 ?_
    clear hKK KK hb7
    rw [hbx]
    have HG : Hid (w4.heap.size ≤ bx) := by have := HBb.out.2.size;show _ ≤ _;omega
    clear hbx
    generalize (wb.alloc (.cells #[.slice none 0 0] 23)) = wc at hx hn hq72 ⊢
    have HX := Lib.hid hx
    have HBc := Lib.hid hn
    clear hx hn
    clear HQ2
    have HQ2 := Lib.hid hq72
    clear hq72
    refine wpOT_one rfl (by rfl) fun KK hKK => ?_
    have q0 := HX.out.cell (i := 0) rfl
    have qf := HX.out.fz 0
    go_simp
    have h1N : 1 ≤ gN := (HGK.out _ HBc.out.1).n0
    have hle : gN ≤ ((cntW L P : Nat) : Int) := of_decide_eq_true HNN.out.2.2.1
    have hP := HNN.out.2.2.2
    have h0w : 0 < (wout P (wout P L)).length := by have := ownL_cnt (L := L) hP;unfold ownL at this;omega
    have hbs := Below.heap_setCell wc (⟨bx,0,none⟩ : Addr) (.slice oA (wout P (wout P L)).length oc)
    have hn : Below s w (wc.setCell ⟨bx,0,none⟩ (.slice oA (wout P (wout P L)).length oc)) ∧ Below w4.heap.size w4 (wc.setCell ⟨bx,0,none⟩ (.slice oA (wout P (wout P L)).length oc)) := ⟨HBc.out.1.setCell (by have := HG.out;have := H4.out.1.size;have := HS.out;show s ≤ bx;omega) _,HBc.out.2.setCell HG.out _⟩
    refine hKK _ _ hn.2 ?_
    clear hKK KK hbs q0 qf
    have hx := HX.out.put 0 (.slice oA (wout P (wout P L)).length oc)
    have hsw : wc.heap.size ≤ (wc.setCell ⟨bx,0,none⟩ (.slice oA (wout P (wout P L)).length oc)).heap.size := by simp [World.setCell]
    have hq := (RI.ok.put HQ2.out HX.out h0w (.slice oA (wout P (wout P L)).length oc)).more hsw
    clear hsw
    generalize (wc.setCell ⟨bx,0,none⟩ (.slice oA (wout P (wout P L)).length oc)) = we at hx hq hn ⊢
    refine wpOT_done ?_
    show Kz _ _
    refine hKz _ _ ?_
    go_simp
    have HX2 := Lib.hid hx
    have hq0 := hq.1
    have hr5 := H4.out.2.1.below hn.2 H4.out.2.1.lt
    have HRR := Lib.hid (And.intro hr5 (And.intro hq (And.intro hn.1 (And.intro hn.2 (And.intro h0w (And.intro h1N hle))))))
    obtain ⟨j,hj⟩ : ∃ j,(wout P (wout P L)).length = j := ⟨_,rfl⟩
    have HJ := Lib.hid hj
    have c0 : we.cell? ⟨bx,0,none⟩ = some (.slice oA (wout P (wout P L)).length oc) := hx.cell (i := 0) rfl
    rw [hj] at c0
    clear hx hq hn h0w hj hq0 hr5 h1N hle
    go_wp2_with (go_at_call 54;refine (subsets_any _ _ _ _).mono ?_;rintro e w6 ⟨rfl,hw6⟩)
    have hb6 : Below we.heap.size we w6 := by rw [← hw6];exact (Below.refl _ _).alloc (Nat.le_refl _) _
    have hB6 : Below s w w6 := HRR.out.2.2.1.trans (hb6.mono (by have := HRR.out.2.2.1.size;have := HS.out;omega))
    have hsb : Row w6 we.heap.size 23 [.slice oA (wout P (wout P L)).length oc] := by rw [← hw6,HJ.out];exact Row.fresh _ _ _
    have hr6 := HRR.out.1.below hb6 HRR.out.1.lt
    have hx6 := HX2.out.below hb6 HX2.out.lt
    have hq6 := (HRR.out.2.1.below hb6).more hb6.size
    have hl6 : (wout P (wout P L)).length ≤ 6 := Nat.le_trans (wout_sub P _).length_le (by rw [HNN.out.1];exact h6)
    have hPo : Ppl (wout P (wout P L)) := hP.sub (wout_sub _ _)
    have hr0 := HRR.out.2.2.2.2.1
    have HFD := Lib.hid (first_margin z bx (wout P (wout P L)) oA oc we.heap.size (fun e => !decide (gN ≤ ((cntW (wout (wout P (wout P L)) e) P : Nat) : Int))) w6 hl6 hsb hq6.1 (fun W e A k c hW he hk hrd _ _ =>
     margin1_any ⟨gN,gA,gc,P⟩ (some ⟨pg,0,none⟩) n pc z bx ⟨oA,oc,wout P (wout P L)⟩ A k c e W (HGK.out W (hB6.trans (hW.mono (by have := hB6.size;have := HS.out;omega)))) (by have := hr6.below hW hr6.lt;change Row W z _ [_,_,.slice gA P.length gc,_];rwa [HNN.out.1]) (hx6.below hW hx6.lt) ((hq6.below hW).more hW.size) hPo hr0 hk hrd (by
      have h1 := (subs_sub he).length_le
      omega)))
    have HB6 := Lib.hid hB6
    rw [← HJ.out] at *
    refine HFD.out.mono ?_
    rintro x w7 ⟨hfa,hb7⟩
    have hB7 : Below s w w7 := HB6.out.trans (hb7.mono (by have := HB6.out.size;have := HS.out;omega))
    have h1N := HRR.out.2.2.2.2.2.1
    have hle := HRR.out.2.2.2.2.2.2
    have hcs : cntW (wout P (wout P L)) P = cntW L P := by
     have h1 := cntW_sub (wout_sub P (wout P L)) hP
     rw [h1]
     exact ownL_cnt (L := L) hP
    rcases hfa with ⟨e,A,k,hfi,rfl,hrd,hk1,hk2⟩ | ⟨hfn,rfl⟩
    ·have hcd := List.find?_some hfi
     have he1 : 1 ≤ e.length := by
      rcases e with _ | ⟨a,e⟩
      ·exfalso
       have hwn := wout_nil (wout P (wout P L))
       rw [hwn,hcs] at hcd
       simp [hle] at hcd
      ·simp
     have HE := Lib.hid (And.intro he1 (And.intro hrd (And.intro hle hB7)))
     clear hfi hrd hk1 hk2 hcd he1 hle hB7 hb7 HFD hsb hr6 hx6 hq6 hb6 hB6 hw6 hcs hPo hr0 h1N
     go_wp2_with fail
     refine bodyPost_ret (results_tmp_3 rfl _ _) rfl ?_
     exact ⟨.inl ⟨HE.out.2.2.1,e,HE.out.1,A,⟨k,rfl⟩,HE.out.2.1⟩,HE.out.2.2.2⟩
    ·exfalso
     have h1 := List.find?_eq_none.1 hfn _ (subs_take hl6 (Nat.le_refl _))
     rw [List.take_length] at h1
     have hwn := wout_self (wout P (wout P L))
     rw [hwn] at h1
     have hc0 : cntW [] P = 0 := by unfold cntW;simp
     rw [hc0] at h1
     simp at h1
     omega
   ·go_simp
    obtain ⟨bx,hbx⟩ : ∃ x,wa.heap.size = x := ⟨_,rfl⟩
    have hx : Row (wa.alloc (.cells #[.slice none 0 0] 23)) bx 23 [.slice none 0 0] := by rw [← hbx];exact Row.fresh _ _ _
    have hb7 : Below wa.heap.size wa (wa.alloc (.cells #[.slice none 0 0] 23)) := (Below.refl _ _).alloc (Nat.le_refl _) _
    have hq7 := And.intro HQ.out.1 ((HQ.out.2.below hb7).more hb7.size)
    have hn : Below s w (wa.alloc (.cells #[.slice none 0 0] 23)) ∧ Below w4.heap.size w4 (wa.alloc (.cells #[.slice none 0 0] 23)) := ⟨HBa.out.1.trans (hb7.mono (by have := HBa.out.1.size;have := HS.out;omega)),HBa.out.2.trans (hb7.mono HBa.out.2.size)⟩
    refine hKK _ _ hn.2 ?_
    clear hKK KK hb7
    rw [hbx]
    have HG : Hid (w4.heap.size ≤ bx) := by have := HBa.out.2.size;show _ ≤ _;omega
    clear hbx
    generalize (wa.alloc (.cells #[.slice none 0 0] 23)) = wb at hx hn hq7 ⊢
    have HX := Lib.hid hx
    have HBb := Lib.hid hn
    clear hx hn
    clear HQ
    have HQ := Lib.hid hq7
    clear hq7
    refine wpOT_one rfl (by rfl) fun KK hKK => ?_
    have hrdn := (H4.out.2.2.below HBb.out.2).more HBb.out.2.size
    rw [← HNN.out.1] at hrdn
    have hqn : q.d.length ≤ 64 := by rw [HQ.out.1];exact Nat.le_trans (wout_sub P L).length_le (by rw [HNN.out.1];omega)
    have hwo := without_any ⟨some ⟨pg,0,none⟩,pc,P⟩ q.A q.d.length q.c q.d wb ⟨hrdn,by show P.length ≤ pc;rw [HNN.out.1];exact H3.out.2.2.2.1.1,H3.out.2.2.2.1.2⟩ (by show 0 < P.length;rw [HNN.out.1];exact h0) (by show P.length ≤ 4096;rw [HNN.out.1];omega) HQ.out.2.1 (by omega)
    change Calls Tryz.prog 52 #[.slice (some ⟨pg,0,none⟩) P.length pc,.slice q.A q.d.length q.c] wb (fun x w' => ∃ q2 : RI,x = .returned q2.cell ∧ q2.d = wout P q.d ∧ q2.ok w' w'.heap.size ∧ Below wb.heap.size wb w') at hwo
    rw [HNN.out.1] at hwo
    go_simp
    refine hwo.mono ?_
    rintro x6 wc ⟨⟨oA,oc,od⟩,rfl,hq2d,hq2o,hb6⟩
    have hq2d : od = wout P q.d := hq2d
    rw [HQ.out.1] at hq2d
    subst hq2d
    rw [RI.cell_eq]
    have HQ2 := Lib.hid hq2o
    have HX2 : Hid (Row wc bx 23 [.slice none 0 0]) := HX.out.below hb6 HX.out.lt
    clear HX
    have HX := HX2
    clear HX2
    have hn : Below s w wc ∧ Below w4.heap.size w4 wc := ⟨HBb.out.1.trans (hb6.mono (by have := HBb.out.1.size;have := HS.out;omega)),HBb.out.2.trans (hb6.mono HBb.out.2.size)⟩
    have HBc := Lib.hid hn
    refine hKK _ _ hn.2 ?_
    clear hKK KK hn
    clear hwo hrdn hqn hq2o hb6
    refine wpOT_one rfl (by rfl) fun KK hKK => ?_
    have q0 := HX.out.cell (i := 0) rfl
    have qf := HX.out.fz 0
    go_simp
    have h1N : 1 ≤ gN := (HGK.out _ HBc.out.1).n0
    have hle : gN ≤ ((cntW L P : Nat) : Int) := of_decide_eq_true HNN.out.2.2.1
    have hP := HNN.out.2.2.2
    have h0w : 0 < (wout P (wout P L)).length := by have := ownL_cnt (L := L) hP;unfold ownL at this;omega
    have hbs := Below.heap_setCell wc (⟨bx,0,none⟩ : Addr) (.slice oA (wout P (wout P L)).length oc)
    have hn : Below s w (wc.setCell ⟨bx,0,none⟩ (.slice oA (wout P (wout P L)).length oc)) ∧ Below w4.heap.size w4 (wc.setCell ⟨bx,0,none⟩ (.slice oA (wout P (wout P L)).length oc)) := ⟨HBc.out.1.setCell (by have := HG.out;have := H4.out.1.size;have := HS.out;show s ≤ bx;omega) _,HBc.out.2.setCell HG.out _⟩
    refine hKK _ _ hn.2 ?_
    clear hKK KK hbs q0 qf
    have hx := HX.out.put 0 (.slice oA (wout P (wout P L)).length oc)
    have hsw : wc.heap.size ≤ (wc.setCell ⟨bx,0,none⟩ (.slice oA (wout P (wout P L)).length oc)).heap.size := by simp [World.setCell]
    have hq := (RI.ok.put HQ2.out HX.out h0w (.slice oA (wout P (wout P L)).length oc)).more hsw
    clear hsw
    generalize (wc.setCell ⟨bx,0,none⟩ (.slice oA (wout P (wout P L)).length oc)) = we at hx hq hn ⊢
    refine wpOT_done ?_
    show Kz _ _
    refine hKz _ _ ?_
    go_simp
    have HX2 := Lib.hid hx
    have hq0 := hq.1
    have hr5 := H4.out.2.1.below hn.2 H4.out.2.1.lt
    have HRR := Lib.hid (And.intro hr5 (And.intro hq (And.intro hn.1 (And.intro hn.2 (And.intro h0w (And.intro h1N hle))))))
    obtain ⟨j,hj⟩ : ∃ j,(wout P (wout P L)).length = j := ⟨_,rfl⟩
    have HJ := Lib.hid hj
    have c0 : we.cell? ⟨bx,0,none⟩ = some (.slice oA (wout P (wout P L)).length oc) := hx.cell (i := 0) rfl
    rw [hj] at c0
    clear hx hq hn h0w hj hq0 hr5 h1N hle
    go_wp2_with (go_at_call 54;refine (subsets_any _ _ _ _).mono ?_;rintro e w6 ⟨rfl,hw6⟩)
    have hb6 : Below we.heap.size we w6 := by rw [← hw6];exact (Below.refl _ _).alloc (Nat.le_refl _) _
    have hB6 : Below s w w6 := HRR.out.2.2.1.trans (hb6.mono (by have := HRR.out.2.2.1.size;have := HS.out;omega))
    have hsb : Row w6 we.heap.size 23 [.slice oA (wout P (wout P L)).length oc] := by rw [← hw6,HJ.out];exact Row.fresh _ _ _
    have hr6 := HRR.out.1.below hb6 HRR.out.1.lt
    have hx6 := HX2.out.below hb6 HX2.out.lt
    have hq6 := (HRR.out.2.1.below hb6).more hb6.size
    have hl6 : (wout P (wout P L)).length ≤ 6 := Nat.le_trans (wout_sub P _).length_le (by rw [HNN.out.1];exact h6)
    have hPo : Ppl (wout P (wout P L)) := hP.sub (wout_sub _ _)
    have hr0 := HRR.out.2.2.2.2.1
    have HFD := Lib.hid (first_margin z bx (wout P (wout P L)) oA oc we.heap.size (fun e => !decide (gN ≤ ((cntW (wout (wout P (wout P L)) e) P : Nat) : Int))) w6 hl6 hsb hq6.1 (fun W e A k c hW he hk hrd _ _ =>
     margin1_any ⟨gN,gA,gc,P⟩ (some ⟨pg,0,none⟩) n pc z bx ⟨oA,oc,wout P (wout P L)⟩ A k c e W (HGK.out W (hB6.trans (hW.mono (by have := hB6.size;have := HS.out;omega)))) (by have := hr6.below hW hr6.lt;change Row W z _ [_,_,.slice gA P.length gc,_];rwa [HNN.out.1]) (hx6.below hW hx6.lt) ((hq6.below hW).more hW.size) hPo hr0 hk hrd (by
      have h1 := (subs_sub he).length_le
      omega)))
    have HB6 := Lib.hid hB6
    rw [← HJ.out] at *
    refine HFD.out.mono ?_
    rintro x w7 ⟨hfa,hb7⟩
    have hB7 : Below s w w7 := HB6.out.trans (hb7.mono (by have := HB6.out.size;have := HS.out;omega))
    have h1N := HRR.out.2.2.2.2.2.1
    have hle := HRR.out.2.2.2.2.2.2
    have hcs : cntW (wout P (wout P L)) P = cntW L P := by
     have h1 := cntW_sub (wout_sub P (wout P L)) hP
     rw [h1]
     exact ownL_cnt (L := L) hP
    rcases hfa with ⟨e,A,k,hfi,rfl,hrd,hk1,hk2⟩ | ⟨hfn,rfl⟩
    ·have hcd := List.find?_some hfi
     have he1 : 1 ≤ e.length := by
      rcases e with _ | ⟨a,e⟩
      ·exfalso
       have hwn := wout_nil (wout P (wout P L))
       rw [hwn,hcs] at hcd
       simp [hle] at hcd
      ·simp
     have HE := Lib.hid (And.intro he1 (And.intro hrd (And.intro hle hB7)))
     clear hfi hrd hk1 hk2 hcd he1 hle hB7 hb7 HFD hsb hr6 hx6 hq6 hb6 hB6 hw6 hcs hPo hr0 h1N
     go_wp2_with fail
     refine bodyPost_ret (results_tmp_3 rfl _ _) rfl ?_
     exact ⟨.inl ⟨HE.out.2.2.1,e,HE.out.1,A,⟨k,rfl⟩,HE.out.2.1⟩,HE.out.2.2.2⟩
    ·exfalso
     have h1 := List.find?_eq_none.1 hfn _ (subs_take hl6 (Nat.le_refl _))
     rw [List.take_length] at h1
     have hwn := wout_self (wout P (wout P L))
     rw [hwn] at h1
     have hc0 : cntW [] P = 0 := by unfold cntW;simp
     rw [hc0] at h1
     simp at h1
     omega
  ·go_simp
   obtain ⟨bx,hbx⟩ : ∃ x,wd.heap.size = x := ⟨_,rfl⟩
   have hx : Row (wd.alloc (.cells #[.slice none 0 0] 23)) bx 23 [.slice none 0 0] := by rw [← hbx];exact Row.fresh _ _ _
   have hb7 : Below wd.heap.size wd (wd.alloc (.cells #[.slice none 0 0] 23)) := (Below.refl _ _).alloc (Nat.le_refl _) _
   have hn : Below s w (wd.alloc (.cells #[.slice none 0 0] 23)) ∧ Below w4.heap.size w4 (wd.alloc (.cells #[.slice none 0 0] 23)) := ⟨HBd.out.1.trans (hb7.mono (by have := HBd.out.1.size;have := HS.out;omega)),HBd.out.2.trans (hb7.mono HBd.out.2.size)⟩
   refine hKK _ _ hn.2 ?_
   clear hKK KK hb7
   rw [hbx]
   have HG : Hid (w4.heap.size ≤ bx) := by have := HBd.out.2.size;show _ ≤ _;omega
   clear hbx
   generalize (wd.alloc (.cells #[.slice none 0 0] 23)) = wa at hx hn ⊢
   have HX := Lib.hid hx
   have HBa := Lib.hid hn
   clear hx hn
   refine wpOT_one rfl (by rfl) fun KK hKK => ?_
   go_simp
   refine (HWO.out wa pg pc HBa.out.1 ((H4.out.2.2.below HBa.out.2).more HBa.out.2.size) H3.out.2.2.2.1.1 H3.out.2.2.2.1.2).mono ?_
   rintro x5 wb ⟨q,rfl,hqd,hqo,hb5⟩
   rw [RI.cell_eq]
   have HQ := Lib.hid (And.intro hqd hqo)
   have HX2 : Hid (Row wb bx 23 [.slice none 0 0]) := HX.out.below hb5 HX.out.lt
   clear HX
   have HX := HX2
   clear HX2
   have hn : Below s w wb ∧ Below w4.heap.size w4 wb := ⟨HBa.out.1.trans (hb5.mono (by have := HBa.out.1.size;have := HS.out;omega)),HBa.out.2.trans (hb5.mono HBa.out.2.size)⟩
   have HBb := Lib.hid hn
   refine hKK _ _ hn.2 ?_
   clear hKK KK hn
   clear hqd hqo hb5
   refine wpOT_one rfl (by rfl) fun KK hKK => ?_
   have hrdn := (H4.out.2.2.below HBb.out.2).more HBb.out.2.size
   rw [← HNN.out.1] at hrdn
   have hqn : q.d.length ≤ 64 := by rw [HQ.out.1];exact Nat.le_trans (wout_sub P L).length_le (by rw [HNN.out.1];omega)
   have hwo := without_any ⟨some ⟨pg,0,none⟩,pc,P⟩ q.A q.d.length q.c q.d wb ⟨hrdn,by show P.length ≤ pc;rw [HNN.out.1];exact H3.out.2.2.2.1.1,H3.out.2.2.2.1.2⟩ (by show 0 < P.length;rw [HNN.out.1];exact h0) (by show P.length ≤ 4096;rw [HNN.out.1];omega) HQ.out.2.1 (by omega)
   change Calls Tryz.prog 52 #[.slice (some ⟨pg,0,none⟩) P.length pc,.slice q.A q.d.length q.c] wb (fun x w' => ∃ q2 : RI,x = .returned q2.cell ∧ q2.d = wout P q.d ∧ q2.ok w' w'.heap.size ∧ Below wb.heap.size wb w') at hwo
   rw [HNN.out.1] at hwo
   go_simp
   refine hwo.mono ?_
   rintro x6 wc ⟨⟨oA,oc,od⟩,rfl,hq2d,hq2o,hb6⟩
   have hq2d : od = wout P q.d := hq2d
   rw [HQ.out.1] at hq2d
   subst hq2d
   rw [RI.cell_eq]
   have HQ2 := Lib.hid hq2o
   have HX2 : Hid (Row wc bx 23 [.slice none 0 0]) := HX.out.below hb6 HX.out.lt
   clear HX
   have HX := HX2
   clear HX2
   have hn : Below s w wc ∧ Below w4.heap.size w4 wc := ⟨HBb.out.1.trans (hb6.mono (by have := HBb.out.1.size;have := HS.out;omega)),HBb.out.2.trans (hb6.mono HBb.out.2.size)⟩
   have HBc := Lib.hid hn
   refine hKK _ _ hn.2 ?_
   clear hKK KK hn
   clear hwo hrdn hqn hq2o hb6
   refine wpOT_one rfl (by rfl) fun KK hKK => ?_
   have q0 := HX.out.cell (i := 0) rfl
   have qf := HX.out.fz 0
   go_simp
   have h1N : 1 ≤ gN := (HGK.out _ HBc.out.1).n0
   have hle : gN ≤ ((cntW L P : Nat) : Int) := of_decide_eq_true HNN.out.2.2.1
   have hP := HNN.out.2.2.2
   have h0w : 0 < (wout P (wout P L)).length := by have := ownL_cnt (L := L) hP;unfold ownL at this;omega
   have hbs := Below.heap_setCell wc (⟨bx,0,none⟩ : Addr) (.slice oA (wout P (wout P L)).length oc)
   have hn : Below s w (wc.setCell ⟨bx,0,none⟩ (.slice oA (wout P (wout P L)).length oc)) ∧ Below w4.heap.size w4 (wc.setCell ⟨bx,0,none⟩ (.slice oA (wout P (wout P L)).length oc)) := ⟨HBc.out.1.setCell (by have := HG.out;have := H4.out.1.size;have := HS.out;show s ≤ bx;omega) _,HBc.out.2.setCell HG.out _⟩
   refine hKK _ _ hn.2 ?_
   clear hKK KK hbs q0 qf
   have hx := HX.out.put 0 (.slice oA (wout P (wout P L)).length oc)
   have hsw : wc.heap.size ≤ (wc.setCell ⟨bx,0,none⟩ (.slice oA (wout P (wout P L)).length oc)).heap.size := by simp [World.setCell]
   have hq := (RI.ok.put HQ2.out HX.out h0w (.slice oA (wout P (wout P L)).length oc)).more hsw
   clear hsw
   generalize (wc.setCell ⟨bx,0,none⟩ (.slice oA (wout P (wout P L)).length oc)) = we at hx hq hn ⊢
   refine wpOT_done ?_
   show Kz _ _
   refine hKz _ _ ?_
   go_simp
   have HX2 := Lib.hid hx
   have hq0 := hq.1
   have hr5 := H4.out.2.1.below hn.2 H4.out.2.1.lt
   have HRR := Lib.hid (And.intro hr5 (And.intro hq (And.intro hn.1 (And.intro hn.2 (And.intro h0w (And.intro h1N hle))))))
   obtain ⟨j,hj⟩ : ∃ j,(wout P (wout P L)).length = j := ⟨_,rfl⟩
   have HJ := Lib.hid hj
   have c0 : we.cell? ⟨bx,0,none⟩ = some (.slice oA (wout P (wout P L)).length oc) := hx.cell (i := 0) rfl
   rw [hj] at c0
   clear hx hq hn h0w hj hq0 hr5 h1N hle
   go_wp2_with (go_at_call 54;refine (subsets_any _ _ _ _).mono ?_;rintro e w6 ⟨rfl,hw6⟩)
   have hb6 : Below we.heap.size we w6 := by rw [← hw6];exact (Below.refl _ _).alloc (Nat.le_refl _) _
   have hB6 : Below s w w6 := HRR.out.2.2.1.trans (hb6.mono (by have := HRR.out.2.2.1.size;have := HS.out;omega))
   have hsb : Row w6 we.heap.size 23 [.slice oA (wout P (wout P L)).length oc] := by rw [← hw6,HJ.out];exact Row.fresh _ _ _
   have hr6 := HRR.out.1.below hb6 HRR.out.1.lt
   have hx6 := HX2.out.below hb6 HX2.out.lt
   have hq6 := (HRR.out.2.1.below hb6).more hb6.size
   have hl6 : (wout P (wout P L)).length ≤ 6 := Nat.le_trans (wout_sub P _).length_le (by rw [HNN.out.1];exact h6)
   have hPo : Ppl (wout P (wout P L)) := hP.sub (wout_sub _ _)
   have hr0 := HRR.out.2.2.2.2.1
   have HFD := Lib.hid (first_margin z bx (wout P (wout P L)) oA oc we.heap.size (fun e => !decide (gN ≤ ((cntW (wout (wout P (wout P L)) e) P : Nat) : Int))) w6 hl6 hsb hq6.1 (fun W e A k c hW he hk hrd _ _ =>
    margin1_any ⟨gN,gA,gc,P⟩ (some ⟨pg,0,none⟩) n pc z bx ⟨oA,oc,wout P (wout P L)⟩ A k c e W (HGK.out W (hB6.trans (hW.mono (by have := hB6.size;have := HS.out;omega)))) (by have := hr6.below hW hr6.lt;change Row W z _ [_,_,.slice gA P.length gc,_];rwa [HNN.out.1]) (hx6.below hW hx6.lt) ((hq6.below hW).more hW.size) hPo hr0 hk hrd (by
     have h1 := (subs_sub he).length_le
     omega)))
   have HB6 := Lib.hid hB6
   rw [← HJ.out] at *
   refine HFD.out.mono ?_
   rintro x w7 ⟨hfa,hb7⟩
   have hB7 : Below s w w7 := HB6.out.trans (hb7.mono (by have := HB6.out.size;have := HS.out;omega))
   have h1N := HRR.out.2.2.2.2.2.1
   have hle := HRR.out.2.2.2.2.2.2
   have hcs : cntW (wout P (wout P L)) P = cntW L P := by
    have h1 := cntW_sub (wout_sub P (wout P L)) hP
    rw [h1]
    exact ownL_cnt (L := L) hP
   rcases hfa with ⟨e,A,k,hfi,rfl,hrd,hk1,hk2⟩ | ⟨hfn,rfl⟩
   ·have hcd := List.find?_some hfi
    have he1 : 1 ≤ e.length := by
     rcases e with _ | ⟨a,e⟩
     ·exfalso
      have hwn := wout_nil (wout P (wout P L))
      rw [hwn,hcs] at hcd
      simp [hle] at hcd
     ·simp
    have HE := Lib.hid (And.intro he1 (And.intro hrd (And.intro hle hB7)))
    clear hfi hrd hk1 hk2 hcd he1 hle hB7 hb7 HFD hsb hr6 hx6 hq6 hb6 hB6 hw6 hcs hPo hr0 h1N
    go_wp2_with fail
    refine bodyPost_ret (results_tmp_3 rfl _ _) rfl ?_
    exact ⟨.inl ⟨HE.out.2.2.1,e,HE.out.1,A,⟨k,rfl⟩,HE.out.2.1⟩,HE.out.2.2.2⟩
   ·exfalso
    have h1 := List.find?_eq_none.1 hfn _ (subs_take hl6 (Nat.le_refl _))
    rw [List.take_length] at h1
    have hwn := wout_self (wout P (wout P L))
    rw [hwn] at h1
    have hc0 : cntW [] P = 0 := by unfold cntW;simp
    rw [hc0] at h1
    simp at h1
    omega
end Go.Proofs.YtjcpjhlclpdpjaaGreat
namespace Go.Proofs.YtjcpjhlclpdpjaaGreat
open Go.RowKit
attribute [local go_sem] Oper.semAt_some
theorem results_cell_rowU {P : Program} {fn : Func} {p : Tmp} {ty : TypeId} (h : fn.results = #[.cell p ty]) (tmps : Array Value) (w : World) (g : Nat) (t : TypeId) (cs : Array Value) (fr : Nat × Nat) (d : TypeDesc)
  (hp : tmps.getD p undef = .pointer (some ⟨g,0,none⟩)) (hg : w.heap[g]? = some (.cells cs t fr))
  (hu : P.underlying ty = some d) (hd : (match d with | .struct _ | .array _ _ => true | _ => false) = true) (hi : (P.info? ty).map (·.size) = some cs.size) :
  (results fn tmps).run P w = .ok (.agg cs) w := by
 have hp' : tmps[p]?.getD undef = .pointer (some ⟨g,0,none⟩) := by simpa using hp
 simp [results,h,hp',asAddr,run_loadVar_row w g t ty cs fr d hg hu hd hi]
theorem flat_leaf_len (P : List Int) : (P.flatMap leafC).length = P.length * 3 := by
 induction P with
 | nil => rfl
 | cons a P ih => rw [List.flatMap_cons,List.length_append,ih,List.length_cons];show 3 + P.length * 3 = _;omega
theorem flat_leaf_take {P : List Int} {k : Nat} {p : Int} (h : P[k]? = some p) : (P.take (k + 1)).flatMap leafC = (P.take k).flatMap leafC ++ leafC p := by
 rw [List.take_add_one,h,List.flatMap_append]
 simp
theorem rd_leaf (W : World) (p : Int) : Rd (W.alloc (.cells #[.int .i64 p,.int .i64 0,.slice none 0 0] 68)) (W.heap.size + 1) 3 (some ⟨W.heap.size,0,none⟩) 1 (leafC p) :=
 ⟨rfl,fun _ => ⟨_,_,rfl,Nat.lt_succ_self _,fun j u hu => by rw [Nat.zero_add];exact (Row.fresh W 68 [.int .i64 p,.int .i64 0,.slice none 0 0]).cell hu⟩⟩
theorem gate_any (e : Est) (r : RI) (N : Int) (w : World) (h : e.ok w w.heap.size) (hr : r.ok w w.heap.size) (hl : r.d.length ≤ 6) (hN : e.n.d[r.d.length]? = some N) (h1 : 1 ≤ N) (h2 : N ≤ 64) (hp : ∀ p ∈ r.d,0 ≤ p ∧ p < 64) :
  Calls Tryz.prog 24 #[.agg e.cells.toArray,r.cell] w fun x w' => ∃ g : Gt,g.N = N ∧ g.P = r.d ∧ x = .returned g.val ∧ g.ok w' w'.heap.size ∧ (r.d = [] → g.A = none ∧ g.c = 0) ∧ Below w.heap.size w w' := by
 have hX := boxed1 e w
 obtain ⟨s,hs⟩ : ∃ s,w.heap.size = s := ⟨_,rfl⟩
 obtain ⟨CS,hCS⟩ : ∃ CS,e.cells = CS := ⟨_,rfl⟩
 obtain ⟨rA,rc,P⟩ := r
 obtain ⟨n,hn⟩ : ∃ n,P.length = n := ⟨_,rfl⟩
 have hP : (⟨rA,rc,P⟩ : RI).d = P := rfl
 rw [hP] at hl hN hp
 change Calls _ _ #[_,.slice rA P.length rc] _ _
 show Calls _ _ _ _ fun x w' => ∃ g : Gt,g.N = N ∧ g.P = P ∧ x = .returned g.val ∧ g.ok w' w'.heap.size ∧ (P = [] → g.A = none ∧ g.c = 0) ∧ Below w.heap.size w w'
 rw [hCS] at hX ⊢
 rw [hn] at hl hN ⊢
 have HI : Hid ((Tryz.prog.info? 26).map (·.size) = some CS.length) := by rw [← hCS];show _ = _;kernel_rfl
 have HCS := Lib.hid hCS
 have HNN := Lib.hid hn
 have HP := Lib.hid hp
 clear hn hp hP
 have hlt : n < e.n.d.length := (List.getElem?_eq_some_iff.1 hN).1
 obtain ⟨b,o,e1,hb,hc⟩ := h.n.1.2 (by omega)
 obtain ⟨ln,hln⟩ : ∃ x,e.n.d.length = x := ⟨_,rfl⟩
 have c2 := hX.row 2 e.n.cell rfl
 have cn : (w.alloc (.cells CS.toArray 26)).cell? ⟨b,o + n,none⟩ = some (.int .i64 N) := (World.cell?_alloc_lt w _ _ (by exact hb)).trans (hc n _ (by rw [List.getElem?_map,hN];rfl))
 unfold RI.cell at c2
 rw [e1,hln] at c2
 rw [hs] at c2 hb
 rw [hln] at hlt
 have HX := Lib.hid (And.intro hX (And.intro h hr))
 clear hX h hr hN hc e1 hln hCS
 have HSS := Lib.hid hs
 go_enter Tryz.func24,Tryz.ntmps24
 go_wp2_with fail
 clear hs
 generalize hw2 : (((w.alloc (.cells CS.toArray 26)).alloc (.cells #[.int .i64 0,.int .i64 0,.slice none 0 0] 68)).alloc (.cells #[.int .i64 (-1),.int .i64 N,.slice none 0 0] 68)) = w2
 have hr1 : Row w2 (s + 1) 68 [.int .i64 0,.int .i64 0,.slice none 0 0] := by rw [← hw2];exact (Row.fresh' _ _ _ (by simp [HSS.out])).alloc _
 have hr2 : Row w2 (s + 1 + 1) 68 [.int .i64 (-1),.int .i64 N,.slice none 0 0] := by rw [← hw2];exact Row.fresh' _ _ _ (by simp [HSS.out])
 have hb2 : Below s w w2 := by rw [← hw2,← HSS.out];exact ((HX.out.1.bel.alloc (by simp) _).alloc (by simp;omega) _)
 have hz2 : w2.heap.size = s + 3 := by rw [← hw2];simp [HSS.out]
 have HX2 := Lib.hid (And.intro hr1 (And.intro hr2 (And.intro hb2 hz2)))
 have HRI : Hid (∀ W,Below s w W → (⟨rA,rc,P⟩ : RI).ok W W.heap.size) := fun W hW => (HX.out.2.2.below (by rw [HSS.out];exact hW)).more (by have := hW.size;omega)
 clear hw2 hr1 hr2 hb2 hz2 c2 cn hb hlt
 go_loopw [17] (fun i wr => ∃ (k : Nat) (gA : Option Addr) (gc : Nat),k ≤ n ∧ i = .int .i64 k ∧ Row wr (s + 1) 68 [.int .i64 0,.int .i64 0,.slice none 0 0] ∧ Row wr (s + 1 + 1) 68 [.int .i64 (-1),.int .i64 N,.slice gA k gc] ∧ wr.ownsRow (s + 3) 68 3 (.slice gA k gc) k ((P.take k).flatMap leafC) ∧ (k = 0 → gA = none ∧ gc = 0) ∧ Below s w wr ∧ s + 3 ≤ wr.heap.size) (fun i _ => n - (intOf i).toNat)
 case atStart => exact ⟨0,none,0,Nat.zero_le _,rfl,HX2.out.1,HX2.out.2.1,World.ownsRow_nil _ _ _ _,fun _ => ⟨rfl,rfl⟩,HX2.out.2.2.1,Nat.le_of_eq HX2.out.2.2.2.symm⟩
 case round =>
  clear HX2
  obtain ⟨k,gA,gc,hk,rfl,hr1,hr2,how,h00,hbw,hzw⟩ := hrel
  by_cases hlt : k < n
  ·obtain ⟨b,o,hA,hb,hc⟩ := RI.at (HRI.out _ hbw) (by show 0 < P.length;rw [HNN.out];omega)
   change rA = _ at hA
   subst hA
   have qp := hc k (by show k < P.length;rw [HNN.out];exact hlt) wr (Below.refl _ _)
   obtain ⟨p,hp⟩ : ∃ p,P[k]? = some p := ⟨_,List.getElem?_eq_getElem (by rw [HNN.out];exact hlt)⟩
   change wr.cell? _ = some (.int .i64 (P.getD k 0)) at qp
   rw [List.getD_eq_getElem?_getD,hp] at qp
   change wr.cell? _ = some (.int .i64 p) at qp
   have q2 := hr2.cell (i := 2) rfl
   have f2 := hr2.fz 2
   have k1 : (k : Int) < (n : Int) := by omega
   have k0 : (0 : Int) ≤ (k : Int) := by omega
   have HH := Lib.hid (And.intro hr1 (And.intro hr2 (And.intro how (And.intro hbw (And.intro hzw hp)))))
   clear hr1 hr2 how h00 hbw hzw hc hp
   go_wp2_with (at_builtin;refine wpList_append_rd _ rfl (.tmp 22) (.tmp 25) 66 rfl (s + 3) 68 _ (.agg #[.int .i64 0,.int .i64 0,.slice none 0 0]) 3 40 Tryz.underlying66 rfl rfl rfl rfl rfl (by decide) (.slice gA k gc) k ((P.take k).flatMap leafC) (by rfl) (HH.out.2.2.1.alloc _) (wr.heap.size + 1) (some ⟨wr.heap.size,0,none⟩) 1 1 (leafC p) (by rfl) (rd_leaf wr p) (by intro u hu;simp [leafC] at hu;rcases hu with rfl | rfl | rfl <;> rfl) (by unfold maxLen;omega) (by omega) (by have := HH.out.2.2.2.2.1;simp;omega) ?_;intro v9 w9 hown9 hgrow9 _;have hr9 := (HH.out.2.1.alloc (.cells #[.int .i64 p,.int .i64 0,.slice none 0 0] 68)).grown hgrow9 (fun e => by have := (HH.out.2.2.1.lt _ e.symm).1;omega);have s9 := hr9.cell (i := 2) rfl;have f9 := hr9.fz 2;obtain ⟨g9,c9,hv9,_,_⟩ := hown9.form (by omega);subst hv9;have H9 := Lib.hid (And.intro hr9 (And.intro hown9 hgrow9));clear hr9 hown9 hgrow9)
   have hg := H9.out.2.2
   have hge := own_ge H9.out.2.1 (by omega)
   have hal : ∀ g,(Value.slice gA k gc).ownBlock = some g → s + 3 ≤ g := fun g hg => (HH.out.2.2.1.lt g hg).1
   have hr1 := (HH.out.1.alloc (.cells #[.int .i64 p,.int .i64 0,.slice none 0 0] 68)).grown hg (fun e => by have := hal _ e.symm;omega)
   have hbz := HH.out.2.2.2.2.1
   have hb9 := (HH.out.2.2.2.1.alloc (by omega) (.cells #[.int .i64 p,.int .i64 0,.slice none 0 0] 68)).grown hg (by simp;omega) (fun g e => by have := hal g e;omega)
   have hz9 := hg.size
   refine ⟨⟨k + 1,some ⟨g9,0,none⟩,c9,by omega,by simp,hr1.away (by simp) _,H9.out.1.put 2 _,?_,fun h => by omega,hb9.setCell (by show s ≤ s + 1 + 1;omega) _,by rw [World.size_setCell];rw [World.size_alloc] at hz9;omega⟩,?_⟩
   ·rw [flat_leaf_take HH.out.2.2.2.2.2]
    exact H9.out.2.1.kept (grown_setC w9 ⟨s + 1 + 1,2,none⟩ _) (.inr (fun e => by have e' : g9 = s + 1 + 1 := Option.some.inj e;omega))
   ·simp [intOf];omega
  ·have hkn : k = n := by omega
   subst hkn
   have q0 := hr2.cell (i := 0) rfl
   have q1 := hr2.cell (i := 1) rfl
   have q2 := hr2.cell (i := 2) rfl
   have z0 := hr1.cell (i := 0) rfl
   have z1 := hr1.cell (i := 1) rfl
   have z2 := hr1.cell (i := 2) rfl
   have f0 := hr1.fz 0
   have f1 := hr1.fz 1
   have f2 := hr1.fz 2
   have HH := Lib.hid (And.intro hr1 (And.intro how (And.intro h00 (And.intro hbw hzw))))
   have hlt : ¬ (k : Int) < (k : Int) := by omega
   clear hr1 hr2 how h00 hbw hzw
   go_wp2_with fail
   have hr9 := ((HH.out.1.put 0 (.int .i64 (-1))).put 1 (.int .i64 N)).put 2 (.slice gA k gc)
   have hkp : ∀ (W : World) (i : Nat) (v : Value),W.ownsRow (s + 3) 68 3 (.slice gA k gc) k ((P.take k).flatMap leafC) → (W.setCell ⟨s + 1,i,none⟩ v).ownsRow (s + 3) 68 3 (.slice gA k gc) k ((P.take k).flatMap leafC) := fun W i v ho => ho.kept (grown_setC W ⟨s + 1,i,none⟩ v) (by cases hq : (Value.slice gA k gc).ownBlock with | none => exact .inl rfl | some g => exact .inr (fun e => by have h9 := (ho.lt g hq).1;have e' : g = s + 1 := Option.some.inj e;omega))
   have ho9 := hkp _ 2 (.slice gA k gc) (hkp _ 1 (.int .i64 N) (hkp _ 0 (.int .i64 (-1)) HH.out.2.1))
   have hb9 := ((HH.out.2.2.2.1.setCell (p := ⟨s + 1,0,none⟩) (by show s ≤ s + 1;omega) (.int .i64 (-1))).setCell (p := ⟨s + 1,1,none⟩) (by show s ≤ s + 1;omega) (.int .i64 N)).setCell (p := ⟨s + 1,2,none⟩) (by show s ≤ s + 1;omega) (.slice gA k gc)
   have hcap : k ≤ gc ∧ gc ≤ maxLen := by
    rcases Nat.eq_zero_or_pos k with hk0 | hk0
    ·obtain ⟨_,rfl⟩ := HH.out.2.2.1 hk0
     exact ⟨by omega,by unfold maxLen;omega⟩
    ·obtain ⟨g9,c9,hv9,_,_⟩ := ho9.form hk0
     injection hv9 with e1 _ e2
     subst e1 e2
     exact (own_ge ho9 hk0).2.2
   generalize (((wr.setCell ⟨s + 1,0,none⟩ (.int .i64 (-1))).setCell ⟨s + 1,1,none⟩ (.int .i64 N)).setCell ⟨s + 1,2,none⟩ (.slice gA k gc)) = w9 at hr9 ho9 hb9 ⊢
   refine bodyPost_ret (results_cell_rowU (p := 4) rfl _ _ (s + 1) 68 _ (0,0) _ (by rfl) hr9 Tryz.underlying68 (by rfl) (by kernel_rfl)) rfl ?_
   have hfull : P.take k = P := List.take_of_length_le (by rw [HNN.out];exact Nat.le_refl _)
   rw [hfull] at ho9
   refine ⟨⟨N,gA,gc,P⟩,rfl,rfl,?_,⟨by show Rd _ _ _ gA P.length _;rw [HNN.out];exact Rd.of_own ho9,h1,h2,by show P.length ≤ 64;rw [HNN.out];omega,by show P.length ≤ gc;rw [HNN.out];exact hcap.1,hcap.2,HP.out⟩,?_,by rw [HSS.out];exact hb9⟩
   ·show _ = Ending.returned (.agg #[_,_,.slice gA P.length gc])
    rw [HNN.out]
    rfl
   ·intro hP0
    exact HH.out.2.2.1 (by rw [← HNN.out,hP0];rfl)
end Go.Proofs.YtjcpjhlclpdpjaaGreat
