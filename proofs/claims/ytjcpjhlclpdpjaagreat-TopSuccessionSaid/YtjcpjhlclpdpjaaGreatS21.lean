import Derived.Lib.AppendZeros
import Derived.Test.YtjcpjhlclpdpjaaGreatS20
set_option linter.unusedVariables false
set_option maxRecDepth 100000
set_option maxHeartbeats 16000000
namespace Go.Proofs.YtjcpjhlclpdpjaaGreat
open Go.RowKit
attribute [local go_sem] Oper.semAt_some
theorem wp_region_treeM {P : Program} {Q : Exit → Act → World → Prop} {id : Nat} {a : Act} {w : World} {l : List Oper} (S : World → Prop) (t : OT) (hm : P.follows .mixedOrders = true) (hsel : Region.noSelect l.toArray = true) (hd : decide (t.depth ≤ l.length) = true)
  (hB : otB .any l.toArray t (Array.replicate l.length false) = true) (hS : S w.drew) (h : wpOT P l.toArray (noPanic Q) S t a w.drew) : (Code.region id l.toArray true).wp P Q a w := by
 refine wp_mono (wp_region_tree (Q := noPanic Q) S t hm hsel hd hB (fun _ _ _ _ _ h => h) hS h) ?_
 intro e a w h
 cases e <;> first | exact h | exact h.elim
theorem own_slice {w : World} {b : Nat} {e : TypeId} {sz : Nat} {v : Value} {n : Nat} {xs : List Value} (h : w.ownsRow b e sz v n xs) : ∃ A c,v = .slice A n c := by
 rcases h.2 with ⟨rfl,rfl⟩ | ⟨g,cap,cur,rfl,_⟩
 ·exact ⟨_,_,rfl⟩
 ·exact ⟨_,_,rfl⟩
theorem sep_next (M : Nat → Nat → Int) (tg : Nat → Int) (ps : List Nat) (c k : Nat) {P : Int} (h : Fm.cg P (Gs.sep M tg ps c k)) : Fm.cg (Fm.ad P (Fm.ml (Fm.md (-(M k c))) (tg (ps.getD k 0)))) (Gs.sep M tg ps c (k + 1)) := by
 unfold Gs.sep at h ⊢
 show Fm.cg _ (tg c + (Gs.sm k _ + -(M k c * tg (ps.getD k 0))))
 rw [← Int.add_assoc]
 refine Fm.cg_trans (Fm.cg_ad _ _) (Fm.cg_add h (Fm.cg_trans (Fm.cg_ml _ _) ?_))
 rw [show -(M k c * tg (ps.getD k 0)) = -(M k c) * tg (ps.getD k 0) by grind]
 exact Fm.cg_mul (Fm.cg_md _) (Fm.cg_refl _)
theorem separate_any (N : Nat) (A : Option Addr) (c : Nat) (rs : List RI) (t : RI) (w : World) (h : RdM w w.heap.size A rs) (hf : ∀ r ∈ rs,FRow N r) (ht : t.ok w w.heap.size) (htf : FRow N t) (hN0 : 0 < N) (hN : N ≤ 60) (hn : rs.length ≤ 60) (he0 : ∀ j,j < N → t.d.getD j 0 = Gs.e0 j)
  (hk : ∃ z : Nat → Int,Gs.ker rs.length N (rowM rs) z ∧ ¬ Fm.cg (z 0) 0) :
  Calls Tryz.prog 50 #[.slice A rs.length c,t.cell] w fun x w' => ∃ v,x = .returned (.tuple #[v,.bool true,.int .i64 0]) ∧ Below w.heap.size w w' := by
 obtain ⟨s,hs⟩ : ∃ s,w.heap.size = s := ⟨_,rfl⟩
 have HEX : Hid (∀ W,Below s w W → Calls Tryz.prog 75 #[.slice A rs.length c,.slice t.A N t.c] W fun x w' => x = .returned (.tuple #[]) ∧ Below W.heap.size W w') := fun W hW => by
  have := examine_any N A c rs t W ((h.below (by rw [hs];exact hW)).more (by have := hW.size;omega)) hf ((ht.below (by rw [hs];exact hW)).more (by have := hW.size;omega)) htf (by omega) (by omega)
  rw [RI.cell_eq,htf.len] at this
  exact this
 have HCO : Hid (∀ W,Below s w W → Calls Tryz.prog 76 #[.slice A rs.length c] W fun x w' => ∃ gs,x = .returned (.slice (some ⟨W.heap.size,0,none⟩) rs.length rs.length) ∧ gs.length = rs.length ∧ Tab w' W.heap.size W.heap.size gs N (rowM rs) ∧ Below W.heap.size W w') := fun W hW =>
  copyOf_any N A c rs W ((h.below (by rw [hs];exact hW)).more (by have := hW.size;omega)) hf hN0 (by omega) (by omega)
 have HRNG : Hid (∀ i j,i < rs.length → j < N → 0 ≤ rowM rs i j ∧ rowM rs i j < 1073741789) := fun i j hi hj => by
  unfold rowM
  have hm := (getD_mem' (rs := rs) (k := i) hi).1
  have hl := (hf _ hm).len
  rw [List.getD_eq_getElem?_getD (l := (rs.getD i r0).d),List.getElem?_eq_getElem (by omega)]
  exact ⟨(hf _ hm).lo _ (List.getElem_mem _),(hf _ hm).hi _ (List.getElem_mem _)⟩
 obtain ⟨tb0,to0,hA1,_,htg⟩ := RI.at ht (by rw [htf.len];exact hN0)
 have HTG0 : Hid (∀ j,j < N → ∀ W,Below s w W → W.cell? ⟨tb0,to0 + j,none⟩ = some (.int .i64 (Gs.e0 j))) := fun j hj W hW => by
  rw [← he0 j hj]
  exact htg j (by rw [htf.len];exact hj) W (by rw [hs];exact hW)
 obtain ⟨tA,tc,td⟩ := t
 change tA = _ at hA1
 subst hA1
 change Hid (∀ W,Below s w W → Calls Tryz.prog 75 #[.slice A rs.length c,.slice (some ⟨tb0,to0,none⟩) N tc] W fun x w' => x = .returned (.tuple #[]) ∧ Below W.heap.size W w') at HEX
 have htl : td.length = N := htf.len
 show Calls _ _ #[_,.slice (some ⟨tb0,to0,none⟩) td.length tc] _ _
 rw [htl,hs]
 obtain ⟨M0,hM0⟩ : ∃ M,rowM rs = M := ⟨_,rfl⟩
 obtain ⟨n,hnn⟩ : ∃ n,rs.length = n := ⟨_,rfl⟩
 rw [hM0,hnn] at HCO HRNG hk
 rw [hnn] at HEX hn ⊢
 have HKK := Lib.hid hk
 have HS := Lib.hid hs
 clear h hf ht htf hk hM0 htl hs hnn htg he0
 have HB0 : Hid (Below s w (w.alloc (.cells #[.int .i64 0] 27))) := by show Below _ _ _;rw [← HS.out];exact (Below.refl _ w).alloc (Nat.le_refl _) _
 have HE0 : Hid (Row (w.alloc (.cells #[.int .i64 0] 27)) s 27 [.int .i64 0]) := Row.fresh' _ _ _ HS.out
 go_enter_defers Tryz.func50,Tryz.ntmps50
 go_wp2_with fail
 rw [HS.out]
 generalize (w.alloc (.cells #[.int .i64 0] 27)) = w0 at HB0 HE0 ⊢
 refine (HEX.out _ HB0.out).mono ?_
 rintro x w1 ⟨rfl,hb1⟩
 have HB1 : Hid (Below s w w1) := HB0.out.trans (hb1.mono (by have := HE0.out.lt;omega))
 have HE1 := Lib.hid (HE0.out.below hb1 HE0.out.lt)
 clear hb1 HB0 HE0
 go_wp2_with fail
 refine (HCO.out _ HB1.out).mono ?_
 rintro x w2 ⟨gs,rfl,hgl,hT,hb2⟩
 have HB2 : Hid (Below s w w2) := HB1.out.trans (hb2.mono (by have := HE1.out.lt;omega))
 have HE2 := Lib.hid (HE1.out.below hb2 HE1.out.lt)
 obtain ⟨tb,htb⟩ : ∃ x,w1.heap.size = x := ⟨_,rfl⟩
 have hstb : s < tb := by have := HE1.out.lt;omega
 rw [htb] at hT
 rw [htb]
 have htlt := hT.tlt
 have hRD := reduce_any tb tb n gs N N M0 w2 hT (Nat.le_refl _) hN0 (by omega) (by omega) (by omega) (by omega) (by rw [hgl];exact HRNG.out) (by omega)
 rw [hgl] at hRD
 have HRD := Lib.hid hRD
 clear hRD hT hb2 hgl htb HB1 HE1
 go_wp2_with fail
 refine HRD.out.mono ?_
 rintro x w3 ⟨ps,pv,gs3,M,rfl,hRM,hred⟩
 obtain ⟨z,hz1,hz2⟩ := HKK.out
 obtain ⟨c0,hc0,hcp,hcs⟩ := hred.sep hN0 hz1 hz2
 have hown := hRM.own
 have hpl := hred.len
 obtain ⟨pA,pc,rfl⟩ := own_slice hown
 have HB3 : Hid (Below s w w3) := HB2.out.trans (hRM.bel.mono (by omega))
 have HE3 := Lib.hid (HE2.out.below hRM.bel hstb)
 have HTT := Lib.hid hRM.tab
 have HG3 := Lib.hid hRM.gl
 have hrd := Rd.of_own hown
 have HRNG3 := Lib.hid hred.rng
 obtain ⟨r,hr⟩ : ∃ r,ps.length = r := ⟨_,rfl⟩
 have hpq : ∀ k,k < r → ps.getD k 0 < N := fun k hk => hred.lt k (by omega)
 rw [hr] at hrd hpl hcs ⊢
 have HPS : Hid (∀ k,k < r → ∃ b o,pA = some ⟨b,o,none⟩ ∧ ∀ V,Below w3.heap.size w3 V → V.cell? ⟨b,o + k,none⟩ = some (.int .i64 ((ps.getD k 0 : Nat) : Int))) := fun k hk => by
  obtain ⟨b,o,e1,hb,hc⟩ := hrd.2 (by omega)
  refine ⟨b,o,e1,fun V hV => ?_⟩
  rw [hV.cell (p := ⟨b,o + k,none⟩) hb]
  refine hc k _ ?_
  rw [List.getElem?_map,List.getElem?_eq_getElem (by omega),List.getD_eq_getElem?_getD,List.getElem?_eq_getElem (by omega)]
  rfl
 have HCN : Hid (∀ (x : Nat) (V : World),Below w3.heap.size w3 V → Calls Tryz.prog 78 #[.slice pA r pc,.int .i64 (x : Int)] V fun e w' => e = .returned (.bool (decide (x ∈ ps))) ∧ V = w') := fun x V hV => by
  have := contI_any pA r pc w3.heap.size (ps.map fun p : Nat => (p : Int)) (x : Int) V (by have h1 := hrd.below hV;rwa [show pvs ps = ivs (ps.map fun p : Nat => (p : Int)) by simp [pvs]] at h1) (by omega)
  have e : decide ((x : Int) ∈ ps.map fun p : Nat => (p : Int)) = decide (x ∈ ps) := by
   congr 1
   simp only [List.mem_map,eq_iff_iff]
   exact ⟨fun ⟨a,h1,h2⟩ => by have e : a = x := (by omega);rw [← e];exact h1,fun h => ⟨x,h,rfl⟩⟩
  rw [e] at this
  exact this
 have HPQ := Lib.hid hpq
 have HC0 := Lib.hid (And.intro hcp hcs)
 have HSB : Hid (s < w3.heap.size ∧ tb < w3.heap.size) := ⟨HE3.out.lt,HTT.out.tlt⟩
 clear hRM hred hown hrd HRD HB2 HE2 HKK HRNG HEX HCO hz1 hz2 hcp hcs hr hpq htlt
 go_wp2_with fail
 go_loopw [29] (fun i wx => ∃ c : Nat,c ≤ c0 ∧ i = .int .i64 c ∧ Below w3.heap.size w3 wx) (fun i _ => N - (intOf i).toNat)
 case atStart => exact ⟨0,Nat.zero_le _,rfl,Below.refl _ _⟩
 case round =>
  obtain ⟨q,hq,rfl,hb⟩ := hrel
  have k1 : (q : Int) < (N : Int) := by omega
  have k0 : (0 : Int) ≤ (q : Int) := by omega
  have HB := Lib.hid hb
  have hCN := HCN.out q wr hb
  obtain ⟨BB,hBB⟩ : ∃ b,decide (q ∈ ps) = b := ⟨_,rfl⟩
  rw [hBB] at hCN
  have HCC := Lib.hid hCN
  have HBB := Lib.hid hBB
  clear hb hCN hBB
  cases BB with
  | true =>
   have hlt : q < c0 := by
    rcases Nat.lt_or_ge q c0 with h1 | h1
    ·exact h1
    ·have e : q = c0 := by omega
     have h2 : q ∈ ps := of_decide_eq_true HBB.out
     rw [e] at h2
     exact absurd h2 HC0.out.1
   go_wp2_with fail
   refine HCC.out.mono ?_
   rintro x w5 ⟨rfl,rfl⟩
   go_wp2_with fail
   go_roundw
   case rel => exact ⟨q + 1,by omega,by go_num,HB.out⟩
   case measure => simp [intOf];omega
  | false =>
   have HBW : Hid (Below s w wr) := HB3.out.trans (HB.out.mono (by have := HSB.out.1;omega))
   have HSZ : Hid (s ≤ wr.heap.size) := by have h1 := HSB.out.1;have h2 := HB.out.size;show s ≤ wr.heap.size;omega
   have HTG := Lib.hid (HTG0.out q (by omega))
   have HIX : Hid ((0 : Int) ≤ (q : Int) ∧ (q : Int) < (N : Int)) := ⟨k0,k1⟩
   obtain ⟨EC,hEC⟩ : ∃ x,Gs.e0 q = x := ⟨_,rfl⟩
   rw [hEC] at HTG
   have HEC := Lib.hid hEC
   clear hEC
   go_wp2_with fail
   refine HCC.out.mono ?_
   rintro x w5 ⟨rfl,rfl⟩
   go_wp2_with fail
   rename_i Kz hKz
   refine wp_region_treeM (fun w' => Below s w w') (.take 0 (.take 1 (.take 3 (.take 4 (.take 5 (.take 6 (.one 2 (.take 7 (.take 8 .done))))))))) (by kernel_rfl) (by kernel_rfl) (by kernel_rfl) (by kernel_rfl) HBW.out.drew ?_
   iterate 6 (refine wpOT_take rfl _ (by rfl) (by intro w' hS;have q0 := HTG.out w' hS;obtain ⟨k0,k1⟩ := HIX.out;go_simp;try with_reducible rfl) fun KK hKK => ?_;go_simp;refine hKK _ ?_;clear hKK KK)
   refine wpOT_one rfl (by rfl) fun KK hKK => ?_
   have hmk := makeI_any N (by omega)
   go_simp
   clear hmk
   refine hKK _ _ (HBW.out.drew.alloc HSZ.out _) ?_
   iterate 2 (clear hKK KK;refine wpOT_take rfl _ (by rfl) (by intro w' hS;skip;go_simp;try with_reducible rfl) fun KK hKK => ?_;go_simp;refine hKK _ ?_)
   clear hKK KK
   refine wpOT_done ?_
   show Kz _ _
   refine hKz _ _ ?_
   go_simp
   obtain ⟨yb,hyb⟩ : ∃ x,wr.heap.size = x := ⟨_,rfl⟩
   obtain ⟨w4,hw4⟩ : ∃ x,(wr.alloc (.cells (madeCells #[.int .i64 0] N) 3)).drew = x := ⟨_,rfl⟩
   have hb4 : Below wr.heap.size wr w4 := by rw [← hw4];exact ((Below.refl _ _).alloc (Nat.le_refl _) _).drew
   have hy4 : Row w4 yb 3 (ivs (List.replicate N 0)) := by
    rw [← hw4,← hyb,madeZero]
    exact Row.fresh wr 3 (ivs (List.replicate N 0))
   rw [hw4,hyb]
   have HB4 : Hid (Below w3.heap.size w3 w4) := HB.out.trans (hb4.mono HB.out.size)
   have HY4 := Lib.hid hy4
   have hyy : w3.heap.size ≤ yb := by rw [← hyb];exact HB.out.size
   have HYB := Lib.hid (And.intro hyy hy4.lt)
   clear hyy
   have cq := hy4.cell (i := q) (v := .int .i64 0) (by rw [List.getElem?_map,List.getElem?_replicate,if_pos (by omega)];rfl)
   have fq := hy4.fz q
   clear hw4 hb4 hy4 hyb
   go_wp2_with fail
   clear cq fq
   have hy5 : Row (w4.setCell ⟨yb,q,none⟩ (.int .i64 1)) yb 3 (ivs ((List.replicate N 0).set q 1)) := by
    have := HY4.out.put q (.int .i64 1)
    rwa [show (ivs (List.replicate N 0)).set q (.int .i64 1) = ivs ((List.replicate N 0).set q 1) by simp [List.map_set]] at this
   have ht5 : Tch (fun g => g = yb) w4 (w4.setCell ⟨yb,q,none⟩ (.int .i64 1)) := (Tch.refl (fun g => g = yb) w4).set (p := ⟨yb,q,none⟩) (.inr rfl) _
   have HY5 := Lib.hid (And.intro hy5 ht5)
   clear hy5 ht5
   go_loopw [11,47] (fun x i wx => ∃ (k : Nat) (P : Int),k ≤ r ∧ i = .int .i64 k ∧ x = .int .i64 P ∧ Fm.cg P (Gs.sep M Gs.e0 ps q k) ∧ ∃ ws : List Int,ws.length = N ∧ Row wx yb 3 (ivs ws) ∧ Tch (fun g => g = yb) w4 wx) (fun _ i _ => r - (intOf i).toNat)
   case atStart => exact ⟨0,EC,Nat.zero_le _,rfl,rfl,by rw [← HEC.out];unfold Gs.sep;show Fm.cg (Gs.e0 q) (Gs.e0 q + 0);rw [Int.add_zero];exact Fm.cg_refl _,(List.replicate N 0).set q 1,by simp,HY5.out.1,HY5.out.2⟩
   case round =>
    clear HY5
    obtain ⟨k,P,hkr,rfl,rfl,hcg,ws,hwl,hrw,ht⟩ := hrel
    have hbb : Below w3.heap.size w3 wr := HB4.out.trans (ht.below HB4.out.size (by intro i hi e;have := HYB.out;omega))
    have HCG := Lib.hid hcg
    have HWL := Lib.hid hwl
    have HRW := Lib.hid hrw
    have HT := Lib.hid ht
    have HBB := Lib.hid hbb
    by_cases hlt : k < r
    ·have a1 : (k : Int) < (r : Int) := by omega
     have a0 : (0 : Int) ≤ (k : Int) := by omega
     have a2 : (k : Int) < (n : Int) := by omega
     obtain ⟨b,o,hpA,hpc⟩ := HPS.out k hlt
     subst hpA
     have hpc0 := hpc wr hbb
     have hpN := HPQ.out k hlt
     obtain ⟨p,hp⟩ : ∃ x,ps.getD k 0 = x := ⟨_,rfl⟩
     rw [hp] at hpc0 hpN
     have HP := Lib.hid hp
     have hTw := HTT.out.next hbb
     have hkg : k < gs3.length := by rw [HG3.out];omega
     have t0 := hTw.tcell hkg
     have t1 := hTw.cell hkg (show q < N by omega)
     have hrx := HRNG3.out k q (by omega) (by omega)
     obtain ⟨X,hX⟩ : ∃ x,M k q = x := ⟨_,rfl⟩
     rw [hX] at t1 hrx
     have HX := Lib.hid hX
     obtain ⟨x0,x1⟩ := hrx
     have p1 : (p : Int) < (N : Int) := by omega
     have p0 : (0 : Int) ≤ (p : Int) := by omega
     have cy := hrw.cell (i := p) (v := .int .i64 (ws.getD p 0)) (by rw [List.getElem?_map,List.getElem?_eq_getElem (by omega),List.getD_eq_getElem?_getD,List.getElem?_eq_getElem (by omega)];rfl)
     have fy := hrw.fz p
     have HMD : Hid (∀ V,Calls Tryz.prog 79 #[.int .i64 (-X)] V fun e w' => e = .returned (.int .i64 (Fm.md (-X))) ∧ V = w') := fun V => mod_any (-X) V
     obtain ⟨Y,hY⟩ : ∃ x,Fm.md (-X) = x := ⟨_,rfl⟩
     rw [hY] at HMD
     have HYY := Lib.hid hY
     clear hcg hwl hrw ht hbb hpc hp hTw hkg hX hY
     go_wp2_with fail
     refine (HMD.out _).mono ?_
     rintro e5 w5 ⟨rfl,rfl⟩
     go_wp2_with fail
     rename_i Kz hKz
     have hry : Row (wr.setCell ⟨yb,p,none⟩ (.int .i64 Y)) yb 3 (ivs (ws.set p Y)) := by
      have := HRW.out.put p (.int .i64 Y)
      rwa [show (ivs ws).set p (.int .i64 Y) = ivs (ws.set p Y) by simp [List.map_set]] at this
     have hty : Tch (fun g => g = yb) w4 (wr.setCell ⟨yb,p,none⟩ (.int .i64 Y)) := HT.out.set (p := ⟨yb,p,none⟩) (.inr rfl) _
     generalize (wr.setCell ⟨yb,p,none⟩ (.int .i64 Y)) = W5 at hry hty ⊢
     have hb5 : Below s w W5 := HB3.out.trans ((HB4.out.trans (hty.below HB4.out.size (by intro i hi e;have := HYB.out;omega))).mono (by have := HSB.out.1;omega))
     have HCY : Hid (∀ w',Below W5.heap.size W5 w' → w'.cell? ⟨yb,p,none⟩ = some (.int .i64 Y) ∧ w'.cell? ⟨tb0,to0 + p,none⟩ = some (.int .i64 (Gs.e0 p))) := fun w' hw' =>
      ⟨(hw'.cell (p := ⟨yb,p,none⟩) hry.lt).trans (hry.cell (by rw [List.getElem?_map,List.getElem?_set_self (by rw [HWL.out];exact hpN)];rfl)),HTG0.out p hpN w' (hb5.trans (hw'.mono (by have h1 := hb5.size;have h2 := HSB.out.1;have h3 := hty.size;have h4 := HB4.out.size;omega)))⟩
     obtain ⟨EP,hEP⟩ : ∃ x,Gs.e0 p = x := ⟨_,rfl⟩
     rw [hEP] at HCY
     have hmul : ∀ V,Calls Tryz.prog 69 #[.int .i64 Y,.int .i64 EP] V fun e w' => e = .returned (.int .i64 (Fm.ml Y EP)) ∧ V = w' := fun V => mul_any Y EP V
     obtain ⟨ML,hML⟩ : ∃ x,Fm.ml Y EP = x := ⟨_,rfl⟩
     rw [hML] at hmul
     have hadd : ∀ V,Calls Tryz.prog 80 #[.int .i64 P,.int .i64 ML] V fun e w' => e = .returned (.int .i64 (Fm.ad P ML)) ∧ V.alloc (.cells #[.int .i64 P,.int .i64 ML] 3) = w' := fun V => add_any P ML V
     have hnx := sep_next M Gs.e0 ps q k HCG.out
     rw [HP.out,HX.out,HYY.out,hEP,hML] at hnx
     obtain ⟨P2,hP2⟩ : ∃ x,Fm.ad P ML = x := ⟨_,rfl⟩
     rw [hP2] at hadd hnx
     have HMU := Lib.hid hmul
     have HAD := Lib.hid hadd
     have HNX := Lib.hid hnx
     have HRY := Lib.hid (And.intro hry hty)
     have HPB : Hid ((0 : Int) ≤ (p : Int) ∧ (p : Int) < (N : Int)) := ⟨p0,p1⟩
     clear hmul hadd hnx hry hty hb5 hEP hML hP2 t0 t1 cy fy hpc0
     refine wp_region_treeM (fun w' => Below W5.heap.size W5 w') (.take 0 (.take 1 (.take 2 (.take 3 (.take 4 (.take 5 (.take 6 (.take 7 (.take 8 (.one 9 (.one 10 (.take 11 .done)))))))))))) (by kernel_rfl) (by kernel_rfl) (by kernel_rfl) (by kernel_rfl) (Below.refl _ _).drew ?_
     iterate 9 (refine wpOT_take rfl _ (by rfl) (by intro w' hS;obtain ⟨cy,tg⟩ := HCY.out w' hS;obtain ⟨p0,p1⟩ := HPB.out;go_simp;try with_reducible rfl) fun KK hKK => ?_;go_simp;refine hKK _ ?_;clear hKK KK)
     refine wpOT_one rfl (by rfl) fun KK hKK => ?_
     go_simp
     with_reducible refine (HMU.out _).mono ?_
     rintro e5 w8 ⟨rfl,rfl⟩
     refine hKK _ _ (Below.refl _ _).drew ?_
     clear hKK KK
     refine wpOT_one rfl (by rfl) fun KK hKK => ?_
     go_simp
     with_reducible refine (HAD.out _).mono ?_
     rintro e5 w8 ⟨rfl,hw8⟩
     have hb8 : Below W5.heap.size W5 w8 := by rw [← hw8];exact (Below.refl W5.heap.size W5).drew.alloc (Nat.le_refl _) _
     have HB8 := Lib.hid hb8
     clear hb8 hw8
     refine hKK _ _ HB8.out ?_
     clear hKK KK
     refine wpOT_take rfl _ (by rfl) (by intro w' hS;skip;go_simp;try with_reducible rfl) fun KK hKK => ?_
     go_simp
     refine hKK _ ?_
     clear hKK KK
     refine wpOT_done ?_
     show Kz _ _
     refine hKz _ _ ?_
     go_simp
     go_wp2
     go_roundw
     case rel => exact ⟨k + 1,P2,by omega,by go_num,rfl,HNX.out,ws.set p Y,by rw [List.length_set];exact HWL.out,HRY.out.1.below HB8.out HRY.out.1.lt,HRY.out.2.next HB8.out⟩
     case measure => simp [intOf];omega
    ·obtain rfl : k = r := by omega
     clear hcg hwl hrw ht hbb
     have HINV : Hid (∀ V,Calls Tryz.prog 81 #[.int .i64 P] V fun e w' => e = .returned (.tuple #[.int .i64 (Fm.inv P),.int .i64 (Fm.invE P)]) ∧ V = w') := fun V => inv_any P V
     by_cases hP : Fm.md P = 0
     ·have hlt2 : q < c0 := by
       rcases Nat.lt_or_ge q c0 with h1 | h1
       ·exact h1
       ·have e : q = c0 := by omega
        rw [e] at HCG
        exact absurd (Fm.cg_trans (Fm.cg_symm HCG.out) (show Fm.cg P 0 from hP)) HC0.out.2
      rw [Fm.invE_zero hP] at HINV
      clear hP
      go_wp2_with fail
      refine (HINV.out _).mono ?_
      rintro e5 w5 ⟨rfl,rfl⟩
      go_wp2_with fail
      go_roundw
      case rel => exact ⟨q + 1,by omega,by go_num,HBB.out⟩
      case measure => simp [intOf];omega
     ·rw [Fm.invE_ne hP] at HINV
      obtain ⟨IV,hIV⟩ : ∃ x,Fm.inv P = x := ⟨_,rfl⟩
      rw [hIV] at HINV
      clear hP hIV
      go_wp2_with fail
      refine (HINV.out _).mono ?_
      rintro e5 w5 ⟨rfl,rfl⟩
      go_wp2_with fail
      obtain ⟨wo,hwo⟩ : ∃ wo : World,wo = wr := ⟨_,rfl⟩
      subst hwo
      go_loopw [85] (fun i wx => ∃ (j : Nat) (ws : List Int),j ≤ N ∧ i = .int .i64 j ∧ ws.length = N ∧ Row wx yb 3 (ivs ws) ∧ Tch (fun g => g = yb) w4 wx) (fun i _ => N - (intOf i).toNat)
      case atStart => exact ⟨0,ws,Nat.zero_le _,rfl,HWL.out,HRW.out,HT.out⟩
      case round =>
       clear HWL HRW HT HBB
       obtain ⟨j,ws,hj,rfl,hwl,hrw,ht⟩ := hrel
       have HWL := Lib.hid hwl
       have HRW := Lib.hid hrw
       have HT := Lib.hid ht
       by_cases hltj : j < N
       ·have j1 : (j : Int) < (N : Int) := by omega
        have j0 : (0 : Int) ≤ (j : Int) := by omega
        have cy := hrw.cell (i := j) (v := .int .i64 (ws.getD j 0)) (by rw [List.getElem?_map,List.getElem?_eq_getElem (by omega),List.getD_eq_getElem?_getD,List.getElem?_eq_getElem (by omega)];rfl)
        obtain ⟨X,hX⟩ : ∃ x,ws.getD j 0 = x := ⟨_,rfl⟩
        rw [hX] at cy
        have fy := hrw.fz j
        have HMU : Hid (∀ V,Calls Tryz.prog 69 #[.int .i64 X,.int .i64 IV] V fun e w' => e = .returned (.int .i64 (Fm.ml X IV)) ∧ V = w') := fun V => mul_any X IV V
        obtain ⟨Y,hY⟩ : ∃ x,Fm.ml X IV = x := ⟨_,rfl⟩
        rw [hY] at HMU
        clear hwl hrw ht hX hY
        go_wp2_with fail
        refine (HMU.out _).mono ?_
        rintro e5 w5 ⟨rfl,rfl⟩
        go_wp2_with fail
        go_roundw
        case rel =>
         refine ⟨j + 1,ws.set j Y,by omega,by go_num,by rw [List.length_set];exact HWL.out,?_,HT.out.set (p := ⟨yb,j,none⟩) (.inr rfl) _⟩
         have := HRW.out.put j (.int .i64 Y)
         rwa [show (ivs ws).set j (.int .i64 Y) = ivs (ws.set j Y) by simp [List.map_set]] at this
        case measure => simp [intOf];omega
       ·obtain rfl : j = N := by omega
        have hbb : Below w3.heap.size w3 wr := HB4.out.trans (ht.below HB4.out.size (by intro i hi e;have := HYB.out;omega))
        have hes : Row wr s 27 [.int .i64 0] := HE3.out.below hbb HE3.out.lt
        have ce := hes.cell (i := 0) rfl
        have fe := hes.fz 0
        have HES := Lib.hid hes
        have HBF : Hid (Below s w wr) := HB3.out.trans (hbb.mono (by have := HSB.out.1;omega))
        clear hwl hrw ht hbb hes
        go_wp2_with fail
        refine leaves_cons (f := 74) (args := #[.pointer (some ⟨s,0,none⟩)]) (by simp) (by simp [go_sem]) ?_
        refine (caught_idle ⟨s,0,none⟩ _).mono ?_
        rintro e u' w9 ⟨rfl,rfl,rfl⟩
        have hfin := HES.out.put 0 (.int .i64 0)
        exact ⟨_,results_ttc rfl _ _ s (.int .i64 0) (by rfl) (hfin.cell (i := 0) rfl) (isAgg_errno _),_,rfl,HBF.out.setCell (p := ⟨s,0,none⟩) (Nat.le_refl _) _⟩
end Go.Proofs.YtjcpjhlclpdpjaaGreat
namespace Go.Proofs.YtjcpjhlclpdpjaaGreat
open Go.RowKit
attribute [local go_sem] Oper.semAt_some
section
variable {F : Fence} {n : Nat} {P : Program} {ops : Array Oper} {Q : Exit → Act → World → Prop} {md : Region.Mode} {C : Nat → World → Prop}
def wpOTC (F : Fence) (n : Nat) (P : Program) (md : Region.Mode) (ops : Array Oper) (Q : Exit → Act → World → Prop) (C : Nat → World → Prop) : OT → List Nat → Act → World → Prop
 | .done,_,a,w => Q .normal a w
 | .take i t,E,a,w => ∃ o v,ops[i]? = some o ∧ YT P ops (C i) o v a ∧ C i w ∧ wpOTC F n P md ops Q C t (i :: E) (a.put o.dst v) w
 | .one i t,E,a,w => wpOpIn F n P ops Q i (fun a' w' => (∀ e ∈ lateE md ops E i,C e w') ∧ wpOTC F n P md ops Q C t (lateE md ops E i) a' w') a w
 | .two i t j u,E,a,w => wpOpIn F n P ops Q i (fun a' w' => (∀ e ∈ lateE md ops E i,C e w') ∧ wpOTC F n P md ops Q C t (lateE md ops E i) a' w') a w ∧ wpOpIn F n P ops Q j (fun a' w' => (∀ e ∈ lateE md ops E j,C e w') ∧ wpOTC F n P md ops Q C u (lateE md ops E j) a' w') a w
theorem wpAnyT_of_treeC (hd : noDef ops = true) (hsel : Region.noSelect ops = true) (hQ : ∀ (x : Option Tmp) (v : Value) c a w,Q (.panic c) (a.put x v) w → Q (.panic c) a w) :
  ∀ (t : OT) (fuel : Nat) (E : List Nat) (listed : Array Bool) (a : Act) (w : World),t.depth ≤ fuel → otB md ops t listed = true → (∀ e ∈ E,C e w) → wpOTC F n P md ops Q C t E a w → wpAnyT F n P md ops Q C fuel E listed a w
 | .done,fuel,E,listed,a,w,_,hB,_,h => wpAnyT_done (by simpa [otB] using hB) h fuel
 | .take i t,0,_,_,_,_,hp,_,_,_ => by simp [OT.depth] at hp
 | .one i t,0,_,_,_,_,hp,_,_,_ => by simp [OT.depth] at hp
 | .two i t j u,0,_,_,_,_,hp,_,_,_ => by simp [OT.depth] at hp
 | .take i t,fuel + 1,E,listed,a,w,hp,hB,hS,h => by
  simp only [otB,Bool.and_eq_true] at hB
  obtain ⟨o,v,ho,hy,hC,h⟩ := h
  exact wpAnyT_first hd ho (Region.noSelect_spec hsel) (fun c a w h => hQ _ _ c a w h) fuel E listed a w (Region.free_spec ho hB.1.2) (by simpa using hB.1.1) hy hC hS
   (wpAnyT_of_treeC hd hsel hQ t fuel _ _ _ w (by simp only [OT.depth] at hp;omega) hB.2 (fun e he => by
    rcases List.mem_cons.1 he with rfl | he
    ·exact hC
    ·exact hS e he) h)
 | .one i t,fuel + 1,E,listed,a,w,hp,hB,hS,h => by
  simp only [otB,Bool.and_eq_true,decide_eq_true_eq] at hB
  refine ⟨fun h0 => (by rw [h0] at hB;cases hB.1),fun j hj => ?_⟩
  rw [hB.1,List.mem_singleton] at hj
  subst hj
  exact wpOpIn_mono (fun a' w' h' => ⟨h'.1,wpAnyT_of_treeC hd hsel hQ t fuel _ _ a' w' (by simp only [OT.depth] at hp;omega) hB.2 h'.1 h'.2⟩) h
 | .two i t j u,fuel + 1,E,listed,a,w,hp,hB,hS,h => by
  simp only [otB,Bool.and_eq_true,decide_eq_true_eq] at hB
  refine ⟨fun h0 => (by rw [h0] at hB;cases hB.1.1),fun k hk => ?_⟩
  rw [hB.1.1] at hk
  simp only [List.mem_cons,List.not_mem_nil,or_false] at hk
  rcases hk with rfl | rfl
  ·exact wpOpIn_mono (fun a' w' h' => ⟨h'.1,wpAnyT_of_treeC hd hsel hQ t fuel _ _ a' w' (by simp only [OT.depth] at hp;omega) hB.1.2 h'.1 h'.2⟩) h.1
  ·exact wpOpIn_mono (fun a' w' h' => ⟨h'.1,wpAnyT_of_treeC hd hsel hQ u fuel _ _ a' w' (by simp only [OT.depth] at hp;omega) hB.2 h'.1 h'.2⟩) h.2
theorem wpIn_region_treeC {id : Nat} {a : Act} {w : World} {l : List Oper} (C : Nat → World → Prop) (t : OT) (hm : P.follows .mixedOrders = true) (hd : noDef l.toArray = true) (hsel : Region.noSelect l.toArray = true) (hp : decide (t.depth ≤ l.length) = true)
  (hB : otB .any l.toArray t (Array.replicate l.length false) = true) (h : wpOTC F n P .any l.toArray (noPanic Q) C t [] a w.drew) : (Code.region id l.toArray true).wpIn F n P Q a w := by
 refine wpIn_mono (Q := noPanic Q) (wpIn_region_any hm (wpAnyIn_of_T (C := C) _ [] _ _ _ ?_)) ?_
 ·have := wpAnyT_of_treeC (md := .any) hd hsel (fun _ _ _ _ _ h => h) t l.length [] (Array.replicate l.length false) a _ (of_decide_eq_true hp) hB (by simp) h
  simpa using this
 ·intro e a w h
  cases e <;> first | exact h | exact h.elim
theorem wpOTC_done {E : List Nat} {a : Act} {w : World} (h : Q .normal a w) : wpOTC F n P md ops Q C .done E a w := h
theorem wpOTC_take {i : Nat} {t : OT} {E : List Nat} {a : Act} {w : World} {o : Oper} (ho : ops[i]? = some o) (v : Value) (hw : Region.wanted o (yielded ops a.tmps) = true) (hab : ∀ w,o.about P w a.eval = none)
  (hy : ∀ w',C i w' → (execOp a.eval o).run P w' = .ok (.value v) w') (hC : C i w) (h : ∀ K : Act → Prop,(∀ a',wpOTC F n P md ops Q C t (i :: E) a' w → K a') → K (a.put o.dst v)) : wpOTC F n P md ops Q C (.take i t) E a w :=
 ⟨o,v,ho,⟨.inl ⟨hw,hy⟩,hab⟩,hC,h _ fun _ h => h⟩
theorem wpOTC_one {i : Nat} {t : OT} {E : List Nat} (E' : List Nat) {a : Act} {w : World} {o : Oper} (ho : ops[i]? = some o) (hw : Region.wanted o (yielded ops a.tmps) = true) (hE : lateE md ops E i = E')
  (h : ∀ K : Act → World → Prop,(∀ a' w',(∀ e ∈ E',C e w') → wpOTC F n P md ops Q C t E' a' w' → K a' w') → o.wpIn F n P a w K Q) : wpOTC F n P md ops Q C (.one i t) E a w :=
 wpOpIn_force ho hw fun K hK => h K fun a' w' h1 h2 => hK a' w' (by rw [hE];exact ⟨h1,h2⟩)
theorem wpOTC_two {i j : Nat} {t u : OT} {E : List Nat} (E1 E2 : List Nat) {a : Act} {w : World} {o o' : Oper} (ho : ops[i]? = some o) (hw : Region.wanted o (yielded ops a.tmps) = true) (hE : lateE md ops E i = E1) (ho' : ops[j]? = some o') (hw' : Region.wanted o' (yielded ops a.tmps) = true) (hE' : lateE md ops E j = E2)
  (h : ∀ K : Act → World → Prop,(∀ a' w',(∀ e ∈ E1,C e w') → wpOTC F n P md ops Q C t E1 a' w' → K a' w') → o.wpIn F n P a w K Q)
  (h' : ∀ K : Act → World → Prop,(∀ a' w',(∀ e ∈ E2,C e w') → wpOTC F n P md ops Q C u E2 a' w' → K a' w') → o'.wpIn F n P a w K Q) : wpOTC F n P md ops Q C (.two i t j u) E a w :=
 ⟨wpOpIn_force ho hw fun K hK => h K fun a' w' h1 h2 => hK a' w' (by rw [hE];exact ⟨h1,h2⟩),wpOpIn_force ho' hw' fun K hK => h' K fun a' w' h1 h2 => hK a' w' (by rw [hE'];exact ⟨h1,h2⟩)⟩
end
theorem append_none (a : Addr) (l c : Nat) (ty : TypeId) (h : l ≤ c) (w : World) : (Builtin.append_ #[23,3] ty #[.slice (some a) l c,.int .i64 0]).run Tryz.prog w = .ok (.slice (some a) l c) w := by
 obtain ⟨ii,hii,hzz⟩ := Option.map_eq_some_iff.1 (show (Tryz.prog.info? 3).map (fun i => (i.zero,i.size,i.bytes)) = some (some (.int .i64 0),1,8) by kernel_rfl)
 simp only [Prod.mk.injEq] at hzz
 have hw : IntKind.i64.wrap 0 = 0 := by decide
 simp [Builtin.append_,run_underlying Tryz.underlying23,run_underlying Tryz.underlying3,sizeOf,typeInfo,hii,asInt,asIntOf,hw,h,storeCells]
end Go.Proofs.YtjcpjhlclpdpjaaGreat
namespace Go.Proofs.YtjcpjhlclpdpjaaGreat
open Go.RowKit
attribute [local go_sem] Oper.semAt_some
theorem powers_any (n m : Int) (w : World) : Calls Tryz.prog 47 #[.int .i64 n,.int .i64 m] w fun r w' =>
  r = .returned (.func (.func 68) #[] #[.pointer (some ⟨w.heap.size + 1,0,none⟩),.pointer (some ⟨w.heap.size,0,none⟩)]) ∧
  (w.alloc (.cells #[.int .i64 n] 3)).alloc (.cells #[.int .i64 m] 3) = w' := by
 go_enter Tryz.func47,Tryz.ntmps47
 go_wp2
 go_ret
 exact ⟨rfl,rfl⟩
theorem powers1_hands (n m sn sm : Nat) (hm : m ≤ 4096) (w0 : World) (I : Nat → World → Prop)
  (hI : ∀ s W,I s W → Row W sn 3 [.int .i64 (n : Int)] ∧ Row W sm 3 [.int .i64 (m : Int)]) :
  Hands Fence.wide 8 Tryz.prog 68 #[.pointer (some ⟨sm,0,none⟩),.pointer (some ⟨sn,0,none⟩)] w0 I (fun s vs s' _ => s' = s + 1 ∧ s < m ∧ vs = #[.int .i64 (Gs.pwr (n : Int) (s + 1))]) 0 (fun s => s = m) := by
 intro l J Jx W hb hJI hJ hJx hY h0
 have HI : Hid (∀ s V,J s V → V.cell? ⟨sn,0,none⟩ = some (.int .i64 (n : Int)) ∧ V.cell? ⟨sm,0,none⟩ = some (.int .i64 (m : Int))) := fun s V h => by
  obtain ⟨q1,q2⟩ := hI s V (hJI s V h)
  exact ⟨q1.cell (i := 0) rfl,q2.cell (i := 0) rfl⟩
 have HY := Lib.hid hY
 have H0 := Lib.hid h0
 refine callsIn_of_wp Tryz.func68 rfl trivial ?_ rfl
 obtain ⟨c2,c0⟩ := HI.out _ _ h0
 clear hI hJI hJ hJx hY h0 hb
 simp only [Tryz.ntmps68,List.size_toArray,List.length_cons,List.length_nil,Nat.reduceAdd,Nat.reduceSub,Array.replicate_succ,Array.replicate_zero,List.push_toArray,List.append_toArray,List.nil_append,List.cons_append]
 gi_wp2
 clear c2 c0
 gi_loopw [6,4] (fun x y wr => ∃ k : Nat,k ≤ m ∧ x = .int .i64 k ∧ y = .int .i64 (Gs.pwr (n : Int) k) ∧ J k wr) (fun x _ _ => m - (intOf x).toNat)
 case atStart => exact ⟨0,by omega,rfl,rfl,H0.out⟩
 case round =>
  clear H0
  obtain ⟨k,hk,rfl,rfl,hj⟩ := hrel
  have HJ := Lib.hid hj
  obtain ⟨c2,c0⟩ := HI.out _ _ hj
  clear hj
  by_cases hlt : k < m
  ·have k1 : (k : Int) < (m : Int) := by omega
   have k0 : (0 : Int) ≤ (k : Int) := by omega
   obtain ⟨V,hV⟩ : ∃ V,Gs.pwr (n : Int) (k + 1) = V := ⟨_,rfl⟩
   have hml : Fm.ml (Gs.pwr (n : Int) k) (n : Int) = V := by rw [← hV];exact Fm.pow_next _ _
   have hy0 := HY.out k #[.int .i64 V] (k + 1) wr HJ.out ⟨rfl,hlt,by rw [hV]⟩
   obtain ⟨X,hX⟩ : ∃ X,Gs.pwr (n : Int) k = X := ⟨_,rfl⟩
   rw [hX] at hml ⊢
   have HMU : Hid (∀ W,Calls Tryz.prog 69 #[.int .i64 X,.int .i64 (n : Int)] W fun e w' => e = .returned (.int .i64 V) ∧ W = w') := fun W => by rw [← hml];exact mul_any _ _ W
   have HV := Lib.hid hV
   obtain ⟨fn,tmps,assign,body,hy,hRR⟩ := hy0
   have HRR := Lib.hid hRR
   clear hRR hV hml hX
   gi_wp2_with fail
   refine ⟨trivial,(callsIn_wide.2 (HMU.out _)).mono ?_⟩
   rintro e w8 ⟨rfl,rfl⟩
   gi_wp2_with fail
   refine HRR.out.mono ?_
   rintro x W3 (⟨rfl,hJ3⟩ | ⟨rfl,hJ3⟩)
   ·have HJ3 := Lib.hid hJ3
    clear hJ3 c2 c0 hy
    gi_wp2_with fail
    go_roundw
    case rel => exact ⟨k + 1,by omega,by go_num,by rw [HV.out],HJ3.out⟩
    case measure => simp [intOf];omega
   ·have HJ3 := Lib.hid hJ3
    clear hJ3 c2 c0 hy
    gi_wp2_with fail
    refine bodyPost_ret (results_none' rfl _ _ _ rfl) rfl ?_
    exact ⟨⟨_,rfl⟩,.inr ⟨_,HJ3.out⟩⟩
  ·obtain rfl : k = m := by omega
   gi_wp2_with fail
   refine bodyPost_end (results_none' rfl _ _ _ rfl) rfl ?_
   exact ⟨⟨_,rfl⟩,.inl ⟨_,rfl,HJ.out⟩⟩
structure PP (E1 E2 : TypeId) (bx : Nat → Prop) (B : Nat) (w0 : World) (r0 o0 : Value) (W : World) (rv ov : Value) (n m : Nat) (xs ys : List Value) : Prop where
 own1 : W.ownsRow B E1 1 rv n xs
 own2 : W.ownsRow B E2 1 ov m ys
 dis : ∀ g,rv.ownBlock = some g → ov.ownBlock ≠ some g
 tch : Tch (fun g => r0.ownBlock = some g ∨ o0.ownBlock = some g ∨ bx g) w0 W
 f1 : rv.ownBlock = r0.ownBlock ∨ ∃ g,rv.ownBlock = some g ∧ w0.heap.size ≤ g
 f2 : ov.ownBlock = o0.ownBlock ∨ ∃ g,ov.ownBlock = some g ∧ w0.heap.size ≤ g
section
variable {E1 E2 : TypeId} {bx : Nat → Prop} {B : Nat} {w0 : World} {r0 o0 : Value} {W : World} {rv ov : Value} {n m : Nat} {xs ys : List Value}
theorem PP.start (h1 : w0.ownsRow B E1 1 r0 n xs) (h2 : w0.ownsRow B E2 1 o0 m ys) (hd : ∀ g,r0.ownBlock = some g → o0.ownBlock ≠ some g) : PP E1 E2 bx B w0 r0 o0 w0 r0 o0 n m xs ys := ⟨h1,h2,hd,Tch.refl _ _,.inl rfl,.inl rfl⟩
theorem PP.next {W' : World} (h : PP E1 E2 bx B w0 r0 o0 W rv ov n m xs ys) (hb : Below W.heap.size W W') : PP E1 E2 bx B w0 r0 o0 W' rv ov n m xs ys :=
 ⟨own_below h.own1 hb (fun g hg => (h.own1.lt g hg).2),own_below h.own2 hb (fun g hg => (h.own2.lt g hg).2),h.dis,h.tch.next hb,h.f1,h.f2⟩
theorem PP.app1 {W' : World} {rv' : Value} {k : Nat} {zs : List Value} (h : PP E1 E2 bx B w0 r0 o0 W rv ov n m xs ys) (ho : W'.ownsRow B E1 1 rv' k zs) (hg : W.grownBy W' rv.ownBlock) (hr : rv'.ownBlock = rv.ownBlock ∨ rv'.ownBlock = some W.heap.size) : PP E1 E2 bx B w0 r0 o0 W' rv' ov k m zs ys := by
 have l2 : ∀ g,ov.ownBlock = some g → g < W.heap.size := fun g hg => (h.own2.lt g hg).2
 refine ⟨ho,h.own2.kept hg ?_,?_,h.tch.grown hg ?_,?_,h.f2⟩
 ·cases ho2 : ov.ownBlock with
  | none => exact .inl rfl
  | some g => exact .inr fun e => h.dis g e.symm ho2
 ·intro g e1 e2
  rcases hr with hr | hr
  ·exact h.dis g (hr ▸ e1) e2
  ·rw [hr] at e1;have := l2 g e2;cases e1;omega
 ·intro g e
  rcases h.f1 with h1 | ⟨g',h1,h2⟩
  ·exact .inr (.inl (h1 ▸ e))
  ·rw [e] at h1;cases h1;exact .inl h2
 ·rcases hr with hr | hr
  ·rw [hr];exact h.f1
  ·exact .inr ⟨_,hr,h.tch.size⟩
theorem PP.app2 {W' : World} {ov' : Value} {k : Nat} {zs : List Value} (h : PP E1 E2 bx B w0 r0 o0 W rv ov n m xs ys) (ho : W'.ownsRow B E2 1 ov' k zs) (hg : W.grownBy W' ov.ownBlock) (hr : ov'.ownBlock = ov.ownBlock ∨ ov'.ownBlock = some W.heap.size) : PP E1 E2 bx B w0 r0 o0 W' rv ov' n k xs zs := by
 have l2 : ∀ g,rv.ownBlock = some g → g < W.heap.size := fun g hg => (h.own1.lt g hg).2
 refine ⟨h.own1.kept hg ?_,ho,?_,h.tch.grown hg ?_,h.f1,?_⟩
 ·cases ho2 : rv.ownBlock with
  | none => exact .inl rfl
  | some g => exact .inr fun e => h.dis g ho2 e.symm
 ·intro g e1 e2
  rcases hr with hr | hr
  ·exact h.dis g e1 (hr ▸ e2)
  ·rw [hr] at e2;have := l2 g e1;cases e2;omega
 ·intro g e
  rcases h.f2 with h1 | ⟨g',h1,h2⟩
  ·exact .inr (.inr (.inl (h1 ▸ e)))
  ·rw [e] at h1;cases h1;exact .inl h2
 ·rcases hr with hr | hr
  ·rw [hr];exact h.f2
  ·exact .inr ⟨_,hr,h.tch.size⟩
theorem grown_setC (W : World) (p : Addr) (v : Value) : W.grownBy (W.setCell p v) (some p.block) := ⟨rfl,rfl,rfl,by simp [World.setCell],fun k _ hk => Below.heap_setCell W p v k (fun e => hk (by rw [e]))⟩
theorem PP.set1 {v : Value} {p : Addr} (h : PP E1 E2 bx B w0 r0 o0 W rv ov n m xs ys) (hp : w0.heap.size ≤ p.block ∨ bx p.block) (h1 : rv.ownBlock ≠ some p.block) (h2 : ov.ownBlock ≠ some p.block) : PP E1 E2 bx B w0 r0 o0 (W.setCell p v) rv ov n m xs ys :=
 ⟨h.own1.kept (grown_setC W p v) (by cases ho : rv.ownBlock with | none => exact .inl rfl | some g => exact .inr (ho ▸ h1)),
  h.own2.kept (grown_setC W p v) (by cases ho : ov.ownBlock with | none => exact .inl rfl | some g => exact .inr (ho ▸ h2)),h.dis,h.tch.set (by rcases hp with h | h;exact .inl h;exact .inr (.inr (.inr h))) v,h.f1,h.f2⟩
end
theorem rd_newU (W : World) (t : TypeId) (v : Value) : Rd (W.alloc (.cells #[v] t)) (W.heap.size + 1) 1 (some ⟨W.heap.size,0,none⟩) 1 [v] :=
 ⟨rfl,fun _ => ⟨_,_,rfl,Nat.lt_succ_self _,fun j u hu => by rw [Nat.zero_add];exact (Row.fresh W t [v]).cell hu⟩⟩
theorem rd_rowU {W : World} {g : Nat} {t : TypeId} {v : Value} (h : Row W g t [v]) : Rd W (g + 1) 1 (some ⟨g,0,none⟩) 1 [v] :=
 ⟨rfl,fun _ => ⟨_,_,rfl,Nat.lt_succ_self _,fun j u hu => by rw [Nat.zero_add];exact h.cell hu⟩⟩
theorem treat_leaf (p : Int) (vg N vc bp bc bt B k : Nat) (rA oA : Option Addr) (rc oc : Nat) (xs ys : List Value) (w : World) (hp0 : 0 ≤ p) (hp : Row w bp 71 [.slice rA k rc,.slice oA k oc])
  (h1 : w.ownsRow B 23 1 (.slice rA k rc) k xs) (h2 : w.ownsRow B 3 1 (.slice oA k oc) k ys) (hd : ∀ g,(Value.slice rA k rc).ownBlock = some g → (Value.slice oA k oc).ownBlock ≠ some g) (hbp : bp < B) (hB : B ≤ w.heap.size) (hk : k < 64) :
  Calls Tryz.prog 46 #[leafV p,.slice (some ⟨vg,0,none⟩) N vc,.pointer (some ⟨bp,0,none⟩),.pointer (some ⟨bc,0,none⟩),.pointer (some ⟨bt,0,none⟩)] w fun r w' => r = .returned (.bool true) ∧ ∃ rA' rc' oA' oc',Row w' bp 71 [.slice rA' (k + 1) rc',.slice oA' (k + 1) oc'] ∧ PP 23 3 (fun g => g = bp) B w (.slice rA k rc) (.slice oA k oc) w' (.slice rA' (k + 1) rc') (.slice oA' (k + 1) oc') (k + 1) (k + 1) (xs ++ [.slice (some ⟨vg,0,none⟩) N vc]) (ys ++ [.int .i64 p]) := by
 obtain ⟨s,hs⟩ : ∃ s,w.heap.size = s := ⟨_,rfl⟩
 have HBS : Hid (B ≤ s) := by show B ≤ s;omega
 have HBP := Lib.hid hbp
 have HX1 : Hid (∀ g,(Value.slice rA k rc).ownBlock = some g → B ≤ g ∧ g < s) := fun g hg => by have := h1.lt g hg;omega
 have HX2 : Hid (∀ g,(Value.slice oA k oc).ownBlock = some g → B ≤ g ∧ g < s) := fun g hg => by have := h2.lt g hg;omega
 have hb0 : Below w.heap.size w (w.alloc (.cells #[.int .i64 p,.int .i64 0,.slice none 0 0] 68)) := (Below.refl _ _).alloc (Nat.le_refl _) _
 have HP0 := Lib.hid ((PP.start (bx := fun g => g = bp) h1 h2 hd).next hb0)
 have HS0 : Hid (Row (w.alloc (.cells #[.int .i64 p,.int .i64 0,.slice none 0 0] 68)) bp 71 [.slice rA k rc,.slice oA k oc] ∧ Row (w.alloc (.cells #[.int .i64 p,.int .i64 0,.slice none 0 0] 68)) s 68 [.int .i64 p,.int .i64 0,.slice none 0 0]) := ⟨hp.alloc _,Row.fresh' _ _ _ hs⟩
 have HS := Lib.hid hs
 clear hp h1 h2 hd hb0 hs hB hbp
 refine (callsIn_wide (n := 9)).1 ?_
 refine callsIn_of_wp Tryz.func46 rfl trivial ?_ rfl
 simp only [Tryz.ntmps46,List.size_toArray,List.length_cons,List.length_nil,Nat.reduceAdd,Nat.reduceSub,Array.replicate_succ,Array.replicate_zero,List.push_toArray,List.append_toArray,List.nil_append,List.cons_append]
 gi_wp2_with fail
 rename_i Kz hKz
 rw [HS.out]
 generalize (w.alloc (.cells #[.int .i64 p,.int .i64 0,.slice none 0 0] 68)) = w0 at HP0 HS0 ⊢
 refine wpIn_region_treeC (fun (i : Nat) (W : World) => Row W s 68 [.int .i64 p,.int .i64 0,.slice none 0 0] ∧ (i ≠ 13 → i ≠ 7 → Row W bp 71 [.slice rA k rc,.slice oA k oc])) (.take 0 (.take 1 (.take 2 (.take 5 (.take 6 (.take 7 (.take 8 (.two 3 (.two 4 (.take 11 (.one 9 (.one 10 (.one 12 (.take 13 (.one 14 .done)))))) 9 (.one 4 (.take 11 (.one 10 (.one 12 (.take 13 (.one 14 .done))))))) 9 (.one 3 (.one 4 (.take 11 (.one 10 (.one 12 (.take 13 (.one 14 .done))))))))))))))) (by kernel_rfl) (by kernel_rfl) (by kernel_rfl) (by kernel_rfl) (by kernel_rfl) ?_
 have HPn := Lib.hid (HP0.out.next (Below.refl _ _).drew)
 have HSn : Hid ((fun (_ : Nat) (W : World) => Row W bp 71 [.slice rA k rc,.slice oA k oc] ∧ Row W s 68 [.int .i64 p,.int .i64 0,.slice none 0 0]) 0 w0.drew) := ⟨HS0.out.1.below (Below.refl _ _).drew HS0.out.1.lt,HS0.out.2.below (Below.refl _ _).drew HS0.out.2.lt⟩
 clear HP0 HS0
 generalize w0.drew = wd at HPn HSn ⊢
 iterate 5 (refine wpOTC_take rfl _ (by rfl) (fun _ => rfl) (by intro w' hS;have hS := And.intro (hS.2 (by decide) (by decide)) hS.1;have c0 := hS.1.cell (i := 0) rfl;have c1 := hS.1.cell (i := 1) rfl;have p0 := hS.2.cell (i := 0) rfl;go_simp;try with_reducible rfl) ⟨HSn.out.2,fun _ _ => HSn.out.1⟩ fun KK hKK => ?_;go_simp;refine hKK _ ?_;clear hKK KK)
 refine wpOTC_take rfl _ (by rfl) (fun _ => rfl) (by intro w' hS;skip;go_simp;try with_reducible rfl) ⟨HSn.out.2,fun _ _ => HSn.out.1⟩ fun KK hKK => ?_
 go_simp
 refine hKK _ ?_
 clear hKK KK
 refine wpOTC_take rfl _ (by rfl) (fun _ => rfl) (by intro w' hS;have hS := And.intro (hS.2 (by decide) (by decide)) hS.1;have c0 := hS.1.cell (i := 0) rfl;have c1 := hS.1.cell (i := 1) rfl;have p0 := hS.2.cell (i := 0) rfl;go_simp;try with_reducible rfl) ⟨HSn.out.2,fun _ _ => HSn.out.1⟩ fun KK hKK => ?_
 go_simp
 refine hKK _ ?_
 clear hKK KK
 refine wpOTC_two _ _ rfl (by rfl) rfl rfl (by rfl) rfl (fun KK hKK => ?_) (fun KK hKK => ?_)
 ·go_simp
  obtain ⟨g1,hg1⟩ : ∃ x,wd.heap.size = x := ⟨_,rfl⟩
  rw [hg1]
  have hP := HPn.out.next ((Below.refl wd.heap.size wd).alloc (Nat.le_refl _) (.cells #[.slice (some ⟨vg,0,none⟩) N vc] 23))
  have hS : (fun (_ : Nat) (W : World) => Row W bp 71 [.slice rA k rc,.slice oA k oc] ∧ Row W s 68 [.int .i64 p,.int .i64 0,.slice none 0 0]) 0 (wd.alloc (.cells #[.slice (some ⟨vg,0,none⟩) N vc] 23)) := ⟨HSn.out.1.alloc _,HSn.out.2.alloc _⟩
  have hR : Row (wd.alloc (.cells #[.slice (some ⟨vg,0,none⟩) N vc] 23)) g1 23 [.slice (some ⟨vg,0,none⟩) N vc] := by rw [← hg1];exact Row.fresh _ _ _
  have hG : s < g1 := by rw [← hg1];exact HSn.out.2.lt
  refine hKK _ _ (fun _ _ => ⟨hS.2,fun _ _ => hS.1⟩) ?_
  clear hKK KK hg1
  clear HPn HSn
  generalize (wd.alloc (.cells #[.slice (some ⟨vg,0,none⟩) N vc] 23)) = w1 at hP hS hR ⊢
  have HPn := Lib.hid hP
  have HSn := Lib.hid hS
  have HR1 := Lib.hid hR
  have HG1 := Lib.hid hG
  clear hP hS hR hG
  refine wpOTC_two _ _ rfl (by rfl) rfl rfl (by rfl) rfl (fun KK hKK => ?_) (fun KK hKK => ?_)
  ·refine wpInU_append_rd (.tmp 18) (.tmp 20) 24 rfl B 23 _ (.slice none 0 0) 1 24 Tryz.underlying24 rfl rfl rfl rfl rfl (by decide) (.slice rA k rc) k xs (by rfl) HPn.out.own1 (g1 + 1) (some ⟨g1,0,none⟩) 1 1 [.slice (some ⟨vg,0,none⟩) N vc] (by rfl) (rd_rowU HR1.out) (by intro u hu;simp at hu;rw [hu];rfl) (by unfold maxLen;omega) (by omega) (by have := HBS.out;have := HSn.out.2.lt;omega) ?_
   intro v1 w2 hown hgr hor
   have hS : (fun (_ : Nat) (W : World) => Row W bp 71 [.slice rA k rc,.slice oA k oc] ∧ Row W s 68 [.int .i64 p,.int .i64 0,.slice none 0 0]) 0 w2 := ⟨HSn.out.1.grown hgr (fun e => by have := HX1.out _ e.symm;have := HBP.out;omega),HSn.out.2.grown hgr (fun e => by have := HX1.out _ e.symm;omega)⟩
   refine hKK _ _ (fun _ _ => ⟨hS.2,fun _ _ => hS.1⟩) ?_
   clear hKK KK
   have hP := HPn.out.app1 hown hgr hor
   obtain ⟨g1v,c1v,hv1,_,_⟩ := hown.form (by omega)
   subst hv1
   clear HPn HSn HR1 HG1 hown hgr hor
   have HPn := Lib.hid hP
   have HSn := Lib.hid hS
   clear hP hS
   refine wpOTC_take rfl _ (by rfl) (fun _ => rfl) (by intro w' hS;go_simp;try with_reducible rfl) ⟨HSn.out.2,fun _ _ => HSn.out.1⟩ fun KK hKK => ?_
   go_simp
   refine hKK _ ?_
   clear hKK KK
   refine wpOTC_one _ rfl (by rfl) rfl fun KK hKK => ?_
   go_simp
   obtain ⟨g2,hg2⟩ : ∃ x,w2.heap.size = x := ⟨_,rfl⟩
   rw [hg2]
   have hP := HPn.out.next ((Below.refl w2.heap.size w2).alloc (Nat.le_refl _) (.cells #[.int .i64 p] 3))
   have hS : (fun (_ : Nat) (W : World) => Row W bp 71 [.slice rA k rc,.slice oA k oc] ∧ Row W s 68 [.int .i64 p,.int .i64 0,.slice none 0 0]) 0 (w2.alloc (.cells #[.int .i64 p] 3)) := ⟨HSn.out.1.alloc _,HSn.out.2.alloc _⟩
   have hR : Row (w2.alloc (.cells #[.int .i64 p] 3)) g2 3 [.int .i64 p] := by rw [← hg2];exact Row.fresh _ _ _
   have hG : s < g2 := by rw [← hg2];exact HSn.out.2.lt
   refine hKK _ _ (fun _ _ => ⟨hS.2,fun _ _ => hS.1⟩) ?_
   clear hKK KK hg2
   clear HPn HSn
   generalize (w2.alloc (.cells #[.int .i64 p] 3)) = w3 at hP hS hR ⊢
   have HPn := Lib.hid hP
   have HSn := Lib.hid hS
   have HR2 := Lib.hid hR
   have HG2 := Lib.hid hG
   clear hP hS hR hG
   refine wpOTC_one _ rfl (by rfl) rfl fun KK hKK => ?_
   refine wpInU_append_rd (.tmp 23) (.tmp 26) 23 rfl B 3 _ (.int .i64 0) 1 8 Tryz.underlying23 rfl rfl rfl rfl rfl (by decide) (.slice oA k oc) k ys (by rfl) HPn.out.own2 (g2 + 1) (some ⟨g2,0,none⟩) 1 1 [.int .i64 p] (by rfl) (rd_rowU HR2.out) (by intro u hu;simp at hu;rw [hu];rfl) (by unfold maxLen;omega) (by omega) (by have := HBS.out;have := HSn.out.2.lt;omega) ?_
   intro v2 w4 hown hgr hor
   have hS : (fun (_ : Nat) (W : World) => Row W bp 71 [.slice rA k rc,.slice oA k oc] ∧ Row W s 68 [.int .i64 p,.int .i64 0,.slice none 0 0]) 0 w4 := ⟨HSn.out.1.grown hgr (fun e => by have := HX2.out _ e.symm;have := HBP.out;omega),HSn.out.2.grown hgr (fun e => by have := HX2.out _ e.symm;omega)⟩
   refine hKK _ _ (fun _ _ => ⟨hS.2,fun _ _ => hS.1⟩) ?_
   clear hKK KK
   have hP := HPn.out.app2 hown hgr hor
   obtain ⟨g2v,c2v,hv2,_,_⟩ := hown.form (by omega)
   subst hv2
   clear HPn HSn HR2 HG2 hown hgr hor
   have HPn := Lib.hid hP
   have HSn := Lib.hid hS
   clear hP hS
   refine wpOTC_one [7] rfl (by rfl) (by kernel_rfl) fun KK hKK => ?_
   have hs1 := HSn.out.2.away (p := ⟨bp,0,none⟩) (by show s ≠ bp;have := HBS.out;have := HBP.out;omega) (.slice (some ⟨g1v,0,none⟩) (k + 1) c1v)
   have c0 := HSn.out.1.cell (i := 0) rfl
   have c1 := HSn.out.1.cell (i := 1) rfl
   have f0 := HSn.out.1.fz 0
   have f1 := HSn.out.1.fz 1
   go_simp
   refine hKK _ _ (fun e he => by simp at he;subst he;exact ⟨hs1,fun _ h => absurd rfl h⟩) ?_
   clear hKK KK c0
   refine wpOTC_take rfl _ (by rfl) (fun _ => rfl) (by intro w' hS;go_simp;try with_reducible rfl) ⟨hs1,fun h _ => absurd rfl h⟩ fun KK hKK => ?_
   go_simp
   refine hKK _ ?_
   clear hKK KK
   refine wpOTC_one [] rfl (by rfl) (by kernel_rfl) fun KK hKK => ?_
   go_simp
   refine hKK _ _ (fun e he => absurd he (by simp)) ?_
   clear hKK KK c1 f0 f1
   have hm0 : Row (w4.setCell ⟨bp,0,none⟩ (.slice (some ⟨g1v,0,none⟩) (k + 1) c1v)) bp 71 [.slice (some ⟨g1v,0,none⟩) (k + 1) c1v,.slice oA k oc] := HSn.out.1.put 0 _
   have hm1 : Row ((w4.setCell ⟨bp,0,none⟩ (.slice (some ⟨g1v,0,none⟩) (k + 1) c1v)).setCell ⟨bp,1,none⟩ (.slice (some ⟨g2v,0,none⟩) (k + 1) c2v)) bp 71 [.slice (some ⟨g1v,0,none⟩) (k + 1) c1v,.slice (some ⟨g2v,0,none⟩) (k + 1) c2v] := hm0.put 1 _
   have hl1 := HPn.out.own1.lt _ rfl
   have hl2 := HPn.out.own2.lt _ rfl
   have hp1 := (HPn.out.set1 (p := ⟨bp,0,none⟩) (v := .slice (some ⟨g1v,0,none⟩) (k + 1) c1v) (.inr rfl) (by simp [Value.ownBlock];have := HBP.out;omega) (by simp [Value.ownBlock];have := HBP.out;omega)).set1 (p := ⟨bp,1,none⟩) (v := .slice (some ⟨g2v,0,none⟩) (k + 1) c2v) (.inr rfl) (by simp [Value.ownBlock];have := HBP.out;omega) (by simp [Value.ownBlock];have := HBP.out;omega)
   refine wpOTC_done ?_
   show Kz _ _
   refine hKz _ _ ?_
   go_simp
   generalize ((w4.setCell ⟨bp,0,none⟩ (.slice (some ⟨g1v,0,none⟩) (k + 1) c1v)).setCell ⟨bp,1,none⟩ (.slice (some ⟨g2v,0,none⟩) (k + 1) c2v)) = w5 at hm1 hp1 ⊢
   have c0 := hm1.cell (i := 0) rfl
   have HM1 := Lib.hid hm1
   have HPf := Lib.hid hp1
   clear HPn HSn hm0 hm1 hl1 hl2 hp1
   gi_wp2_with fail
   refine bodyPost_ret (results_tmp_1 rfl _ _) rfl ?_
   refine ⟨?_,_,_,_,_,HM1.out,HPf.out⟩
   show Ending.returned (.bool (decide ((k : Int) + 1 ≤ 64))) = _
   rw [decide_eq_true (by omega)]
  ·go_simp
   obtain ⟨g2,hg2⟩ : ∃ x,w1.heap.size = x := ⟨_,rfl⟩
   rw [hg2]
   have hP := HPn.out.next ((Below.refl w1.heap.size w1).alloc (Nat.le_refl _) (.cells #[.int .i64 p] 3))
   have hS : (fun (_ : Nat) (W : World) => Row W bp 71 [.slice rA k rc,.slice oA k oc] ∧ Row W s 68 [.int .i64 p,.int .i64 0,.slice none 0 0]) 0 (w1.alloc (.cells #[.int .i64 p] 3)) := ⟨HSn.out.1.alloc _,HSn.out.2.alloc _⟩
   have hR : Row (w1.alloc (.cells #[.int .i64 p] 3)) g2 3 [.int .i64 p] := by rw [← hg2];exact Row.fresh _ _ _
   have hG : s < g2 := by rw [← hg2];exact HSn.out.2.lt
   refine hKK _ _ (fun _ _ => ⟨hS.2,fun _ _ => hS.1⟩) ?_
   clear hKK KK hg2
   have hk := HR1.out.alloc (.cells #[.int .i64 p] 3)
   clear HR1
   clear HPn HSn
   generalize (w1.alloc (.cells #[.int .i64 p] 3)) = w2 at hP hS hR hk ⊢
   have HPn := Lib.hid hP
   have HSn := Lib.hid hS
   have HR2 := Lib.hid hR
   have HG2 := Lib.hid hG
   clear hP hS hR hG
   have HR1 := Lib.hid hk
   clear hk
   refine wpOTC_one _ rfl (by rfl) rfl fun KK hKK => ?_
   refine wpInU_append_rd (.tmp 18) (.tmp 20) 24 rfl B 23 _ (.slice none 0 0) 1 24 Tryz.underlying24 rfl rfl rfl rfl rfl (by decide) (.slice rA k rc) k xs (by rfl) HPn.out.own1 (g1 + 1) (some ⟨g1,0,none⟩) 1 1 [.slice (some ⟨vg,0,none⟩) N vc] (by rfl) (rd_rowU HR1.out) (by intro u hu;simp at hu;rw [hu];rfl) (by unfold maxLen;omega) (by omega) (by have := HBS.out;have := HSn.out.2.lt;omega) ?_
   intro v1 w3 hown hgr hor
   have hS : (fun (_ : Nat) (W : World) => Row W bp 71 [.slice rA k rc,.slice oA k oc] ∧ Row W s 68 [.int .i64 p,.int .i64 0,.slice none 0 0]) 0 w3 := ⟨HSn.out.1.grown hgr (fun e => by have := HX1.out _ e.symm;have := HBP.out;omega),HSn.out.2.grown hgr (fun e => by have := HX1.out _ e.symm;omega)⟩
   have hk := HR2.out.grown hgr (fun e => by have := HX1.out _ e.symm;have := HG2.out;omega)
   clear HR2
   refine hKK _ _ (fun _ _ => ⟨hS.2,fun _ _ => hS.1⟩) ?_
   clear hKK KK
   have hP := HPn.out.app1 hown hgr hor
   obtain ⟨g1v,c1v,hv1,_,_⟩ := hown.form (by omega)
   subst hv1
   clear HPn HSn HR1 HG1 hown hgr hor
   have HPn := Lib.hid hP
   have HSn := Lib.hid hS
   clear hP hS
   have HR2 := Lib.hid hk
   clear hk
   refine wpOTC_take rfl _ (by rfl) (fun _ => rfl) (by intro w' hS;go_simp;try with_reducible rfl) ⟨HSn.out.2,fun _ _ => HSn.out.1⟩ fun KK hKK => ?_
   go_simp
   refine hKK _ ?_
   clear hKK KK
   refine wpOTC_one _ rfl (by rfl) rfl fun KK hKK => ?_
   refine wpInU_append_rd (.tmp 23) (.tmp 26) 23 rfl B 3 _ (.int .i64 0) 1 8 Tryz.underlying23 rfl rfl rfl rfl rfl (by decide) (.slice oA k oc) k ys (by rfl) HPn.out.own2 (g2 + 1) (some ⟨g2,0,none⟩) 1 1 [.int .i64 p] (by rfl) (rd_rowU HR2.out) (by intro u hu;simp at hu;rw [hu];rfl) (by unfold maxLen;omega) (by omega) (by have := HBS.out;have := HSn.out.2.lt;omega) ?_
   intro v2 w4 hown hgr hor
   have hS : (fun (_ : Nat) (W : World) => Row W bp 71 [.slice rA k rc,.slice oA k oc] ∧ Row W s 68 [.int .i64 p,.int .i64 0,.slice none 0 0]) 0 w4 := ⟨HSn.out.1.grown hgr (fun e => by have := HX2.out _ e.symm;have := HBP.out;omega),HSn.out.2.grown hgr (fun e => by have := HX2.out _ e.symm;omega)⟩
   refine hKK _ _ (fun _ _ => ⟨hS.2,fun _ _ => hS.1⟩) ?_
   clear hKK KK
   have hP := HPn.out.app2 hown hgr hor
   obtain ⟨g2v,c2v,hv2,_,_⟩ := hown.form (by omega)
   subst hv2
   clear HPn HSn HR2 HG2 hown hgr hor
   have HPn := Lib.hid hP
   have HSn := Lib.hid hS
   clear hP hS
   refine wpOTC_one [7] rfl (by rfl) (by kernel_rfl) fun KK hKK => ?_
   have hs1 := HSn.out.2.away (p := ⟨bp,0,none⟩) (by show s ≠ bp;have := HBS.out;have := HBP.out;omega) (.slice (some ⟨g1v,0,none⟩) (k + 1) c1v)
   have c0 := HSn.out.1.cell (i := 0) rfl
   have c1 := HSn.out.1.cell (i := 1) rfl
   have f0 := HSn.out.1.fz 0
   have f1 := HSn.out.1.fz 1
   go_simp
   refine hKK _ _ (fun e he => by simp at he;subst he;exact ⟨hs1,fun _ h => absurd rfl h⟩) ?_
   clear hKK KK c0
   refine wpOTC_take rfl _ (by rfl) (fun _ => rfl) (by intro w' hS;go_simp;try with_reducible rfl) ⟨hs1,fun h _ => absurd rfl h⟩ fun KK hKK => ?_
   go_simp
   refine hKK _ ?_
   clear hKK KK
   refine wpOTC_one [] rfl (by rfl) (by kernel_rfl) fun KK hKK => ?_
   go_simp
   refine hKK _ _ (fun e he => absurd he (by simp)) ?_
   clear hKK KK c1 f0 f1
   have hm0 : Row (w4.setCell ⟨bp,0,none⟩ (.slice (some ⟨g1v,0,none⟩) (k + 1) c1v)) bp 71 [.slice (some ⟨g1v,0,none⟩) (k + 1) c1v,.slice oA k oc] := HSn.out.1.put 0 _
   have hm1 : Row ((w4.setCell ⟨bp,0,none⟩ (.slice (some ⟨g1v,0,none⟩) (k + 1) c1v)).setCell ⟨bp,1,none⟩ (.slice (some ⟨g2v,0,none⟩) (k + 1) c2v)) bp 71 [.slice (some ⟨g1v,0,none⟩) (k + 1) c1v,.slice (some ⟨g2v,0,none⟩) (k + 1) c2v] := hm0.put 1 _
   have hl1 := HPn.out.own1.lt _ rfl
   have hl2 := HPn.out.own2.lt _ rfl
   have hp1 := (HPn.out.set1 (p := ⟨bp,0,none⟩) (v := .slice (some ⟨g1v,0,none⟩) (k + 1) c1v) (.inr rfl) (by simp [Value.ownBlock];have := HBP.out;omega) (by simp [Value.ownBlock];have := HBP.out;omega)).set1 (p := ⟨bp,1,none⟩) (v := .slice (some ⟨g2v,0,none⟩) (k + 1) c2v) (.inr rfl) (by simp [Value.ownBlock];have := HBP.out;omega) (by simp [Value.ownBlock];have := HBP.out;omega)
   refine wpOTC_done ?_
   show Kz _ _
   refine hKz _ _ ?_
   go_simp
   generalize ((w4.setCell ⟨bp,0,none⟩ (.slice (some ⟨g1v,0,none⟩) (k + 1) c1v)).setCell ⟨bp,1,none⟩ (.slice (some ⟨g2v,0,none⟩) (k + 1) c2v)) = w5 at hm1 hp1 ⊢
   have c0 := hm1.cell (i := 0) rfl
   have HM1 := Lib.hid hm1
   have HPf := Lib.hid hp1
   clear HPn HSn hm0 hm1 hl1 hl2 hp1
   gi_wp2_with fail
   refine bodyPost_ret (results_tmp_1 rfl _ _) rfl ?_
   refine ⟨?_,_,_,_,_,HM1.out,HPf.out⟩
   show Ending.returned (.bool (decide ((k : Int) + 1 ≤ 64))) = _
   rw [decide_eq_true (by omega)]
 ·go_simp
  obtain ⟨g2,hg2⟩ : ∃ x,wd.heap.size = x := ⟨_,rfl⟩
  rw [hg2]
  have hP := HPn.out.next ((Below.refl wd.heap.size wd).alloc (Nat.le_refl _) (.cells #[.int .i64 p] 3))
  have hS : (fun (_ : Nat) (W : World) => Row W bp 71 [.slice rA k rc,.slice oA k oc] ∧ Row W s 68 [.int .i64 p,.int .i64 0,.slice none 0 0]) 0 (wd.alloc (.cells #[.int .i64 p] 3)) := ⟨HSn.out.1.alloc _,HSn.out.2.alloc _⟩
  have hR : Row (wd.alloc (.cells #[.int .i64 p] 3)) g2 3 [.int .i64 p] := by rw [← hg2];exact Row.fresh _ _ _
  have hG : s < g2 := by rw [← hg2];exact HSn.out.2.lt
  refine hKK _ _ (fun _ _ => ⟨hS.2,fun _ _ => hS.1⟩) ?_
  clear hKK KK hg2
  clear HPn HSn
  generalize (wd.alloc (.cells #[.int .i64 p] 3)) = w1 at hP hS hR ⊢
  have HPn := Lib.hid hP
  have HSn := Lib.hid hS
  have HR2 := Lib.hid hR
  have HG2 := Lib.hid hG
  clear hP hS hR hG
  refine wpOTC_one _ rfl (by rfl) rfl fun KK hKK => ?_
  go_simp
  obtain ⟨g1,hg1⟩ : ∃ x,w1.heap.size = x := ⟨_,rfl⟩
  rw [hg1]
  have hP := HPn.out.next ((Below.refl w1.heap.size w1).alloc (Nat.le_refl _) (.cells #[.slice (some ⟨vg,0,none⟩) N vc] 23))
  have hS : (fun (_ : Nat) (W : World) => Row W bp 71 [.slice rA k rc,.slice oA k oc] ∧ Row W s 68 [.int .i64 p,.int .i64 0,.slice none 0 0]) 0 (w1.alloc (.cells #[.slice (some ⟨vg,0,none⟩) N vc] 23)) := ⟨HSn.out.1.alloc _,HSn.out.2.alloc _⟩
  have hR : Row (w1.alloc (.cells #[.slice (some ⟨vg,0,none⟩) N vc] 23)) g1 23 [.slice (some ⟨vg,0,none⟩) N vc] := by rw [← hg1];exact Row.fresh _ _ _
  have hG : s < g1 := by rw [← hg1];exact HSn.out.2.lt
  refine hKK _ _ (fun _ _ => ⟨hS.2,fun _ _ => hS.1⟩) ?_
  clear hKK KK hg1
  have hk := HR2.out.alloc (.cells #[.slice (some ⟨vg,0,none⟩) N vc] 23)
  clear HR2
  clear HPn HSn
  generalize (w1.alloc (.cells #[.slice (some ⟨vg,0,none⟩) N vc] 23)) = w2 at hP hS hR hk ⊢
  have HPn := Lib.hid hP
  have HSn := Lib.hid hS
  have HR1 := Lib.hid hR
  have HG1 := Lib.hid hG
  clear hP hS hR hG
  have HR2 := Lib.hid hk
  clear hk
  refine wpOTC_one _ rfl (by rfl) rfl fun KK hKK => ?_
  refine wpInU_append_rd (.tmp 18) (.tmp 20) 24 rfl B 23 _ (.slice none 0 0) 1 24 Tryz.underlying24 rfl rfl rfl rfl rfl (by decide) (.slice rA k rc) k xs (by rfl) HPn.out.own1 (g1 + 1) (some ⟨g1,0,none⟩) 1 1 [.slice (some ⟨vg,0,none⟩) N vc] (by rfl) (rd_rowU HR1.out) (by intro u hu;simp at hu;rw [hu];rfl) (by unfold maxLen;omega) (by omega) (by have := HBS.out;have := HSn.out.2.lt;omega) ?_
  intro v1 w3 hown hgr hor
  have hS : (fun (_ : Nat) (W : World) => Row W bp 71 [.slice rA k rc,.slice oA k oc] ∧ Row W s 68 [.int .i64 p,.int .i64 0,.slice none 0 0]) 0 w3 := ⟨HSn.out.1.grown hgr (fun e => by have := HX1.out _ e.symm;have := HBP.out;omega),HSn.out.2.grown hgr (fun e => by have := HX1.out _ e.symm;omega)⟩
  have hk := HR2.out.grown hgr (fun e => by have := HX1.out _ e.symm;have := HG2.out;omega)
  clear HR2
  refine hKK _ _ (fun _ _ => ⟨hS.2,fun _ _ => hS.1⟩) ?_
  clear hKK KK
  have hP := HPn.out.app1 hown hgr hor
  obtain ⟨g1v,c1v,hv1,_,_⟩ := hown.form (by omega)
  subst hv1
  clear HPn HSn HR1 HG1 hown hgr hor
  have HPn := Lib.hid hP
  have HSn := Lib.hid hS
  clear hP hS
  have HR2 := Lib.hid hk
  clear hk
  refine wpOTC_take rfl _ (by rfl) (fun _ => rfl) (by intro w' hS;go_simp;try with_reducible rfl) ⟨HSn.out.2,fun _ _ => HSn.out.1⟩ fun KK hKK => ?_
  go_simp
  refine hKK _ ?_
  clear hKK KK
  refine wpOTC_one _ rfl (by rfl) rfl fun KK hKK => ?_
  refine wpInU_append_rd (.tmp 23) (.tmp 26) 23 rfl B 3 _ (.int .i64 0) 1 8 Tryz.underlying23 rfl rfl rfl rfl rfl (by decide) (.slice oA k oc) k ys (by rfl) HPn.out.own2 (g2 + 1) (some ⟨g2,0,none⟩) 1 1 [.int .i64 p] (by rfl) (rd_rowU HR2.out) (by intro u hu;simp at hu;rw [hu];rfl) (by unfold maxLen;omega) (by omega) (by have := HBS.out;have := HSn.out.2.lt;omega) ?_
  intro v2 w4 hown hgr hor
  have hS : (fun (_ : Nat) (W : World) => Row W bp 71 [.slice rA k rc,.slice oA k oc] ∧ Row W s 68 [.int .i64 p,.int .i64 0,.slice none 0 0]) 0 w4 := ⟨HSn.out.1.grown hgr (fun e => by have := HX2.out _ e.symm;have := HBP.out;omega),HSn.out.2.grown hgr (fun e => by have := HX2.out _ e.symm;omega)⟩
  refine hKK _ _ (fun _ _ => ⟨hS.2,fun _ _ => hS.1⟩) ?_
  clear hKK KK
  have hP := HPn.out.app2 hown hgr hor
  obtain ⟨g2v,c2v,hv2,_,_⟩ := hown.form (by omega)
  subst hv2
  clear HPn HSn HR2 HG2 hown hgr hor
  have HPn := Lib.hid hP
  have HSn := Lib.hid hS
  clear hP hS
  refine wpOTC_one [7] rfl (by rfl) (by kernel_rfl) fun KK hKK => ?_
  have hs1 := HSn.out.2.away (p := ⟨bp,0,none⟩) (by show s ≠ bp;have := HBS.out;have := HBP.out;omega) (.slice (some ⟨g1v,0,none⟩) (k + 1) c1v)
  have c0 := HSn.out.1.cell (i := 0) rfl
  have c1 := HSn.out.1.cell (i := 1) rfl
  have f0 := HSn.out.1.fz 0
  have f1 := HSn.out.1.fz 1
  go_simp
  refine hKK _ _ (fun e he => by simp at he;subst he;exact ⟨hs1,fun _ h => absurd rfl h⟩) ?_
  clear hKK KK c0
  refine wpOTC_take rfl _ (by rfl) (fun _ => rfl) (by intro w' hS;go_simp;try with_reducible rfl) ⟨hs1,fun h _ => absurd rfl h⟩ fun KK hKK => ?_
  go_simp
  refine hKK _ ?_
  clear hKK KK
  refine wpOTC_one [] rfl (by rfl) (by kernel_rfl) fun KK hKK => ?_
  go_simp
  refine hKK _ _ (fun e he => absurd he (by simp)) ?_
  clear hKK KK c1 f0 f1
  have hm0 : Row (w4.setCell ⟨bp,0,none⟩ (.slice (some ⟨g1v,0,none⟩) (k + 1) c1v)) bp 71 [.slice (some ⟨g1v,0,none⟩) (k + 1) c1v,.slice oA k oc] := HSn.out.1.put 0 _
  have hm1 : Row ((w4.setCell ⟨bp,0,none⟩ (.slice (some ⟨g1v,0,none⟩) (k + 1) c1v)).setCell ⟨bp,1,none⟩ (.slice (some ⟨g2v,0,none⟩) (k + 1) c2v)) bp 71 [.slice (some ⟨g1v,0,none⟩) (k + 1) c1v,.slice (some ⟨g2v,0,none⟩) (k + 1) c2v] := hm0.put 1 _
  have hl1 := HPn.out.own1.lt _ rfl
  have hl2 := HPn.out.own2.lt _ rfl
  have hp1 := (HPn.out.set1 (p := ⟨bp,0,none⟩) (v := .slice (some ⟨g1v,0,none⟩) (k + 1) c1v) (.inr rfl) (by simp [Value.ownBlock];have := HBP.out;omega) (by simp [Value.ownBlock];have := HBP.out;omega)).set1 (p := ⟨bp,1,none⟩) (v := .slice (some ⟨g2v,0,none⟩) (k + 1) c2v) (.inr rfl) (by simp [Value.ownBlock];have := HBP.out;omega) (by simp [Value.ownBlock];have := HBP.out;omega)
  refine wpOTC_done ?_
  show Kz _ _
  refine hKz _ _ ?_
  go_simp
  generalize ((w4.setCell ⟨bp,0,none⟩ (.slice (some ⟨g1v,0,none⟩) (k + 1) c1v)).setCell ⟨bp,1,none⟩ (.slice (some ⟨g2v,0,none⟩) (k + 1) c2v)) = w5 at hm1 hp1 ⊢
  have c0 := hm1.cell (i := 0) rfl
  have HM1 := Lib.hid hm1
  have HPf := Lib.hid hp1
  clear HPn HSn hm0 hm1 hl1 hl2 hp1
  gi_wp2_with fail
  refine bodyPost_ret (results_tmp_1 rfl _ _) rfl ?_
  refine ⟨?_,_,_,_,_,HM1.out,HPf.out⟩
  show Ending.returned (.bool (decide ((k : Int) + 1 ≤ 64))) = _
  rw [decide_eq_true (by omega)]
end Go.Proofs.YtjcpjhlclpdpjaaGreat
