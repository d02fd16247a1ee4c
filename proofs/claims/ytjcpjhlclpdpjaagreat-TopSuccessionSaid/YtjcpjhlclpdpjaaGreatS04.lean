import Derived.Test.YtjcpjhlclpdpjaaGreatS02
set_option linter.unusedVariables false
set_option maxRecDepth 100000
set_option maxHeartbeats 16000000
namespace Go.Proofs.YtjcpjhlclpdpjaaGreat
open Go.RowKit
attribute [local go_sem] Oper.semAt_some
theorem heirs_all {w : World} {B : Nat} {e : Est} (h : e.ok w B) (h0 : 0 < e.H.length) : ∃ b o,e.hA = some ⟨b,o,none⟩ ∧ b < B ∧ ∀ W,Below B w W → ∀ k,k < e.H.length →
  W.cell? ⟨b,o + k * 3,none⟩ = some (.int .i64 (e.gh k).p) ∧ W.cell? ⟨b,o + k * 3 + 1,none⟩ = some (.int .i64 (e.gh k).j) ∧ W.cell? ⟨b,o + k * 3 + 2,none⟩ = some (.int .i64 (e.gh k).l) := by
 obtain ⟨b,o,e1,hb,_⟩ := heir_at h h0
 refine ⟨b,o,e1,hb,fun W hW k hk => ?_⟩
 obtain ⟨b',o',e2,_,q0,q1,q2⟩ := heir_at (h.below hW) hk
 rw [e1] at e2
 injection e2 with e2
 injection e2 with e3 e4
 subst e3;subst e4
 exact ⟨q0,q1,q2⟩
theorem boxP {e : Est} (w wr : World) (P J L : Int) (hX : Boxed1 e w wr) : ∀ W,Below (wr.alloc (.cells #[.int .i64 P,.int .i64 J,.int .i64 L] 79)).heap.size (wr.alloc (.cells #[.int .i64 P,.int .i64 J,.int .i64 L] 79)) W →
  Boxed1 e w W ∧ W.cell? ⟨wr.heap.size,0,none⟩ = some (.int .i64 P) ∧ W.cell? ⟨wr.heap.size,1,none⟩ = some (.int .i64 J) ∧ W.cell? ⟨wr.heap.size,2,none⟩ = some (.int .i64 L) := by
 intro W hW
 have hs : (wr.alloc (.cells #[.int .i64 P,.int .i64 J,.int .i64 L] 79)).heap.size = wr.heap.size + 1 := by simp
 have hc : ∀ i v,(#[Value.int .i64 P,.int .i64 J,.int .i64 L] : Array Value)[i]? = some v → W.cell? ⟨wr.heap.size,i,none⟩ = some v := fun i v hv => by
  rw [hW.cell (p := ⟨wr.heap.size,i,none⟩) (by show wr.heap.size < _;omega),cell_of_row _ wr.heap.size i _ _ _ (heap_alloc_new wr _)]
  exact hv
 refine ⟨(hX.next ((Below.refl wr.heap.size wr).alloc (Nat.le_refl _) _)).next hW,hc 0 _ rfl,hc 1 _ rfl,hc 2 _ rfl⟩
structure Est.hOk (e : Est) (k : Nat) : Prop where
 p0 : 0 ≤ (e.gh k).p
 p1 : (e.gh k).p < 64
 up : 0 < k → (e.gh (k - 1)).p < (e.gh k).p
 j0 : 0 ≤ (e.gh k).j
 j1 : (e.gh k).j ≤ 1048576
 l0 : 0 ≤ (e.gh k).l
 l1 : (e.gh k).l ≤ 1048576
 n0 : 1 ≤ e.n.d.getD (k + 1) 0
 n1 : e.n.d.getD (k + 1) 0 ≤ (k : Int) + 1
structure Est.Right (e : Est) : Prop where
 h1 : 1 ≤ e.H.length
 nl : e.n.d.length = e.H.length + 1
 n0 : e.n.d.getD 0 0 = 1
 m : e.isH e.m.d e.m.d.length
 a : e.isH e.a.d e.a.d.length
 h : ∀ k,k < e.H.length → e.hOk k
 v : ∀ r ∈ e.V,e.isH r.d r.d.length
theorem rright_any (e : Est) (w : World) (h : e.ok w w.heap.size) (hn : e.H.length ≤ 10) (hv : e.V.length ≤ 16) :
  Calls Tryz.prog 14 #[.agg e.cells.toArray] w fun x w' => ∃ b,x = .returned (.bool b) ∧ (b = true → e.Right) ∧ Below w.heap.size w w' := by
 have hX := boxed1 e w
 have HI : Hid ((Tryz.prog.info? 26).map (·.size) = some e.cells.length) := by show _ = _;kernel_rfl
 have HE : Hid (∀ W,Boxed1 e w W → e.ok W W.heap.size) := fun W hW => (h.below hW.bel).more (by have := hW.lt;omega)
 obtain ⟨CS,hCS⟩ : ∃ CS,e.cells = CS := ⟨_,rfl⟩
 rw [hCS] at HI
 have HR : Hid (∀ (p : Int) (W : World),Boxed1 e w W → Calls Tryz.prog 21 #[.agg CS.toArray,.int .i64 p] W fun r w' => r = .returned (.int .i64 (e.idx p)) ∧ Below W.heap.size W w') := fun p W hW => by
  rw [← hCS]
  exact rheir_any e p W (HE.out W hW) (by omega)
 have HCS : Hid (∀ W,Boxed1 e w W → ∀ i v,CS[i]? = some v → W.cell? ⟨w.heap.size,i,none⟩ = some v) := fun W hW i v hv => hW.row i v (by rw [hCS];exact hv)
 have HHE : Hid (∀ r,(r = e.m ∨ r = e.a ∨ r ∈ e.V) → ∀ W,Boxed1 e w W → Calls Tryz.prog 35 #[.agg CS.toArray,r.cell] W fun x w' => ∃ b,x = .returned (.bool b) ∧ (b = true → e.isH r.d r.d.length) ∧ Below W.heap.size W w') := fun r hr W hW => by
  rw [← hCS]
  refine rheirs_any e r W (HE.out W hW) ?_ (by omega)
  rcases hr with rfl | rfl | hr
  ·exact (HE.out W hW).m
  ·exact (HE.out W hW).a
  ·exact (HE.out W hW).vs r hr
 have HQ : Hid (∀ W,Boxed1 e w W → W.cell? ⟨w.heap.size,0,none⟩ = some (.slice e.hA e.H.length e.hc) ∧ W.cell? ⟨w.heap.size,1,none⟩ = some e.m.cell ∧ W.cell? ⟨w.heap.size,2,none⟩ = some (.slice e.n.A e.n.d.length e.n.c) ∧ W.cell? ⟨w.heap.size,3,none⟩ = some e.a.cell ∧ W.cell? ⟨w.heap.size,4,none⟩ = some (.slice e.vA e.V.length e.vc)) := fun W hW => ⟨hW.row 0 _ rfl,hW.row 1 _ rfl,hW.row 2 _ rfl,hW.row 3 _ rfl,hW.row 4 _ rfl⟩
 have HOK := Lib.hid h
 have hnc : e.n.d.length ≤ e.n.c := h.n.2.1
 have hcm : e.n.c ≤ maxLen := h.n.2.2
 unfold maxLen at hcm
 obtain ⟨N,hN⟩ : ∃ N,e.H.length = N := ⟨_,rfl⟩
 obtain ⟨NN,hNN⟩ : ∃ NN,e.n.d.length = NN := ⟨_,rfl⟩
 obtain ⟨VN,hVN⟩ : ∃ VN,e.V.length = VN := ⟨_,rfl⟩
 obtain ⟨MC,hMC⟩ : ∃ MC,e.m.cell = MC := ⟨_,rfl⟩
 obtain ⟨AC,hAC⟩ : ∃ AC,e.a.cell = AC := ⟨_,rfl⟩
 have HM : Hid (∀ W,Boxed1 e w W → Calls Tryz.prog 35 #[.agg CS.toArray,MC] W fun x w' => ∃ b,x = .returned (.bool b) ∧ (b = true → e.isH e.m.d e.m.d.length) ∧ Below W.heap.size W w') := fun W hW => by rw [← hMC];exact HHE.out _ (.inl rfl) W hW
 have HA : Hid (∀ W,Boxed1 e w W → Calls Tryz.prog 35 #[.agg CS.toArray,AC] W fun x w' => ∃ b,x = .returned (.bool b) ∧ (b = true → e.isH e.a.d e.a.d.length) ∧ Below W.heap.size W w') := fun W hW => by rw [← hAC];exact HHE.out _ (.inr (.inl rfl)) W hW
 have HN := Lib.hid hN
 have HNN := Lib.hid hNN
 have HVN := Lib.hid hVN
 obtain ⟨hA,ehA⟩ : ∃ x,e.hA = x := ⟨_,rfl⟩
 obtain ⟨hc,ehc⟩ : ∃ x,e.hc = x := ⟨_,rfl⟩
 obtain ⟨nA,enA⟩ : ∃ x,e.n.A = x := ⟨_,rfl⟩
 obtain ⟨nc,enc⟩ : ∃ x,e.n.c = x := ⟨_,rfl⟩
 obtain ⟨vA,evA⟩ : ∃ x,e.vA = x := ⟨_,rfl⟩
 obtain ⟨vc,evc⟩ : ∃ x,e.vc = x := ⟨_,rfl⟩
 rw [hN,hNN,hVN,hMC,hAC,ehA,ehc,enA,enc,evA,evc] at HQ
 rw [hNN,enc] at hnc
 rw [enc] at hcm
 rw [hN] at hn
 rw [hVN] at hv
 rw [hCS] at hX ⊢
 have HhA := Lib.hid ehA
 have HnA := Lib.hid enA
 have HvA := Lib.hid evA
 have HCE : Hid (CS = [.slice hA N hc,MC,.slice nA NN nc,AC,.slice vA VN vc]) := by
  show _ = _
  rw [← hCS,← hN,← hNN,← hVN,← hMC,← hAC,← ehA,← ehc,← enA,← enc,← evA,← evc]
  rfl
 clear h hCS HR hN hNN hVN hMC hAC ehA ehc enA enc evA evc
 obtain ⟨q0,q1,q2,q3,q4⟩ := HQ.out _ hX
 have HX := Lib.hid hX
 clear hX
 by_cases c0 : N = 0
 ·subst c0
  go_enter Tryz.func14,Tryz.ntmps14
  go_wp2
  go_ret
  exact ⟨false,rfl,(fun h => by cases h),HX.out.bel⟩
 have c0' : ((N : Int) == 0) = false := by simp;omega
 by_cases c1 : NN = N + 1
 case neg =>
  have c1' : ((NN : Int) == (N : Int) + 1) = false := by simp;omega
  go_enter Tryz.func14,Tryz.ntmps14
  go_wp2
  go_ret
  exact ⟨false,rfl,(fun h => by cases h),HX.out.bel⟩
 subst c1
 obtain ⟨nb,no,hA1,hb,hall⟩ := HOK.out.n.allAt (by rw [HNN.out];omega)
 rw [HnA.out] at hA1
 subst hA1
 have hall : ∀ W,Boxed1 e w W → ∀ j,j < N + 1 → W.cell? ⟨nb,no + j,none⟩ = some (.int .i64 (e.n.d.getD j 0)) := fun W hW j hj => hall W hW.bel j (by rw [HNN.out];exact hj)
 have HAL := Lib.hid hall
 have q5 := hall _ HX.out 0 (by omega)
 rw [Nat.add_zero] at q5
 clear hall
 obtain ⟨Z0,hZ0⟩ : ∃ Z,e.n.d.getD 0 0 = Z := ⟨_,rfl⟩
 rw [hZ0] at q5
 by_cases c2 : Z0 = 1
 case neg =>
  have c2' : (Z0 == 1) = false := by simpa using c2
  go_enter Tryz.func14,Tryz.ntmps14
  go_wp2
  go_ret
  exact ⟨false,rfl,(fun h => by cases h),HX.out.bel⟩
 subst c2
 have HZ0 := Lib.hid hZ0
 clear hZ0
 obtain ⟨nA,hnA⟩ : ∃ nA,nA = some (⟨nb,no,none⟩ : Addr) := ⟨_,rfl⟩
 have HM2 : Hid (∀ W,Boxed1 e w W → Calls Tryz.prog 35 #[.agg #[.slice hA N hc,MC,.slice (some ⟨nb,no,none⟩) (N + 1) nc,AC,.slice vA VN vc],MC] W fun x w' => ∃ b,x = .returned (.bool b) ∧ (b = true → e.isH e.m.d e.m.d.length) ∧ Below W.heap.size W w') := fun W hW => by
  have := HM.out W hW
  rw [HCE.out] at this
  exact this
 have HA2 : Hid (∀ W,Boxed1 e w W → Calls Tryz.prog 35 #[.agg #[.slice hA N hc,MC,.slice (some ⟨nb,no,none⟩) (N + 1) nc,AC,.slice vA VN vc],AC] W fun x w' => ∃ b,x = .returned (.bool b) ∧ (b = true → e.isH e.a.d e.a.d.length) ∧ Below W.heap.size W w') := fun W hW => by
  have := HA.out W hW
  rw [HCE.out] at this
  exact this
 go_enter Tryz.func14,Tryz.ntmps14
 go_wp2_with fail
 refine (HM2.out _ HX.out).mono ?_
 rintro x w1 ⟨b1,rfl,hm1,hb1⟩
 have HX1 := Lib.hid (HX.out.next hb1)
 cases b1 with
 | false =>
  clear hm1 hb1 q0 q1 q2 q3 q4 q5
  go_wp2
  go_ret
  exact ⟨false,rfl,(fun h => by cases h),HX1.out.bel⟩
 | true =>
 have HMM := Lib.hid (hm1 rfl)
 clear hm1 hb1 q0 q1 q2 q3 q4 q5
 obtain ⟨q0,q1,q2,q3,q4⟩ := HQ.out _ HX1.out
 go_wp2_with fail
 refine (HA2.out _ HX1.out).mono ?_
 rintro x w2 ⟨b1,rfl,hm1,hb1⟩
 have HX2 := Lib.hid (HX1.out.next hb1)
 cases b1 with
 | false =>
  clear hm1 hb1 q0 q1 q2 q3 q4
  go_wp2
  go_ret
  exact ⟨false,rfl,(fun h => by cases h),HX2.out.bel⟩
 | true =>
 have HAA := Lib.hid (hm1 rfl)
 clear hm1 hb1 q0 q1 q2 q3 q4
 go_wp2
 clear HM HA HM2 HA2 c0'
 obtain ⟨hb0,ho,hhA,hhb,hhall⟩ := heirs_all HOK.out (by rw [HN.out];omega)
 rw [HhA.out] at hhA
 subst hhA
 rw [HN.out] at hhall
 have HHL : Hid (∀ W,Boxed1 e w W → ∀ k,k < N → W.cell? ⟨hb0,ho + k * 3,none⟩ = some (.int .i64 (e.gh k).p) ∧ W.cell? ⟨hb0,ho + k * 3 + 1,none⟩ = some (.int .i64 (e.gh k).j) ∧ W.cell? ⟨hb0,ho + k * 3 + 2,none⟩ = some (.int .i64 (e.gh k).l)) := fun W hW => hhall W hW.bel
 clear hhall
 go_loopw [3] (fun i wr => Boxed1 e w wr ∧ ∃ k : Nat,k ≤ N ∧ i = .int .i64 k ∧ ∀ j,j < k → e.hOk j) (fun i _ => N - (intOf i).toNat)
 case atStart => exact ⟨HX2.out,0,Nat.zero_le _,rfl,fun j hj => absurd hj (by omega)⟩
 case round =>
  clear HX HX1 HX2
  obtain ⟨hX,k,hk,rfl,hu⟩ := hrel
  obtain ⟨q0,q1,q2,q3,q4⟩ := HQ.out _ hX
  have HX := Lib.hid hX
  have HU := Lib.hid hu
  clear hX hu
  by_cases hlt : k < N
  ·have k1 : (k : Int) < (N : Int) := by omega
   have k0 : (0 : Int) ≤ (k : Int) := by omega
   obtain ⟨x0,x1,x2⟩ := HHL.out _ HX.out k hlt
   obtain ⟨P,hP⟩ : ∃ P,(e.gh k).p = P := ⟨_,rfl⟩
   obtain ⟨J,hJ⟩ : ∃ J,(e.gh k).j = J := ⟨_,rfl⟩
   obtain ⟨L,hL⟩ : ∃ L,(e.gh k).l = L := ⟨_,rfl⟩
   rw [hP] at x0
   rw [hJ] at x1
   rw [hL] at x2
   have y3 := HAL.out _ HX.out (k + 1) (by omega)
   obtain ⟨V,hV⟩ : ∃ V,e.n.d.getD (k + 1) 0 = V := ⟨_,rfl⟩
   rw [hV] at y3
   obtain ⟨K1,hK1⟩ : ∃ K1,k + 1 = K1 := ⟨_,rfl⟩
   have hw7 := boxP w wr P J L HX.out
   have HF : Hid (∀ W,Below (wr.alloc (.cells #[.int .i64 P,.int .i64 J,.int .i64 L] 79)).heap.size (wr.alloc (.cells #[.int .i64 P,.int .i64 J,.int .i64 L] 79)) W → Boxed1 e w W ∧ W.cell? ⟨wr.heap.size,0,none⟩ = some (.int .i64 P) ∧ W.cell? ⟨wr.heap.size,1,none⟩ = some (.int .i64 J) ∧ W.cell? ⟨wr.heap.size,2,none⟩ = some (.int .i64 L) ∧ W.cell? ⟨w.heap.size,0,none⟩ = some (.slice (some ⟨hb0,ho,none⟩) N hc) ∧ W.cell? ⟨w.heap.size,2,none⟩ = some (.slice (some ⟨nb,no,none⟩) (N + 1) nc) ∧ W.cell? ⟨nb,no + K1,none⟩ = some (.int .i64 V)) := fun W hW => by
    obtain ⟨g0,g1,g2,g3⟩ := hw7 W hW
    obtain ⟨r0,_,r2,_,_⟩ := HQ.out _ g0
    have r3 := HAL.out _ g0 (k + 1) (by omega)
    rw [hV,hK1] at r3
    exact ⟨g0,g1,g2,g3,r0,r2,r3⟩
   have cw : IntKind.i64.wrap ((k : Int) + 1) = (K1 : Int) := by
    have := wrap_nat (k := k + 1) (by omega)
    rw [← hK1,← this,Int.natCast_add];rfl
   have CW : Hid (IntKind.i64.wrap ((k : Int) + 1) = (K1 : Int) ∧ (0 : Int) ≤ (K1 : Int) ∧ (K1 : Int) < (N : Int) + 1) := ⟨cw,by omega,by omega⟩
   have HPR : Hid (∀ n W,Calls Tryz.prog 36 #[.int .i64 n] W fun r w' => r = .returned (.bool (decide (0 ≤ n ∧ n ≤ 1048576))) ∧ W = w') := rprice_any
   have HB7 : Hid (Below (wr.alloc (.cells #[.int .i64 P,.int .i64 J,.int .i64 L] 79)).heap.size (wr.alloc (.cells #[.int .i64 P,.int .i64 J,.int .i64 L] 79)) (wr.alloc (.cells #[.int .i64 P,.int .i64 J,.int .i64 L] 79)).drew) := (Drw.refl _).drew.below _
   have HHP : Hid ((e.gh k).p = P ∧ (e.gh k).j = J ∧ (e.gh k).l = L ∧ e.n.d.getD (k + 1) 0 = V ∧ k + 1 = K1) := ⟨hP,hJ,hL,hV,hK1⟩
   clear hw7 cw hK1 hV hP hJ hL y3
   by_cases b0 : P < 0
   case pos =>
    have HD : Hid (decide (P < 0) = true ∧ True ∧ True ∧ True ∧ True ∧ True) := ⟨decide_eq_true (by omega) ,True.intro ,True.intro ,True.intro ,True.intro ,True.intro⟩
    go_wp2
    rename_i Kz hKz
    generalize (wr.alloc (.cells #[.int .i64 P,.int .i64 J,.int .i64 L] 79)) = w7 at HF HB7 ⊢
    refine wp_region_ord (fun w' => Below w7.heap.size w7 w') [(0,true),(1,true),(2,true),(3,true),(4,true),(5,true),(6,true),(7,true),(8,true),(9,true),(10,true),(11,true),(12,true),(13,true),(14,true),(15,true),(16,true),(17,true),(18,true),(19,true),(20,true),(21,true),(22,true),(23,true),(24,true),(25,true),(26,true),(27,false),(28,true),(29,true),(30,true),(31,true),(32,true),(33,false),(34,true),(35,true),(36,true),(37,true),(38,true),(39,true),(40,true),(41,true),(42,true),(43,true),(44,true),(45,true),(46,true),(47,true),(48,true),(49,true),(50,true),(51,true),(52,true),(53,true),(54,true),(55,true)] (by kernel_rfl) (by kernel_rfl) rfl (by kernel_rfl) (fun x _ _ _ _ h => by cases x <;> exact h) HB7.out ?_
    iterate 27 (first | (refine wpOrd_skip rfl (by rfl) fun KK hKK => ?_;go_simp;refine hKK _ ?_;clear hKK KK) | (refine wpOrd_take rfl _ (by rfl) (by intro w' hS;obtain ⟨g0,g1,g2,g3,r0,r2,r3⟩ := HF.out w' hS;obtain ⟨cw,i0,i1⟩ := CW.out;obtain ⟨d0,d1,d2,d3,d4,d5⟩ := HD.out;go_simp;try with_reducible rfl) fun KK hKK => ?_;go_simp;refine hKK _ ?_;clear hKK KK))
    refine wpOrd_pass rfl (by rfl) HB7.out fun KK hKK => ?_
    go_simp
    refine hKK _ ?_
    clear hKK KK
    iterate 5 (first | (refine wpOrd_skip rfl (by rfl) fun KK hKK => ?_;go_simp;refine hKK _ ?_;clear hKK KK) | (refine wpOrd_take rfl _ (by rfl) (by intro w' hS;obtain ⟨g0,g1,g2,g3,r0,r2,r3⟩ := HF.out w' hS;obtain ⟨cw,i0,i1⟩ := CW.out;obtain ⟨d0,d1,d2,d3,d4,d5⟩ := HD.out;go_simp;try with_reducible rfl) fun KK hKK => ?_;go_simp;refine hKK _ ?_;clear hKK KK))
    refine wpOrd_pass rfl (by rfl) HB7.out fun KK hKK => ?_
    go_simp
    refine hKK _ ?_
    clear hKK KK
    iterate 22 (first | (refine wpOrd_skip rfl (by rfl) fun KK hKK => ?_;go_simp;refine hKK _ ?_;clear hKK KK) | (refine wpOrd_take rfl _ (by rfl) (by intro w' hS;obtain ⟨g0,g1,g2,g3,r0,r2,r3⟩ := HF.out w' hS;obtain ⟨cw,i0,i1⟩ := CW.out;obtain ⟨d0,d1,d2,d3,d4,d5⟩ := HD.out;go_simp;try with_reducible rfl) fun KK hKK => ?_;go_simp;refine hKK _ ?_;clear hKK KK))
    refine wpOrd_nil ?_
    show Kz _ _
    refine hKz _ _ ?_
    go_simp
    go_wp2
    go_ret
    exact ⟨false,rfl,(fun h => by cases h),(HF.out _ HB7.out).1.bel⟩
   by_cases b1 : 64 ≤ P
   case pos =>
    have HD : Hid (decide (P < 0) = false ∧ decide (64 ≤ P) = true ∧ True ∧ True ∧ True ∧ True) := ⟨decide_eq_false (by omega) ,decide_eq_true (by omega) ,True.intro ,True.intro ,True.intro ,True.intro⟩
    go_wp2
    rename_i Kz hKz
    generalize (wr.alloc (.cells #[.int .i64 P,.int .i64 J,.int .i64 L] 79)) = w7 at HF HB7 ⊢
    refine wp_region_ord (fun w' => Below w7.heap.size w7 w') [(0,true),(1,true),(2,true),(3,true),(4,true),(5,true),(6,true),(7,true),(8,true),(9,true),(10,true),(11,true),(12,true),(13,true),(14,true),(15,true),(16,true),(17,true),(18,true),(19,true),(20,true),(21,true),(22,true),(23,true),(24,true),(25,true),(26,true),(27,false),(28,true),(29,true),(30,true),(31,true),(32,true),(33,false),(34,true),(35,true),(36,true),(37,true),(38,true),(39,true),(40,true),(41,true),(42,true),(43,true),(44,true),(45,true),(46,true),(47,true),(48,true),(49,true),(50,true),(51,true),(52,true),(53,true),(54,true),(55,true)] (by kernel_rfl) (by kernel_rfl) rfl (by kernel_rfl) (fun x _ _ _ _ h => by cases x <;> exact h) HB7.out ?_
    iterate 27 (first | (refine wpOrd_skip rfl (by rfl) fun KK hKK => ?_;go_simp;refine hKK _ ?_;clear hKK KK) | (refine wpOrd_take rfl _ (by rfl) (by intro w' hS;obtain ⟨g0,g1,g2,g3,r0,r2,r3⟩ := HF.out w' hS;obtain ⟨cw,i0,i1⟩ := CW.out;obtain ⟨d0,d1,d2,d3,d4,d5⟩ := HD.out;go_simp;try with_reducible rfl) fun KK hKK => ?_;go_simp;refine hKK _ ?_;clear hKK KK))
    refine wpOrd_pass rfl (by rfl) HB7.out fun KK hKK => ?_
    go_simp
    refine hKK _ ?_
    clear hKK KK
    iterate 5 (first | (refine wpOrd_skip rfl (by rfl) fun KK hKK => ?_;go_simp;refine hKK _ ?_;clear hKK KK) | (refine wpOrd_take rfl _ (by rfl) (by intro w' hS;obtain ⟨g0,g1,g2,g3,r0,r2,r3⟩ := HF.out w' hS;obtain ⟨cw,i0,i1⟩ := CW.out;obtain ⟨d0,d1,d2,d3,d4,d5⟩ := HD.out;go_simp;try with_reducible rfl) fun KK hKK => ?_;go_simp;refine hKK _ ?_;clear hKK KK))
    refine wpOrd_pass rfl (by rfl) HB7.out fun KK hKK => ?_
    go_simp
    refine hKK _ ?_
    clear hKK KK
    iterate 22 (first | (refine wpOrd_skip rfl (by rfl) fun KK hKK => ?_;go_simp;refine hKK _ ?_;clear hKK KK) | (refine wpOrd_take rfl _ (by rfl) (by intro w' hS;obtain ⟨g0,g1,g2,g3,r0,r2,r3⟩ := HF.out w' hS;obtain ⟨cw,i0,i1⟩ := CW.out;obtain ⟨d0,d1,d2,d3,d4,d5⟩ := HD.out;go_simp;try with_reducible rfl) fun KK hKK => ?_;go_simp;refine hKK _ ?_;clear hKK KK))
    refine wpOrd_nil ?_
    show Kz _ _
    refine hKz _ _ ?_
    go_simp
    go_wp2
    go_ret
    exact ⟨false,rfl,(fun h => by cases h),(HF.out _ HB7.out).1.bel⟩
   rcases Nat.eq_zero_or_pos k with hk0 | hk0
   ·subst hk0
    obtain rfl : K1 = 1 := by have := HHP.out.2.2.2.2;omega
    rw [Nat.zero_mul,Nat.add_zero] at x0 x1 x2
    have CW : Hid (IntKind.i64.wrap 1 = 1 ∧ (0 : Int) ≤ 1 ∧ (1 : Int) < (N : Int) + 1) := ⟨by decide,by omega,by omega⟩
    by_cases bj : 0 ≤ J ∧ J ≤ 1048576
    case neg =>
     have HJ : Hid (decide (0 ≤ J ∧ J ≤ 1048576) = false) := decide_eq_false (by omega)
     have HD : Hid (decide (P < 0) = false ∧ decide (64 ≤ P) = false ∧ True ∧ True ∧ True ∧ True) := ⟨decide_eq_false (by omega) ,decide_eq_false (by omega) ,True.intro ,True.intro ,True.intro ,True.intro⟩
     go_wp2
     rename_i Kz hKz
     generalize (wr.alloc (.cells #[.int .i64 P,.int .i64 J,.int .i64 L] 79)) = w7 at HF HB7 ⊢
     refine wp_region_ord (fun w' => Below w7.heap.size w7 w') [(0,true),(1,true),(2,true),(3,true),(4,true),(5,true),(6,true),(7,true),(8,true),(9,true),(10,true),(11,true),(12,true),(13,true),(14,true),(15,true),(16,true),(17,true),(18,true),(19,true),(20,true),(21,true),(22,true),(23,true),(24,true),(25,true),(26,true),(27,false),(28,true),(29,true),(30,true),(31,true),(32,true),(33,false),(34,true),(35,true),(36,true),(37,true),(38,true),(39,true),(40,true),(41,true),(42,true),(43,true),(44,true),(45,true),(46,true),(47,true),(48,true),(49,true),(50,true),(51,true),(52,true),(53,true),(54,true),(55,true)] (by kernel_rfl) (by kernel_rfl) rfl (by kernel_rfl) (fun x _ _ _ _ h => by cases x <;> exact h) HB7.out ?_
     iterate 27 (first | (refine wpOrd_skip rfl (by rfl) fun KK hKK => ?_;go_simp;refine hKK _ ?_;clear hKK KK) | (refine wpOrd_take rfl _ (by rfl) (by intro w' hS;obtain ⟨g0,g1,g2,g3,r0,r2,r3⟩ := HF.out w' hS;obtain ⟨cw,i0,i1⟩ := CW.out;obtain ⟨d0,d1,d2,d3,d4,d5⟩ := HD.out;go_simp;try with_reducible rfl) fun KK hKK => ?_;go_simp;refine hKK _ ?_;clear hKK KK))
     refine wpOrd_force rfl (by rfl) fun KK hKK => ?_
     go_simp
     refine (HPR.out J _).mono ?_
     rw [HJ.out]
     rintro x w8 ⟨rfl,rfl⟩
     refine hKK _ _ HB7.out ?_
     clear hKK KK
     iterate 5 (first | (refine wpOrd_skip rfl (by rfl) fun KK hKK => ?_;go_simp;refine hKK _ ?_;clear hKK KK) | (refine wpOrd_take rfl _ (by rfl) (by intro w' hS;obtain ⟨g0,g1,g2,g3,r0,r2,r3⟩ := HF.out w' hS;obtain ⟨cw,i0,i1⟩ := CW.out;obtain ⟨d0,d1,d2,d3,d4,d5⟩ := HD.out;go_simp;try with_reducible rfl) fun KK hKK => ?_;go_simp;refine hKK _ ?_;clear hKK KK))
     refine wpOrd_pass rfl (by rfl) HB7.out fun KK hKK => ?_
     go_simp
     refine hKK _ ?_
     clear hKK KK
     iterate 22 (first | (refine wpOrd_skip rfl (by rfl) fun KK hKK => ?_;go_simp;refine hKK _ ?_;clear hKK KK) | (refine wpOrd_take rfl _ (by rfl) (by intro w' hS;obtain ⟨g0,g1,g2,g3,r0,r2,r3⟩ := HF.out w' hS;obtain ⟨cw,i0,i1⟩ := CW.out;obtain ⟨d0,d1,d2,d3,d4,d5⟩ := HD.out;go_simp;try with_reducible rfl) fun KK hKK => ?_;go_simp;refine hKK _ ?_;clear hKK KK))
     refine wpOrd_nil ?_
     show Kz _ _
     refine hKz _ _ ?_
     go_simp
     go_wp2
     go_ret
     exact ⟨false,rfl,(fun h => by cases h),(HF.out _ HB7.out).1.bel⟩
    by_cases bl : 0 ≤ L ∧ L ≤ 1048576
    case neg =>
     have HJ : Hid (decide (0 ≤ J ∧ J ≤ 1048576) = true) := decide_eq_true (by omega)
     have HL : Hid (decide (0 ≤ L ∧ L ≤ 1048576) = false) := decide_eq_false (by omega)
     have HD : Hid (decide (P < 0) = false ∧ decide (64 ≤ P) = false ∧ True ∧ True ∧ True ∧ True) := ⟨decide_eq_false (by omega) ,decide_eq_false (by omega) ,True.intro ,True.intro ,True.intro ,True.intro⟩
     go_wp2
     rename_i Kz hKz
     generalize (wr.alloc (.cells #[.int .i64 P,.int .i64 J,.int .i64 L] 79)) = w7 at HF HB7 ⊢
     refine wp_region_ord (fun w' => Below w7.heap.size w7 w') [(0,true),(1,true),(2,true),(3,true),(4,true),(5,true),(6,true),(7,true),(8,true),(9,true),(10,true),(11,true),(12,true),(13,true),(14,true),(15,true),(16,true),(17,true),(18,true),(19,true),(20,true),(21,true),(22,true),(23,true),(24,true),(25,true),(26,true),(27,false),(28,true),(29,true),(30,true),(31,true),(32,true),(33,false),(34,true),(35,true),(36,true),(37,true),(38,true),(39,true),(40,true),(41,true),(42,true),(43,true),(44,true),(45,true),(46,true),(47,true),(48,true),(49,true),(50,true),(51,true),(52,true),(53,true),(54,true),(55,true)] (by kernel_rfl) (by kernel_rfl) rfl (by kernel_rfl) (fun x _ _ _ _ h => by cases x <;> exact h) HB7.out ?_
     iterate 27 (first | (refine wpOrd_skip rfl (by rfl) fun KK hKK => ?_;go_simp;refine hKK _ ?_;clear hKK KK) | (refine wpOrd_take rfl _ (by rfl) (by intro w' hS;obtain ⟨g0,g1,g2,g3,r0,r2,r3⟩ := HF.out w' hS;obtain ⟨cw,i0,i1⟩ := CW.out;obtain ⟨d0,d1,d2,d3,d4,d5⟩ := HD.out;go_simp;try with_reducible rfl) fun KK hKK => ?_;go_simp;refine hKK _ ?_;clear hKK KK))
     refine wpOrd_force rfl (by rfl) fun KK hKK => ?_
     go_simp
     refine (HPR.out J _).mono ?_
     rw [HJ.out]
     rintro x w8 ⟨rfl,rfl⟩
     refine hKK _ _ HB7.out ?_
     clear hKK KK
     iterate 5 (first | (refine wpOrd_skip rfl (by rfl) fun KK hKK => ?_;go_simp;refine hKK _ ?_;clear hKK KK) | (refine wpOrd_take rfl _ (by rfl) (by intro w' hS;obtain ⟨g0,g1,g2,g3,r0,r2,r3⟩ := HF.out w' hS;obtain ⟨cw,i0,i1⟩ := CW.out;obtain ⟨d0,d1,d2,d3,d4,d5⟩ := HD.out;go_simp;try with_reducible rfl) fun KK hKK => ?_;go_simp;refine hKK _ ?_;clear hKK KK))
     refine wpOrd_force rfl (by rfl) fun KK hKK => ?_
     go_simp
     refine (HPR.out L _).mono ?_
     rw [HL.out]
     rintro x w8 ⟨rfl,rfl⟩
     refine hKK _ _ HB7.out ?_
     clear hKK KK
     iterate 22 (first | (refine wpOrd_skip rfl (by rfl) fun KK hKK => ?_;go_simp;refine hKK _ ?_;clear hKK KK) | (refine wpOrd_take rfl _ (by rfl) (by intro w' hS;obtain ⟨g0,g1,g2,g3,r0,r2,r3⟩ := HF.out w' hS;obtain ⟨cw,i0,i1⟩ := CW.out;obtain ⟨d0,d1,d2,d3,d4,d5⟩ := HD.out;go_simp;try with_reducible rfl) fun KK hKK => ?_;go_simp;refine hKK _ ?_;clear hKK KK))
     refine wpOrd_nil ?_
     show Kz _ _
     refine hKz _ _ ?_
     go_simp
     go_wp2
     go_ret
     exact ⟨false,rfl,(fun h => by cases h),(HF.out _ HB7.out).1.bel⟩
    by_cases bv : V < 1
    case pos =>
     have HJ : Hid (decide (0 ≤ J ∧ J ≤ 1048576) = true) := decide_eq_true (by omega)
     have HL : Hid (decide (0 ≤ L ∧ L ≤ 1048576) = true) := decide_eq_true (by omega)
     have HD : Hid (decide (P < 0) = false ∧ decide (64 ≤ P) = false ∧ True ∧ True ∧ decide (V < 1) = true ∧ True) := ⟨decide_eq_false (by omega) ,decide_eq_false (by omega) ,True.intro ,True.intro ,decide_eq_true (by omega) ,True.intro⟩
     go_wp2
     rename_i Kz hKz
     generalize (wr.alloc (.cells #[.int .i64 P,.int .i64 J,.int .i64 L] 79)) = w7 at HF HB7 ⊢
     refine wp_region_ord (fun w' => Below w7.heap.size w7 w') [(0,true),(1,true),(2,true),(3,true),(4,true),(5,true),(6,true),(7,true),(8,true),(9,true),(10,true),(11,true),(12,true),(13,true),(14,true),(15,true),(16,true),(17,true),(18,true),(19,true),(20,true),(21,true),(22,true),(23,true),(24,true),(25,true),(26,true),(27,false),(28,true),(29,true),(30,true),(31,true),(32,true),(33,false),(34,true),(35,true),(36,true),(37,true),(38,true),(39,true),(40,true),(41,true),(42,true),(43,true),(44,true),(45,true),(46,true),(47,true),(48,true),(49,true),(50,true),(51,true),(52,true),(53,true),(54,true),(55,true)] (by kernel_rfl) (by kernel_rfl) rfl (by kernel_rfl) (fun x _ _ _ _ h => by cases x <;> exact h) HB7.out ?_
     iterate 27 (first | (refine wpOrd_skip rfl (by rfl) fun KK hKK => ?_;go_simp;refine hKK _ ?_;clear hKK KK) | (refine wpOrd_take rfl _ (by rfl) (by intro w' hS;obtain ⟨g0,g1,g2,g3,r0,r2,r3⟩ := HF.out w' hS;obtain ⟨cw,i0,i1⟩ := CW.out;obtain ⟨d0,d1,d2,d3,d4,d5⟩ := HD.out;go_simp;try with_reducible rfl) fun KK hKK => ?_;go_simp;refine hKK _ ?_;clear hKK KK))
     refine wpOrd_force rfl (by rfl) fun KK hKK => ?_
     go_simp
     refine (HPR.out J _).mono ?_
     rw [HJ.out]
     rintro x w8 ⟨rfl,rfl⟩
     refine hKK _ _ HB7.out ?_
     clear hKK KK
     iterate 5 (first | (refine wpOrd_skip rfl (by rfl) fun KK hKK => ?_;go_simp;refine hKK _ ?_;clear hKK KK) | (refine wpOrd_take rfl _ (by rfl) (by intro w' hS;obtain ⟨g0,g1,g2,g3,r0,r2,r3⟩ := HF.out w' hS;obtain ⟨cw,i0,i1⟩ := CW.out;obtain ⟨d0,d1,d2,d3,d4,d5⟩ := HD.out;go_simp;try with_reducible rfl) fun KK hKK => ?_;go_simp;refine hKK _ ?_;clear hKK KK))
     refine wpOrd_force rfl (by rfl) fun KK hKK => ?_
     go_simp
     refine (HPR.out L _).mono ?_
     rw [HL.out]
     rintro x w8 ⟨rfl,rfl⟩
     refine hKK _ _ HB7.out ?_
     clear hKK KK
     iterate 22 (first | (refine wpOrd_skip rfl (by rfl) fun KK hKK => ?_;go_simp;refine hKK _ ?_;clear hKK KK) | (refine wpOrd_take rfl _ (by rfl) (by intro w' hS;obtain ⟨g0,g1,g2,g3,r0,r2,r3⟩ := HF.out w' hS;obtain ⟨cw,i0,i1⟩ := CW.out;obtain ⟨d0,d1,d2,d3,d4,d5⟩ := HD.out;go_simp;try with_reducible rfl) fun KK hKK => ?_;go_simp;refine hKK _ ?_;clear hKK KK))
     refine wpOrd_nil ?_
     show Kz _ _
     refine hKz _ _ ?_
     go_simp
     go_wp2
     go_ret
     exact ⟨false,rfl,(fun h => by cases h),(HF.out _ HB7.out).1.bel⟩
    by_cases bw : (1 : Int) < V
    case pos =>
     have HJ : Hid (decide (0 ≤ J ∧ J ≤ 1048576) = true) := decide_eq_true (by omega)
     have HL : Hid (decide (0 ≤ L ∧ L ≤ 1048576) = true) := decide_eq_true (by omega)
     have HD : Hid (decide (P < 0) = false ∧ decide (64 ≤ P) = false ∧ True ∧ True ∧ decide (V < 1) = false ∧ decide ((1 : Int) < V) = true) := ⟨decide_eq_false (by omega) ,decide_eq_false (by omega) ,True.intro ,True.intro ,decide_eq_false (by omega) ,decide_eq_true (by omega)⟩
     go_wp2
     rename_i Kz hKz
     generalize (wr.alloc (.cells #[.int .i64 P,.int .i64 J,.int .i64 L] 79)) = w7 at HF HB7 ⊢
     refine wp_region_ord (fun w' => Below w7.heap.size w7 w') [(0,true),(1,true),(2,true),(3,true),(4,true),(5,true),(6,true),(7,true),(8,true),(9,true),(10,true),(11,true),(12,true),(13,true),(14,true),(15,true),(16,true),(17,true),(18,true),(19,true),(20,true),(21,true),(22,true),(23,true),(24,true),(25,true),(26,true),(27,false),(28,true),(29,true),(30,true),(31,true),(32,true),(33,false),(34,true),(35,true),(36,true),(37,true),(38,true),(39,true),(40,true),(41,true),(42,true),(43,true),(44,true),(45,true),(46,true),(47,true),(48,true),(49,true),(50,true),(51,true),(52,true),(53,true),(54,true),(55,true)] (by kernel_rfl) (by kernel_rfl) rfl (by kernel_rfl) (fun x _ _ _ _ h => by cases x <;> exact h) HB7.out ?_
     iterate 27 (first | (refine wpOrd_skip rfl (by rfl) fun KK hKK => ?_;go_simp;refine hKK _ ?_;clear hKK KK) | (refine wpOrd_take rfl _ (by rfl) (by intro w' hS;obtain ⟨g0,g1,g2,g3,r0,r2,r3⟩ := HF.out w' hS;obtain ⟨cw,i0,i1⟩ := CW.out;obtain ⟨d0,d1,d2,d3,d4,d5⟩ := HD.out;go_simp;try with_reducible rfl) fun KK hKK => ?_;go_simp;refine hKK _ ?_;clear hKK KK))
     refine wpOrd_force rfl (by rfl) fun KK hKK => ?_
     go_simp
     refine (HPR.out J _).mono ?_
     rw [HJ.out]
     rintro x w8 ⟨rfl,rfl⟩
     refine hKK _ _ HB7.out ?_
     clear hKK KK
     iterate 5 (first | (refine wpOrd_skip rfl (by rfl) fun KK hKK => ?_;go_simp;refine hKK _ ?_;clear hKK KK) | (refine wpOrd_take rfl _ (by rfl) (by intro w' hS;obtain ⟨g0,g1,g2,g3,r0,r2,r3⟩ := HF.out w' hS;obtain ⟨cw,i0,i1⟩ := CW.out;obtain ⟨d0,d1,d2,d3,d4,d5⟩ := HD.out;go_simp;try with_reducible rfl) fun KK hKK => ?_;go_simp;refine hKK _ ?_;clear hKK KK))
     refine wpOrd_force rfl (by rfl) fun KK hKK => ?_
     go_simp
     refine (HPR.out L _).mono ?_
     rw [HL.out]
     rintro x w8 ⟨rfl,rfl⟩
     refine hKK _ _ HB7.out ?_
     clear hKK KK
     iterate 22 (first | (refine wpOrd_skip rfl (by rfl) fun KK hKK => ?_;go_simp;refine hKK _ ?_;clear hKK KK) | (refine wpOrd_take rfl _ (by rfl) (by intro w' hS;obtain ⟨g0,g1,g2,g3,r0,r2,r3⟩ := HF.out w' hS;obtain ⟨cw,i0,i1⟩ := CW.out;obtain ⟨d0,d1,d2,d3,d4,d5⟩ := HD.out;go_simp;try with_reducible rfl) fun KK hKK => ?_;go_simp;refine hKK _ ?_;clear hKK KK))
     refine wpOrd_nil ?_
     show Kz _ _
     refine hKz _ _ ?_
     go_simp
     go_wp2
     go_ret
     exact ⟨false,rfl,(fun h => by cases h),(HF.out _ HB7.out).1.bel⟩
    have HJ : Hid (decide (0 ≤ J ∧ J ≤ 1048576) = true) := decide_eq_true (by omega)
    have HL : Hid (decide (0 ≤ L ∧ L ≤ 1048576) = true) := decide_eq_true (by omega)
    have HD : Hid (decide (P < 0) = false ∧ decide (64 ≤ P) = false ∧ True ∧ True ∧ decide (V < 1) = false ∧ decide ((1 : Int) < V) = false) := ⟨decide_eq_false (by omega) ,decide_eq_false (by omega) ,True.intro ,True.intro ,decide_eq_false (by omega) ,decide_eq_false (by omega)⟩
    go_wp2
    rename_i Kz hKz
    generalize (wr.alloc (.cells #[.int .i64 P,.int .i64 J,.int .i64 L] 79)) = w7 at HF HB7 ⊢
    refine wp_region_ord (fun w' => Below w7.heap.size w7 w') [(0,true),(1,true),(2,true),(3,true),(4,true),(5,true),(6,true),(7,true),(8,true),(9,true),(10,true),(11,true),(12,true),(13,true),(14,true),(15,true),(16,true),(17,true),(18,true),(19,true),(20,true),(21,true),(22,true),(23,true),(24,true),(25,true),(26,true),(27,false),(28,true),(29,true),(30,true),(31,true),(32,true),(33,false),(34,true),(35,true),(36,true),(37,true),(38,true),(39,true),(40,true),(41,true),(42,true),(43,true),(44,true),(45,true),(46,true),(47,true),(48,true),(49,true),(50,true),(51,true),(52,true),(53,true),(54,true),(55,true)] (by kernel_rfl) (by kernel_rfl) rfl (by kernel_rfl) (fun x _ _ _ _ h => by cases x <;> exact h) HB7.out ?_
    iterate 27 (first | (refine wpOrd_skip rfl (by rfl) fun KK hKK => ?_;go_simp;refine hKK _ ?_;clear hKK KK) | (refine wpOrd_take rfl _ (by rfl) (by intro w' hS;obtain ⟨g0,g1,g2,g3,r0,r2,r3⟩ := HF.out w' hS;obtain ⟨cw,i0,i1⟩ := CW.out;obtain ⟨d0,d1,d2,d3,d4,d5⟩ := HD.out;go_simp;try with_reducible rfl) fun KK hKK => ?_;go_simp;refine hKK _ ?_;clear hKK KK))
    refine wpOrd_force rfl (by rfl) fun KK hKK => ?_
    go_simp
    refine (HPR.out J _).mono ?_
    rw [HJ.out]
    rintro x w8 ⟨rfl,rfl⟩
    refine hKK _ _ HB7.out ?_
    clear hKK KK
    iterate 5 (first | (refine wpOrd_skip rfl (by rfl) fun KK hKK => ?_;go_simp;refine hKK _ ?_;clear hKK KK) | (refine wpOrd_take rfl _ (by rfl) (by intro w' hS;obtain ⟨g0,g1,g2,g3,r0,r2,r3⟩ := HF.out w' hS;obtain ⟨cw,i0,i1⟩ := CW.out;obtain ⟨d0,d1,d2,d3,d4,d5⟩ := HD.out;go_simp;try with_reducible rfl) fun KK hKK => ?_;go_simp;refine hKK _ ?_;clear hKK KK))
    refine wpOrd_force rfl (by rfl) fun KK hKK => ?_
    go_simp
    refine (HPR.out L _).mono ?_
    rw [HL.out]
    rintro x w8 ⟨rfl,rfl⟩
    refine hKK _ _ HB7.out ?_
    clear hKK KK
    iterate 22 (first | (refine wpOrd_skip rfl (by rfl) fun KK hKK => ?_;go_simp;refine hKK _ ?_;clear hKK KK) | (refine wpOrd_take rfl _ (by rfl) (by intro w' hS;obtain ⟨g0,g1,g2,g3,r0,r2,r3⟩ := HF.out w' hS;obtain ⟨cw,i0,i1⟩ := CW.out;obtain ⟨d0,d1,d2,d3,d4,d5⟩ := HD.out;go_simp;try with_reducible rfl) fun KK hKK => ?_;go_simp;refine hKK _ ?_;clear hKK KK))
    refine wpOrd_nil ?_
    show Kz _ _
    refine hKz _ _ ?_
    go_simp
    have HU2 : Hid (∀ i,i < 0 + 1 → e.hOk i) := fun i hi => by
     rcases Nat.lt_or_ge i 0 with h1 | h1
     ·exact HU.out i h1
     ·obtain rfl : i = 0 := by omega
      obtain ⟨e1,e2,e3,e4,e5⟩ := HHP.out
      exact ⟨by rw [e1];omega,by rw [e1];omega,fun h => absurd h (by omega),by rw [e2];omega,by rw [e2];omega,by rw [e3];omega,by rw [e3];omega,by rw [e4];omega,by rw [e4];omega⟩
    go_wp2
    go_roundw
    case rel => exact ⟨(HF.out _ HB7.out).1,0 + 1,by omega,by go_num,HU2.out⟩
    case measure => simp [intOf];omega
   ·obtain ⟨j,hj⟩ : ∃ j,k = j + 1 := ⟨k - 1,by omega⟩
    obtain ⟨P0,hP0⟩ : ∃ P0,(e.gh j).p = P0 := ⟨_,rfl⟩
    have HHJ : Hid (k = j + 1 ∧ (e.gh j).p = P0) := ⟨hj,hP0⟩
    have hpv : ∀ B,decide (P ≤ P0) = B → ∀ W,Below (wr.alloc (.cells #[.int .i64 P,.int .i64 J,.int .i64 L] 79)).heap.size (wr.alloc (.cells #[.int .i64 P,.int .i64 J,.int .i64 L] 79)) W → W.cell? ⟨hb0,ho + j * 3,none⟩ = some (.int .i64 P0) ∧ (k : Int) - 1 = (j : Int) ∧ IntKind.i64.wrap (j : Int) = (j : Int) ∧ ((0 : Int) ≤ (j : Int) ∧ (j : Int) < (N : Int)) ∧ decide (P ≤ P0) = B := fun B hB W hW =>
     ⟨by rw [(HHL.out W (HF.out W hW).1 j (by omega)).1,hP0],by omega,wrap_nat (by omega),by omega,hB⟩
    clear hj hP0
    by_cases bp : P ≤ P0
    case pos =>
     have HPV := Lib.hid (hpv true (decide_eq_true bp))
     clear hpv
     have HD : Hid (decide (P < 0) = false ∧ decide (64 ≤ P) = false ∧ decide (0 < (k : Int)) = true ∧ True ∧ True ∧ True) := ⟨decide_eq_false (by omega) ,decide_eq_false (by omega) ,decide_eq_true (by omega) ,True.intro ,True.intro ,True.intro⟩
     go_wp2
     rename_i Kz hKz
     generalize (wr.alloc (.cells #[.int .i64 P,.int .i64 J,.int .i64 L] 79)) = w7 at HF HB7 HPV ⊢
     refine wp_region_ord (fun w' => Below w7.heap.size w7 w') [(0,true),(1,true),(2,true),(3,true),(4,true),(5,true),(6,true),(7,true),(8,true),(9,true),(10,true),(11,true),(12,true),(13,true),(14,true),(15,true),(16,true),(17,true),(18,true),(19,true),(20,true),(21,true),(22,true),(23,true),(24,true),(25,true),(26,true),(27,false),(28,true),(29,true),(30,true),(31,true),(32,true),(33,false),(34,true),(35,true),(36,true),(37,true),(38,true),(39,true),(40,true),(41,true),(42,true),(43,true),(44,true),(45,true),(46,true),(47,true),(48,true),(49,true),(50,true),(51,true),(52,true),(53,true),(54,true),(55,true)] (by kernel_rfl) (by kernel_rfl) rfl (by kernel_rfl) (fun x _ _ _ _ h => by cases x <;> exact h) HB7.out ?_
     iterate 27 (first | (refine wpOrd_skip rfl (by rfl) fun KK hKK => ?_;go_simp;refine hKK _ ?_;clear hKK KK) | (refine wpOrd_take rfl _ (by rfl) (by intro w' hS;obtain ⟨g0,g1,g2,g3,r0,r2,r3⟩ := HF.out w' hS;obtain ⟨cw,i0,i1⟩ := CW.out;obtain ⟨d0,d1,d2,d3,d4,d5⟩ := HD.out;obtain ⟨p0,p1,p2,p3,p4⟩ := HPV.out w' hS;go_simp;try with_reducible rfl) fun KK hKK => ?_;go_simp;refine hKK _ ?_;clear hKK KK))
     refine wpOrd_pass rfl (by rfl) HB7.out fun KK hKK => ?_
     go_simp
     refine hKK _ ?_
     clear hKK KK
     iterate 5 (first | (refine wpOrd_skip rfl (by rfl) fun KK hKK => ?_;go_simp;refine hKK _ ?_;clear hKK KK) | (refine wpOrd_take rfl _ (by rfl) (by intro w' hS;obtain ⟨g0,g1,g2,g3,r0,r2,r3⟩ := HF.out w' hS;obtain ⟨cw,i0,i1⟩ := CW.out;obtain ⟨d0,d1,d2,d3,d4,d5⟩ := HD.out;obtain ⟨p0,p1,p2,p3,p4⟩ := HPV.out w' hS;go_simp;try with_reducible rfl) fun KK hKK => ?_;go_simp;refine hKK _ ?_;clear hKK KK))
     refine wpOrd_pass rfl (by rfl) HB7.out fun KK hKK => ?_
     go_simp
     refine hKK _ ?_
     clear hKK KK
     iterate 22 (first | (refine wpOrd_skip rfl (by rfl) fun KK hKK => ?_;go_simp;refine hKK _ ?_;clear hKK KK) | (refine wpOrd_take rfl _ (by rfl) (by intro w' hS;obtain ⟨g0,g1,g2,g3,r0,r2,r3⟩ := HF.out w' hS;obtain ⟨cw,i0,i1⟩ := CW.out;obtain ⟨d0,d1,d2,d3,d4,d5⟩ := HD.out;obtain ⟨p0,p1,p2,p3,p4⟩ := HPV.out w' hS;go_simp;try with_reducible rfl) fun KK hKK => ?_;go_simp;refine hKK _ ?_;clear hKK KK))
     refine wpOrd_nil ?_
     show Kz _ _
     refine hKz _ _ ?_
     go_simp
     go_wp2
     go_ret
     exact ⟨false,rfl,(fun h => by cases h),(HF.out _ HB7.out).1.bel⟩
    have HPV := Lib.hid (hpv false (decide_eq_false bp))
    clear hpv
    by_cases bj : 0 ≤ J ∧ J ≤ 1048576
    case neg =>
     have HJ : Hid (decide (0 ≤ J ∧ J ≤ 1048576) = false) := decide_eq_false (by omega)
     have HD : Hid (decide (P < 0) = false ∧ decide (64 ≤ P) = false ∧ decide (0 < (k : Int)) = true ∧ True ∧ True ∧ True) := ⟨decide_eq_false (by omega) ,decide_eq_false (by omega) ,decide_eq_true (by omega) ,True.intro ,True.intro ,True.intro⟩
     go_wp2
     rename_i Kz hKz
     generalize (wr.alloc (.cells #[.int .i64 P,.int .i64 J,.int .i64 L] 79)) = w7 at HF HB7 HPV ⊢
     refine wp_region_ord (fun w' => Below w7.heap.size w7 w') [(0,true),(1,true),(2,true),(3,true),(4,true),(5,true),(6,true),(7,true),(8,true),(9,true),(10,true),(11,true),(12,true),(13,true),(14,true),(15,true),(16,true),(17,true),(18,true),(19,true),(20,true),(21,true),(22,true),(23,true),(24,true),(25,true),(26,true),(27,false),(28,true),(29,true),(30,true),(31,true),(32,true),(33,false),(34,true),(35,true),(36,true),(37,true),(38,true),(39,true),(40,true),(41,true),(42,true),(43,true),(44,true),(45,true),(46,true),(47,true),(48,true),(49,true),(50,true),(51,true),(52,true),(53,true),(54,true),(55,true)] (by kernel_rfl) (by kernel_rfl) rfl (by kernel_rfl) (fun x _ _ _ _ h => by cases x <;> exact h) HB7.out ?_
     iterate 27 (first | (refine wpOrd_skip rfl (by rfl) fun KK hKK => ?_;go_simp;refine hKK _ ?_;clear hKK KK) | (refine wpOrd_take rfl _ (by rfl) (by intro w' hS;obtain ⟨g0,g1,g2,g3,r0,r2,r3⟩ := HF.out w' hS;obtain ⟨cw,i0,i1⟩ := CW.out;obtain ⟨d0,d1,d2,d3,d4,d5⟩ := HD.out;obtain ⟨p0,p1,p2,p3,p4⟩ := HPV.out w' hS;go_simp;try with_reducible rfl) fun KK hKK => ?_;go_simp;refine hKK _ ?_;clear hKK KK))
     refine wpOrd_force rfl (by rfl) fun KK hKK => ?_
     go_simp
     refine (HPR.out J _).mono ?_
     rw [HJ.out]
     rintro x w8 ⟨rfl,rfl⟩
     refine hKK _ _ HB7.out ?_
     clear hKK KK
     iterate 5 (first | (refine wpOrd_skip rfl (by rfl) fun KK hKK => ?_;go_simp;refine hKK _ ?_;clear hKK KK) | (refine wpOrd_take rfl _ (by rfl) (by intro w' hS;obtain ⟨g0,g1,g2,g3,r0,r2,r3⟩ := HF.out w' hS;obtain ⟨cw,i0,i1⟩ := CW.out;obtain ⟨d0,d1,d2,d3,d4,d5⟩ := HD.out;obtain ⟨p0,p1,p2,p3,p4⟩ := HPV.out w' hS;go_simp;try with_reducible rfl) fun KK hKK => ?_;go_simp;refine hKK _ ?_;clear hKK KK))
     refine wpOrd_pass rfl (by rfl) HB7.out fun KK hKK => ?_
     go_simp
     refine hKK _ ?_
     clear hKK KK
     iterate 22 (first | (refine wpOrd_skip rfl (by rfl) fun KK hKK => ?_;go_simp;refine hKK _ ?_;clear hKK KK) | (refine wpOrd_take rfl _ (by rfl) (by intro w' hS;obtain ⟨g0,g1,g2,g3,r0,r2,r3⟩ := HF.out w' hS;obtain ⟨cw,i0,i1⟩ := CW.out;obtain ⟨d0,d1,d2,d3,d4,d5⟩ := HD.out;obtain ⟨p0,p1,p2,p3,p4⟩ := HPV.out w' hS;go_simp;try with_reducible rfl) fun KK hKK => ?_;go_simp;refine hKK _ ?_;clear hKK KK))
     refine wpOrd_nil ?_
     show Kz _ _
     refine hKz _ _ ?_
     go_simp
     go_wp2
     go_ret
     exact ⟨false,rfl,(fun h => by cases h),(HF.out _ HB7.out).1.bel⟩
    by_cases bl : 0 ≤ L ∧ L ≤ 1048576
    case neg =>
     have HJ : Hid (decide (0 ≤ J ∧ J ≤ 1048576) = true) := decide_eq_true (by omega)
     have HL : Hid (decide (0 ≤ L ∧ L ≤ 1048576) = false) := decide_eq_false (by omega)
     have HD : Hid (decide (P < 0) = false ∧ decide (64 ≤ P) = false ∧ decide (0 < (k : Int)) = true ∧ True ∧ True ∧ True) := ⟨decide_eq_false (by omega) ,decide_eq_false (by omega) ,decide_eq_true (by omega) ,True.intro ,True.intro ,True.intro⟩
     go_wp2
     rename_i Kz hKz
     generalize (wr.alloc (.cells #[.int .i64 P,.int .i64 J,.int .i64 L] 79)) = w7 at HF HB7 HPV ⊢
     refine wp_region_ord (fun w' => Below w7.heap.size w7 w') [(0,true),(1,true),(2,true),(3,true),(4,true),(5,true),(6,true),(7,true),(8,true),(9,true),(10,true),(11,true),(12,true),(13,true),(14,true),(15,true),(16,true),(17,true),(18,true),(19,true),(20,true),(21,true),(22,true),(23,true),(24,true),(25,true),(26,true),(27,false),(28,true),(29,true),(30,true),(31,true),(32,true),(33,false),(34,true),(35,true),(36,true),(37,true),(38,true),(39,true),(40,true),(41,true),(42,true),(43,true),(44,true),(45,true),(46,true),(47,true),(48,true),(49,true),(50,true),(51,true),(52,true),(53,true),(54,true),(55,true)] (by kernel_rfl) (by kernel_rfl) rfl (by kernel_rfl) (fun x _ _ _ _ h => by cases x <;> exact h) HB7.out ?_
     iterate 27 (first | (refine wpOrd_skip rfl (by rfl) fun KK hKK => ?_;go_simp;refine hKK _ ?_;clear hKK KK) | (refine wpOrd_take rfl _ (by rfl) (by intro w' hS;obtain ⟨g0,g1,g2,g3,r0,r2,r3⟩ := HF.out w' hS;obtain ⟨cw,i0,i1⟩ := CW.out;obtain ⟨d0,d1,d2,d3,d4,d5⟩ := HD.out;obtain ⟨p0,p1,p2,p3,p4⟩ := HPV.out w' hS;go_simp;try with_reducible rfl) fun KK hKK => ?_;go_simp;refine hKK _ ?_;clear hKK KK))
     refine wpOrd_force rfl (by rfl) fun KK hKK => ?_
     go_simp
     refine (HPR.out J _).mono ?_
     rw [HJ.out]
     rintro x w8 ⟨rfl,rfl⟩
     refine hKK _ _ HB7.out ?_
     clear hKK KK
     iterate 5 (first | (refine wpOrd_skip rfl (by rfl) fun KK hKK => ?_;go_simp;refine hKK _ ?_;clear hKK KK) | (refine wpOrd_take rfl _ (by rfl) (by intro w' hS;obtain ⟨g0,g1,g2,g3,r0,r2,r3⟩ := HF.out w' hS;obtain ⟨cw,i0,i1⟩ := CW.out;obtain ⟨d0,d1,d2,d3,d4,d5⟩ := HD.out;obtain ⟨p0,p1,p2,p3,p4⟩ := HPV.out w' hS;go_simp;try with_reducible rfl) fun KK hKK => ?_;go_simp;refine hKK _ ?_;clear hKK KK))
     refine wpOrd_force rfl (by rfl) fun KK hKK => ?_
     go_simp
     refine (HPR.out L _).mono ?_
     rw [HL.out]
     rintro x w8 ⟨rfl,rfl⟩
     refine hKK _ _ HB7.out ?_
     clear hKK KK
     iterate 22 (first | (refine wpOrd_skip rfl (by rfl) fun KK hKK => ?_;go_simp;refine hKK _ ?_;clear hKK KK) | (refine wpOrd_take rfl _ (by rfl) (by intro w' hS;obtain ⟨g0,g1,g2,g3,r0,r2,r3⟩ := HF.out w' hS;obtain ⟨cw,i0,i1⟩ := CW.out;obtain ⟨d0,d1,d2,d3,d4,d5⟩ := HD.out;obtain ⟨p0,p1,p2,p3,p4⟩ := HPV.out w' hS;go_simp;try with_reducible rfl) fun KK hKK => ?_;go_simp;refine hKK _ ?_;clear hKK KK))
     refine wpOrd_nil ?_
     show Kz _ _
     refine hKz _ _ ?_
     go_simp
     go_wp2
     go_ret
     exact ⟨false,rfl,(fun h => by cases h),(HF.out _ HB7.out).1.bel⟩
    by_cases bv : V < 1
    case pos =>
     have HJ : Hid (decide (0 ≤ J ∧ J ≤ 1048576) = true) := decide_eq_true (by omega)
     have HL : Hid (decide (0 ≤ L ∧ L ≤ 1048576) = true) := decide_eq_true (by omega)
     have HD : Hid (decide (P < 0) = false ∧ decide (64 ≤ P) = false ∧ decide (0 < (k : Int)) = true ∧ True ∧ decide (V < 1) = true ∧ True) := ⟨decide_eq_false (by omega) ,decide_eq_false (by omega) ,decide_eq_true (by omega) ,True.intro ,decide_eq_true (by omega) ,True.intro⟩
     go_wp2
     rename_i Kz hKz
     generalize (wr.alloc (.cells #[.int .i64 P,.int .i64 J,.int .i64 L] 79)) = w7 at HF HB7 HPV ⊢
     refine wp_region_ord (fun w' => Below w7.heap.size w7 w') [(0,true),(1,true),(2,true),(3,true),(4,true),(5,true),(6,true),(7,true),(8,true),(9,true),(10,true),(11,true),(12,true),(13,true),(14,true),(15,true),(16,true),(17,true),(18,true),(19,true),(20,true),(21,true),(22,true),(23,true),(24,true),(25,true),(26,true),(27,false),(28,true),(29,true),(30,true),(31,true),(32,true),(33,false),(34,true),(35,true),(36,true),(37,true),(38,true),(39,true),(40,true),(41,true),(42,true),(43,true),(44,true),(45,true),(46,true),(47,true),(48,true),(49,true),(50,true),(51,true),(52,true),(53,true),(54,true),(55,true)] (by kernel_rfl) (by kernel_rfl) rfl (by kernel_rfl) (fun x _ _ _ _ h => by cases x <;> exact h) HB7.out ?_
     iterate 27 (first | (refine wpOrd_skip rfl (by rfl) fun KK hKK => ?_;go_simp;refine hKK _ ?_;clear hKK KK) | (refine wpOrd_take rfl _ (by rfl) (by intro w' hS;obtain ⟨g0,g1,g2,g3,r0,r2,r3⟩ := HF.out w' hS;obtain ⟨cw,i0,i1⟩ := CW.out;obtain ⟨d0,d1,d2,d3,d4,d5⟩ := HD.out;obtain ⟨p0,p1,p2,p3,p4⟩ := HPV.out w' hS;go_simp;try with_reducible rfl) fun KK hKK => ?_;go_simp;refine hKK _ ?_;clear hKK KK))
     refine wpOrd_force rfl (by rfl) fun KK hKK => ?_
     go_simp
     refine (HPR.out J _).mono ?_
     rw [HJ.out]
     rintro x w8 ⟨rfl,rfl⟩
     refine hKK _ _ HB7.out ?_
     clear hKK KK
     iterate 5 (first | (refine wpOrd_skip rfl (by rfl) fun KK hKK => ?_;go_simp;refine hKK _ ?_;clear hKK KK) | (refine wpOrd_take rfl _ (by rfl) (by intro w' hS;obtain ⟨g0,g1,g2,g3,r0,r2,r3⟩ := HF.out w' hS;obtain ⟨cw,i0,i1⟩ := CW.out;obtain ⟨d0,d1,d2,d3,d4,d5⟩ := HD.out;obtain ⟨p0,p1,p2,p3,p4⟩ := HPV.out w' hS;go_simp;try with_reducible rfl) fun KK hKK => ?_;go_simp;refine hKK _ ?_;clear hKK KK))
     refine wpOrd_force rfl (by rfl) fun KK hKK => ?_
     go_simp
     refine (HPR.out L _).mono ?_
     rw [HL.out]
     rintro x w8 ⟨rfl,rfl⟩
     refine hKK _ _ HB7.out ?_
     clear hKK KK
     iterate 22 (first | (refine wpOrd_skip rfl (by rfl) fun KK hKK => ?_;go_simp;refine hKK _ ?_;clear hKK KK) | (refine wpOrd_take rfl _ (by rfl) (by intro w' hS;obtain ⟨g0,g1,g2,g3,r0,r2,r3⟩ := HF.out w' hS;obtain ⟨cw,i0,i1⟩ := CW.out;obtain ⟨d0,d1,d2,d3,d4,d5⟩ := HD.out;obtain ⟨p0,p1,p2,p3,p4⟩ := HPV.out w' hS;go_simp;try with_reducible rfl) fun KK hKK => ?_;go_simp;refine hKK _ ?_;clear hKK KK))
     refine wpOrd_nil ?_
     show Kz _ _
     refine hKz _ _ ?_
     go_simp
     go_wp2
     go_ret
     exact ⟨false,rfl,(fun h => by cases h),(HF.out _ HB7.out).1.bel⟩
    by_cases bw : (K1 : Int) < V
    case pos =>
     have HJ : Hid (decide (0 ≤ J ∧ J ≤ 1048576) = true) := decide_eq_true (by omega)
     have HL : Hid (decide (0 ≤ L ∧ L ≤ 1048576) = true) := decide_eq_true (by omega)
     have HD : Hid (decide (P < 0) = false ∧ decide (64 ≤ P) = false ∧ decide (0 < (k : Int)) = true ∧ True ∧ decide (V < 1) = false ∧ decide ((K1 : Int) < V) = true) := ⟨decide_eq_false (by omega) ,decide_eq_false (by omega) ,decide_eq_true (by omega) ,True.intro ,decide_eq_false (by omega) ,decide_eq_true (by omega)⟩
     go_wp2
     rename_i Kz hKz
     generalize (wr.alloc (.cells #[.int .i64 P,.int .i64 J,.int .i64 L] 79)) = w7 at HF HB7 HPV ⊢
     refine wp_region_ord (fun w' => Below w7.heap.size w7 w') [(0,true),(1,true),(2,true),(3,true),(4,true),(5,true),(6,true),(7,true),(8,true),(9,true),(10,true),(11,true),(12,true),(13,true),(14,true),(15,true),(16,true),(17,true),(18,true),(19,true),(20,true),(21,true),(22,true),(23,true),(24,true),(25,true),(26,true),(27,false),(28,true),(29,true),(30,true),(31,true),(32,true),(33,false),(34,true),(35,true),(36,true),(37,true),(38,true),(39,true),(40,true),(41,true),(42,true),(43,true),(44,true),(45,true),(46,true),(47,true),(48,true),(49,true),(50,true),(51,true),(52,true),(53,true),(54,true),(55,true)] (by kernel_rfl) (by kernel_rfl) rfl (by kernel_rfl) (fun x _ _ _ _ h => by cases x <;> exact h) HB7.out ?_
     iterate 27 (first | (refine wpOrd_skip rfl (by rfl) fun KK hKK => ?_;go_simp;refine hKK _ ?_;clear hKK KK) | (refine wpOrd_take rfl _ (by rfl) (by intro w' hS;obtain ⟨g0,g1,g2,g3,r0,r2,r3⟩ := HF.out w' hS;obtain ⟨cw,i0,i1⟩ := CW.out;obtain ⟨d0,d1,d2,d3,d4,d5⟩ := HD.out;obtain ⟨p0,p1,p2,p3,p4⟩ := HPV.out w' hS;go_simp;try with_reducible rfl) fun KK hKK => ?_;go_simp;refine hKK _ ?_;clear hKK KK))
     refine wpOrd_force rfl (by rfl) fun KK hKK => ?_
     go_simp
     refine (HPR.out J _).mono ?_
     rw [HJ.out]
     rintro x w8 ⟨rfl,rfl⟩
     refine hKK _ _ HB7.out ?_
     clear hKK KK
     iterate 5 (first | (refine wpOrd_skip rfl (by rfl) fun KK hKK => ?_;go_simp;refine hKK _ ?_;clear hKK KK) | (refine wpOrd_take rfl _ (by rfl) (by intro w' hS;obtain ⟨g0,g1,g2,g3,r0,r2,r3⟩ := HF.out w' hS;obtain ⟨cw,i0,i1⟩ := CW.out;obtain ⟨d0,d1,d2,d3,d4,d5⟩ := HD.out;obtain ⟨p0,p1,p2,p3,p4⟩ := HPV.out w' hS;go_simp;try with_reducible rfl) fun KK hKK => ?_;go_simp;refine hKK _ ?_;clear hKK KK))
     refine wpOrd_force rfl (by rfl) fun KK hKK => ?_
     go_simp
     refine (HPR.out L _).mono ?_
     rw [HL.out]
     rintro x w8 ⟨rfl,rfl⟩
     refine hKK _ _ HB7.out ?_
     clear hKK KK
     iterate 22 (first | (refine wpOrd_skip rfl (by rfl) fun KK hKK => ?_;go_simp;refine hKK _ ?_;clear hKK KK) | (refine wpOrd_take rfl _ (by rfl) (by intro w' hS;obtain ⟨g0,g1,g2,g3,r0,r2,r3⟩ := HF.out w' hS;obtain ⟨cw,i0,i1⟩ := CW.out;obtain ⟨d0,d1,d2,d3,d4,d5⟩ := HD.out;obtain ⟨p0,p1,p2,p3,p4⟩ := HPV.out w' hS;go_simp;try with_reducible rfl) fun KK hKK => ?_;go_simp;refine hKK _ ?_;clear hKK KK))
     refine wpOrd_nil ?_
     show Kz _ _
     refine hKz _ _ ?_
     go_simp
     go_wp2
     go_ret
     exact ⟨false,rfl,(fun h => by cases h),(HF.out _ HB7.out).1.bel⟩
    have HJ : Hid (decide (0 ≤ J ∧ J ≤ 1048576) = true) := decide_eq_true (by omega)
    have HL : Hid (decide (0 ≤ L ∧ L ≤ 1048576) = true) := decide_eq_true (by omega)
    have HD : Hid (decide (P < 0) = false ∧ decide (64 ≤ P) = false ∧ decide (0 < (k : Int)) = true ∧ True ∧ decide (V < 1) = false ∧ decide ((K1 : Int) < V) = false) := ⟨decide_eq_false (by omega) ,decide_eq_false (by omega) ,decide_eq_true (by omega) ,True.intro ,decide_eq_false (by omega) ,decide_eq_false (by omega)⟩
    go_wp2
    rename_i Kz hKz
    generalize (wr.alloc (.cells #[.int .i64 P,.int .i64 J,.int .i64 L] 79)) = w7 at HF HB7 HPV ⊢
    refine wp_region_ord (fun w' => Below w7.heap.size w7 w') [(0,true),(1,true),(2,true),(3,true),(4,true),(5,true),(6,true),(7,true),(8,true),(9,true),(10,true),(11,true),(12,true),(13,true),(14,true),(15,true),(16,true),(17,true),(18,true),(19,true),(20,true),(21,true),(22,true),(23,true),(24,true),(25,true),(26,true),(27,false),(28,true),(29,true),(30,true),(31,true),(32,true),(33,false),(34,true),(35,true),(36,true),(37,true),(38,true),(39,true),(40,true),(41,true),(42,true),(43,true),(44,true),(45,true),(46,true),(47,true),(48,true),(49,true),(50,true),(51,true),(52,true),(53,true),(54,true),(55,true)] (by kernel_rfl) (by kernel_rfl) rfl (by kernel_rfl) (fun x _ _ _ _ h => by cases x <;> exact h) HB7.out ?_
    iterate 27 (first | (refine wpOrd_skip rfl (by rfl) fun KK hKK => ?_;go_simp;refine hKK _ ?_;clear hKK KK) | (refine wpOrd_take rfl _ (by rfl) (by intro w' hS;obtain ⟨g0,g1,g2,g3,r0,r2,r3⟩ := HF.out w' hS;obtain ⟨cw,i0,i1⟩ := CW.out;obtain ⟨d0,d1,d2,d3,d4,d5⟩ := HD.out;obtain ⟨p0,p1,p2,p3,p4⟩ := HPV.out w' hS;go_simp;try with_reducible rfl) fun KK hKK => ?_;go_simp;refine hKK _ ?_;clear hKK KK))
    refine wpOrd_force rfl (by rfl) fun KK hKK => ?_
    go_simp
    refine (HPR.out J _).mono ?_
    rw [HJ.out]
    rintro x w8 ⟨rfl,rfl⟩
    refine hKK _ _ HB7.out ?_
    clear hKK KK
    iterate 5 (first | (refine wpOrd_skip rfl (by rfl) fun KK hKK => ?_;go_simp;refine hKK _ ?_;clear hKK KK) | (refine wpOrd_take rfl _ (by rfl) (by intro w' hS;obtain ⟨g0,g1,g2,g3,r0,r2,r3⟩ := HF.out w' hS;obtain ⟨cw,i0,i1⟩ := CW.out;obtain ⟨d0,d1,d2,d3,d4,d5⟩ := HD.out;obtain ⟨p0,p1,p2,p3,p4⟩ := HPV.out w' hS;go_simp;try with_reducible rfl) fun KK hKK => ?_;go_simp;refine hKK _ ?_;clear hKK KK))
    refine wpOrd_force rfl (by rfl) fun KK hKK => ?_
    go_simp
    refine (HPR.out L _).mono ?_
    rw [HL.out]
    rintro x w8 ⟨rfl,rfl⟩
    refine hKK _ _ HB7.out ?_
    clear hKK KK
    iterate 22 (first | (refine wpOrd_skip rfl (by rfl) fun KK hKK => ?_;go_simp;refine hKK _ ?_;clear hKK KK) | (refine wpOrd_take rfl _ (by rfl) (by intro w' hS;obtain ⟨g0,g1,g2,g3,r0,r2,r3⟩ := HF.out w' hS;obtain ⟨cw,i0,i1⟩ := CW.out;obtain ⟨d0,d1,d2,d3,d4,d5⟩ := HD.out;obtain ⟨p0,p1,p2,p3,p4⟩ := HPV.out w' hS;go_simp;try with_reducible rfl) fun KK hKK => ?_;go_simp;refine hKK _ ?_;clear hKK KK))
    refine wpOrd_nil ?_
    show Kz _ _
    refine hKz _ _ ?_
    go_simp
    have HU2 : Hid (∀ i,i < k + 1 → e.hOk i) := fun i hi => by
     rcases Nat.lt_or_ge i k with h1 | h1
     ·exact HU.out i h1
     ·obtain rfl : i = k := by omega
      obtain ⟨e1,e2,e3,e4,e5⟩ := HHP.out
      exact ⟨by rw [e1];omega,by rw [e1];omega,fun _ => by rw [e1,show i - 1 = j by have := HHJ.out.1;omega,HHJ.out.2];omega,by rw [e2];omega,by rw [e2];omega,by rw [e3];omega,by rw [e3];omega,by rw [e4];omega,by rw [e4];omega⟩
    go_wp2
    go_roundw
    case rel => exact ⟨(HF.out _ HB7.out).1,k + 1,by omega,by go_num,HU2.out⟩
    case measure => simp [intOf];omega
  ·obtain rfl : k = N := by omega
   have HVA : Hid (∀ i,i < VN → ∃ b o r,e.vA = some ⟨b,o,none⟩ ∧ b < w.heap.size ∧ r ∈ e.V ∧ e.V[i]? = some r ∧ ∀ W,Below w.heap.size w W → W.cell? ⟨b,o + i,none⟩ = some r.cell) := fun i hi => never_at HOK.out (by rw [HVN.out];exact hi)
   rw [HvA.out] at HVA
   go_wp2
   go_loopw [5] (fun i wr => Boxed1 e w wr ∧ ∃ j : Nat,j ≤ VN ∧ i = .int .i64 j ∧ ∀ r ∈ e.V.take j,e.isH r.d r.d.length) (fun i _ => VN - (intOf i).toNat)
   case atStart => exact ⟨HX.out,0,Nat.zero_le _,rfl,fun r hr => by simp at hr⟩
   case round =>
    rename_i wr2 _ _
    clear HX q0 q1 q2 q3 q4
    obtain ⟨hX,j,hj,rfl,hu2⟩ := hrel
    obtain ⟨q0,q1,q2,q3,q4⟩ := HQ.out _ hX
    have HX := Lib.hid hX
    have HU2 := Lib.hid hu2
    clear hX hu2
    by_cases hlt : j < VN
    ·have j1 : (j : Int) < (VN : Int) := by omega
     have j0 : (0 : Int) ≤ (j : Int) := by omega
     obtain ⟨b,o,r,hA1,hb,hrm,hrk,hcell⟩ := HVA.out j hlt
     subst hA1
     obtain ⟨RC,hRC⟩ : ∃ RC,r.cell = RC := ⟨_,rfl⟩
     have HA2 : Hid (∀ W,Boxed1 e w W → Calls Tryz.prog 35 #[.agg CS.toArray,RC] W fun x w' => ∃ b,x = .returned (.bool b) ∧ (b = true → e.isH r.d r.d.length) ∧ Below W.heap.size W w') := fun W hW => by rw [← hRC];exact HHE.out r (.inr (.inr hrm)) W hW
     have HC : Hid (∀ W,Boxed1 e w W → W.cell? ⟨w.heap.size,4,none⟩ = some (.slice (some ⟨b,o,none⟩) VN vc) ∧ W.cell? ⟨b,o + j,none⟩ = some RC) := fun W hW => ⟨(HQ.out W hW).2.2.2.2,by rw [← hRC];exact hcell W hW.bel⟩
     have HU3 : Hid (e.isH r.d r.d.length → ∀ r' ∈ e.V.take (j + 1),e.isH r'.d r'.d.length) := fun hh r' hr' => by
      rw [List.take_add_one,hrk,List.mem_append] at hr'
      rcases hr' with h1 | h1
      ·exact HU2.out r' h1
      ·obtain rfl : r' = r := by simpa using h1
       exact hh
     clear hrk hrm hcell hRC
     go_wp2
     rename_i Kz hKz
     refine wp_region_ord (fun w' => Boxed1 e w w') [(0,true),(1,true),(2,true),(3,true),(4,true),(5,true),(6,false),(7,true)] (by kernel_rfl) (by kernel_rfl) rfl (by kernel_rfl) (fun x _ _ _ _ h => by cases x <;> exact h) HX.out.drew ?_
     refine wpOrd_take rfl _ (by rfl) (fun w' hS => run_load_exec 26 _ rfl ⟨w.heap.size,0,none⟩ (by rfl) CS _ (fun i v hv => by rw [Addr.add_flat,Nat.zero_add];exact HCS.out w' hS i v hv) Tryz.underlying26 (by rfl) HI.out) fun KK hKK => ?_
     go_simp
     refine hKK _ ?_
     clear hKK KK
     iterate 5 (first | (refine wpOrd_skip rfl (by rfl) fun KK hKK => ?_;go_simp;refine hKK _ ?_;clear hKK KK) | (refine wpOrd_take rfl _ (by rfl) (by intro w' hS;obtain ⟨c4,c5⟩ := HC.out w' hS;go_simp;try with_reducible rfl) fun KK hKK => ?_;go_simp;refine hKK _ ?_;clear hKK KK))
     refine wpOrd_force rfl (by rfl) fun KK hKK => ?_
     go_simp
     refine (HA2.out _ HX.out.drew).mono ?_
     rintro x w1 ⟨b1,rfl,hm1,hb1⟩
     refine hKK _ _ (HX.out.drew.next hb1) ?_
     clear hKK KK
     have HX1 := Lib.hid (HX.out.drew.next hb1)
     clear hb1
     cases b1 with
     | false =>
      iterate 1 (first | (refine wpOrd_skip rfl (by rfl) fun KK hKK => ?_;go_simp;refine hKK _ ?_;clear hKK KK) | (refine wpOrd_take rfl _ (by rfl) (by intro w' hS;skip;go_simp;try with_reducible rfl) fun KK hKK => ?_;go_simp;refine hKK _ ?_;clear hKK KK))
      refine wpOrd_nil ?_
      show Kz _ _
      refine hKz _ _ ?_
      go_simp
      go_wp2
      go_ret
      exact ⟨false,rfl,(fun h => by cases h),HX1.out.bel⟩
     | true =>
      have HU4 := Lib.hid (HU3.out (hm1 rfl))
      clear hm1
      iterate 1 (first | (refine wpOrd_skip rfl (by rfl) fun KK hKK => ?_;go_simp;refine hKK _ ?_;clear hKK KK) | (refine wpOrd_take rfl _ (by rfl) (by intro w' hS;skip;go_simp;try with_reducible rfl) fun KK hKK => ?_;go_simp;refine hKK _ ?_;clear hKK KK))
      refine wpOrd_nil ?_
      show Kz _ _
      refine hKz _ _ ?_
      go_simp
      go_wp2
      go_roundw
      case rel => exact ⟨HX1.out,j + 1,by omega,by go_num,HU4.out⟩
      case measure => simp [intOf];omega
    ·obtain rfl : j = VN := by omega
     go_wp2
     go_ret
     exact ⟨true,rfl,fun _ => ⟨by rw [HN.out];omega,by rw [HNN.out,HN.out],HZ0.out,HMM.out,HAA.out,fun i hi => HU.out i (by rw [HN.out] at hi;exact hi),fun r hr => HU2.out r (by rw [List.take_of_length_le (by rw [HVN.out];omega)];exact hr)⟩,HX.out.bel⟩
end Go.Proofs.YtjcpjhlclpdpjaaGreat
