import Derived.ChangeSlices
import Derived.Deep.SlicePairs
import Derived.OpenShut
import Derived.Test.YtifejdpffkeniaaGreatDoorS28
import Derived.Test.YtifejdpffkeniaaGreatDoorS27
set_option linter.unusedVariables false
set_option maxRecDepth 100000
set_option maxHeartbeats 40000000
namespace Go.Proofs.YtifejdpffkeniaaGreatDoor
open Go.RowKit
attribute [local go_sem] Oper.semAt_some
theorem top_any (K : Sh.Cst) (e : Inp) (co : Int) (w : World) (h : e.ok w w.heap.size) (hL : Laid w) :
  Calls Tryz.prog 3 #[e.prog,.int .i64 e.x0,e.R.cell,e.L.cell,e.sd.cell,.agg e.docs.toArray,.slice e.SA e.S.length e.sc,.int .u16 co] w fun r w' => r = .returned (.bool true) ∧ Below w.heap.size w w' := by
 unfold Inp.prog RI.cell;obtain ⟨RA,hRA⟩ : ∃ x,e.RA = x := ⟨_,rfl⟩;obtain ⟨nr,hnr⟩ : ∃ x,e.rs.length = x := ⟨_,rfl⟩;obtain ⟨rc,hrc⟩ : ∃ x,e.rc = x := ⟨_,rfl⟩;obtain ⟨OA,hOA⟩ : ∃ x,e.ow.A = x := ⟨_,rfl⟩;obtain ⟨np,hnp⟩ : ∃ x,e.ow.d.length = x := ⟨_,rfl⟩;obtain ⟨oc,hoc⟩ : ∃ x,e.ow.c = x := ⟨_,rfl⟩;obtain ⟨x0,hx0⟩ : ∃ x,e.x0 = x := ⟨_,rfl⟩;obtain ⟨XA,hXA⟩ : ∃ x,e.R.A = x := ⟨_,rfl⟩;obtain ⟨rn,hrn⟩ : ∃ x,e.R.d.length = x := ⟨_,rfl⟩;obtain ⟨xc,hxc⟩ : ∃ x,e.R.c = x := ⟨_,rfl⟩;obtain ⟨LA,hLA⟩ : ∃ x,e.L.A = x := ⟨_,rfl⟩;obtain ⟨n,hn⟩ : ∃ x,e.L.d.length = x := ⟨_,rfl⟩;obtain ⟨lc,hlc⟩ : ∃ x,e.L.c = x := ⟨_,rfl⟩;obtain ⟨SdA,hSdA⟩ : ∃ x,e.sd.A = x := ⟨_,rfl⟩;obtain ⟨m,hm⟩ : ∃ x,e.sd.d.length = x := ⟨_,rfl⟩;obtain ⟨sdc,hsdc⟩ : ∃ x,e.sd.c = x := ⟨_,rfl⟩;obtain ⟨SA,hSA⟩ : ∃ x,e.SA = x := ⟨_,rfl⟩;obtain ⟨q,hq⟩ : ∃ x,e.S.length = x := ⟨_,rfl⟩;obtain ⟨sc,hsc⟩ : ∃ x,e.sc = x := ⟨_,rfl⟩;obtain ⟨DD,hDD⟩ : ∃ x,e.docs = x := ⟨_,rfl⟩;obtain ⟨N,hN⟩ : ∃ x,e.N = x := ⟨_,rfl⟩;rw [hRA,hnr,hrc,hOA,hnp,hoc,hx0,hXA,hrn,hxc,hLA,hn,hlc,hSdA,hm,hsdc,hSA,hq,hsc,hDD];obtain ⟨s,hs⟩ : ∃ s,w.heap.size = s := ⟨_,rfl⟩;obtain ⟨w0,hw0⟩ : ∃ w0,((w.alloc (.cells #[.slice RA nr rc,.slice OA np oc] 25)).alloc (.cells DD.toArray 30)) = w0 := ⟨_,rfl⟩;have hb0 : Below s w w0 := by rw [← hw0,← hs];exact ((Below.refl _ w).alloc (Nat.le_refl _) _).alloc (by simp) _
 have hz0 : w0.heap.size = s + 2 := by rw [← hw0];simp [hs]
 have hr0 : Row w0 s 25 [.slice RA nr rc,.slice OA np oc] := by rw [← hw0];exact (Row.fresh' _ _ _ hs).alloc _
 have hr1 : Row w0 (s + 1) 30 DD := by rw [← hw0];exact Row.fresh' _ _ _ (by simp [hs])
 have H0 : Hid (∀ W,Below w0.heap.size w0 W →  e.ok W W.heap.size) := fun W hW => (((h.below (by rw [hs];exact hb0)).more hb0.size).below hW).more hW.size;have HLA : Hid (∀ W,Below w0.heap.size w0 W →  Laid W) := fun W hW => (hL.below (by rw [hs];exact hb0) hL.size).below hW (by have := hL.size;omega);have HTG : Hid (∀ W,Below w0.heap.size w0 W →  Calls Tryz.prog 4 #[.agg #[.int .i64 0,.int .i64 0,.int .i64 0],.int .i64 0,.int .i64 0,.bool false] W fun r w' => r = .returned (.tuple #[.int .i64 0,.int .i64 470]) ∧ Below W.heap.size W w') := fun W hW => tcall K 0 0 0 0 0 false (Du.tagR_silent (by decide)) W (HLA.out W hW)
 have HFT : Hid (∀ W,Below w0.heap.size w0 W →  Calls Tryz.prog 5 #[(.agg #[.slice RA nr rc,.slice OA np oc]),.int .i64 x0,.slice XA rn xc,.slice LA n lc,.slice SdA m sdc,.agg DD.toArray,.slice SA q sc] W fun r w' => BQ e.fit r ∧ Below W.heap.size W w') := fun W hW => by
  subst_vars
  exact fits47_any e W (H0.out W hW)
 have HNR : Hid (e.fit → nr = np) := fun hf => by subst_vars;exact (Inp.plen hf).1
 have HDL : Hid (e.fit → ∀ W,Below w0.heap.size w0 W →  Calls Tryz.prog 6 #[(.agg #[.slice RA np rc,.slice OA np oc]),.int .i64 x0,.slice XA rn xc] W fun r w' => (∃ A c A2 c2,r = .returned (.tuple #[.slice A np c,.slice A2 N c2,.int .i64 0]) ∧ Rd w' w'.heap.size 2 A np (shc (e.rs.map RI.d) (e.x0 :: e.R.d) np) ∧ np ≤ c ∧ c ≤ maxLen ∧ Rd w' w'.heap.size 1 A2 N (ivs (cms (e.x0 :: e.R.d) N)) ∧ N ≤ c2 ∧ c2 ≤ maxLen) ∧ Below W.heap.size W w') := fun hf W hW => by
  subst_vars
  have h0 := H0.out W hW;exact deal_any e.N e.ow.d e.RA e.rc e.ow.A e.ow.c e.rs e.x0 e.R.d e.R.A e.R.c W (h0.prgok hf) (Inp.e0 hf) (Inp.own hf) (Inp.n1 hf).1 (by have := (Inp.n1 hf).2;omega) (by have := (Inp.plen hf).2;omega) ⟨by have := hf.x0;omega,hf.x0.2⟩ hf.rr h0.R.1 hf.rl
 have HAC : Hid (e.fit → ∀ W,Below w0.heap.size w0 W →  Calls Tryz.prog 7 #[(.agg #[.slice RA np rc,.slice OA np oc]),.slice LA n lc] W fun r w' => (∃ v b us,r = .returned (.tuple #[v,.bool b,.int .i64 0]) ∧ AccR e.N (e.rs.map RI.d) e.ow.d e.L.d b us) ∧ Below W.heap.size W w') := fun hf W hW => by
  subst_vars
  have h0 := H0.out W hW;refine (acc_any e.N e.ow.d e.L.d e.RA e.rc e.ow.A e.ow.c e.rs e.L.A e.L.c W (h0.prgok hf) (Inp.e0 hf) (Inp.own hf) (Inp.n1 hf).1 (by have := (Inp.n1 hf).2;omega) (by have := (Inp.plen hf).2;omega) hf.ppl h0.L.1).mono ?_;rintro r w' ⟨⟨v,b,us,h1,h2,_⟩,h4⟩;exact ⟨⟨v,b,us,h1,h2⟩,h4⟩
 have HNP : Hid (e.fit → 1 ≤ N ∧ N ≤ 16 ∧ 1 ≤ n ∧ n ≤ 6 ∧ m = n ∧ q = n ∧ np ≤ 16) := fun hf => by subst_vars;exact ⟨(Inp.n1 hf).1,(Inp.n1 hf).2,hf.l0,hf.l6,hf.sl,hf.sn,(Inp.plen hf).2⟩
 have HLR : Hid (0 < n → ∃ b o,LA = some ⟨b,o,none⟩ ∧ ∀ k,k < n → ∀ W,Below w0.heap.size w0 W →  W.cell? ⟨b,o + k,none⟩ = some (.int .i64 (e.L.d.getD k 0))) := fun h0 => by
  subst_vars
  obtain ⟨b,o,e1,_,hc⟩ := RI.at (H0.out _ (Below.refl _ _)).L h0;exact ⟨b,o,e1,hc⟩
 have HSR : Hid (0 < m → ∃ b o,SdA = some ⟨b,o,none⟩ ∧ ∀ k,k < m → ∀ W,Below w0.heap.size w0 W →  W.cell? ⟨b,o + k,none⟩ = some (.int .i64 (e.sd.d.getD k 0))) := fun h0 => by
  subst_vars
  obtain ⟨b,o,e1,_,hc⟩ := RI.at (H0.out _ (Below.refl _ _)).sd h0;exact ⟨b,o,e1,hc⟩
 have HKR : Hid (e.fit → ∀ k,k < n → (0 ≤ e.L.d.getD k 0 ∧ e.L.d.getD k 0 < 64) ∧ (0 ≤ e.sd.d.getD k 0 ∧ e.sd.d.getD k 0 ≤ 1099511627776)) := fun hf k hk => by subst_vars;exact ⟨L_rng hf hk,(hf.each k hk).1⟩
 have HOR : Hid (0 < np → ∃ b o,OA = some ⟨b,o,none⟩ ∧ b < w0.heap.size ∧ ∀ k,k < np → ∀ W,Below w0.heap.size w0 W →  W.cell? ⟨b,o + k,none⟩ = some (.int .i64 (e.ow.d.getD k 0))) := fun h0 => by
  subst_vars
  obtain ⟨b,o,e1,hb,hc⟩ := RI.at (H0.out _ (Below.refl _ _)).ow h0;exact ⟨b,o,e1,hb,hc⟩
 have HSS : Hid (0 < q → ∃ b o,SA = some ⟨b,o,none⟩ ∧ b < w0.heap.size ∧ ∀ k,k < q → ∀ W,Below w0.heap.size w0 W →  (W.cell? ⟨b,o + k * 3,none⟩ = some (.int .i64 (e.S.getD k s0l).a) ∧ W.cell? ⟨b,o + k * 3 + 1,none⟩ = some (.int .i64 (e.S.getD k s0l).b) ∧ W.cell? ⟨b,o + k * 3 + 2,none⟩ = some (.int .i64 (e.S.getD k s0l).c))) := fun h0 => by
  subst_vars
  obtain ⟨b,o,e1,hb,hc⟩ := (H0.out _ (Below.refl _ _)).s.2 h0;refine ⟨b,o,e1,hb,fun k hk W hW => ?_⟩;have hs : e.S[k]? = some (e.S.getD k s0l) := by rw [List.getD_eq_getElem?_getD,List.getElem?_eq_getElem hk];rfl
  exact ⟨(hW.cell (p := ⟨b,_,none⟩) hb).trans (hc _ _ (flat_at3 e.S (j := 0) hs rfl (by decide))),(hW.cell (p := ⟨b,_,none⟩) hb).trans (hc _ _ (flat_at3 e.S (j := 1) hs rfl (by decide))),(hW.cell (p := ⟨b,_,none⟩) hb).trans (hc _ _ (flat_at3 e.S (j := 2) hs rfl (by decide)))⟩
 have HMK : Hid (e.fit → ∀ (t i : Nat) (CA : Option Addr) (cc : Nat) (TX : List Int) (TA : Option Addr) (tc : Nat) (PA : Option Addr) (pc : Nat) (us : List Int) (W : World) (SX : Option Addr) (sx : Nat) (kp sp : Int),(e.we K t CA cc TX TA tc PA pc).ok W W.heap.size → AccR e.N (e.rs.map RI.d) e.ow.d e.L.d true us → i < n → e.L.d.getD i 0 = kp → e.sd.d.getD i 0 = sp → Rd W W.heap.size 2 SX (sel e.ow.d [kp] np).length (shK e kp np) →
   Calls Tryz.prog 12 #[.agg #[.int .i64 0,.slice RA np rc,.slice OA np oc,.slice CA N cc],.slice TA TX.length tc,.slice PA n pc,.int .i64 kp,.slice SX (sel e.ow.d [kp] np).length sx,.int .i64 (nz K kp sp (t : Int) 0),.int .i64 (nz K kp sp (t : Int) 1)] W fun r w' => r = .returned (.tuple #[.int .i64 (e.zz K t TX us i),.int .i64 0]) ∧ Below W.heap.size W w') := fun hf t i CA cc TX TA tc PA pc us W SX sx kp sp h1 h2 h3 h4 h5 h6 => by
  subst_vars
  exact we_make h1 hf h2 h3 rfl rfl h6
 have HCB : Hid (e.fit → ∀ (t : Nat) (CA : Option Addr) (cc : Nat) (TX : List Int) (TA : Option Addr) (tc : Nat) (PA : Option Addr) (pc : Nat) (us zs : List Int) (W : World) (ZX : Option Addr) (zx : Nat),(e.we K t CA cc TX TA tc PA pc).ok W W.heap.size → AccR e.N (e.rs.map RI.d) e.ow.d e.L.d true us → Zz e K t TX us zs → Rd W W.heap.size 1 ZX n (ivs zs) →
   Calls Tryz.prog 14 #[.agg #[.int .i64 0,.slice RA np rc,.slice OA np oc,.slice CA N cc],.slice TA TX.length tc,.slice PA n pc,.slice ZX n zx] W fun r w' => r = .returned (.tuple #[.agg #[.int .i64 (e.ch K t TX),.int .i64 (fs zs n)],.bool true,.int .i64 0]) ∧ Below W.heap.size W w') := fun hf t CA cc TX TA tc PA pc us zs W ZX zx h1 h2 h3 h4 => by
  subst_vars
  exact we_combine h1 hf h2 h3 h4
 have HBM : Hid (e.fit → ∀ (t : Nat) (CA : Option Addr) (cc : Nat) (TX : List Int) (TA : Option Addr) (tc : Nat) (PA : Option Addr) (pc : Nat) (us zs : List Int) (W : World) (ZX : Option Addr) (zx : Nat),(e.we K t CA cc TX TA tc PA pc).ok W W.heap.size → AccR e.N (e.rs.map RI.d) e.ow.d e.L.d true us → Zz e K t TX us zs → Rd W W.heap.size 1 ZX n (ivs zs) →
   Calls Tryz.prog 15 #[.agg #[.int .i64 0,.slice RA np rc,.slice OA np oc,.slice CA N cc],.slice TA TX.length tc,.slice PA n pc,.slice ZX n zx] W fun r w' => r = .returned (.tuple #[.slice none 0 0,.int .i64 0]) ∧ Below W.heap.size W w') := fun hf t CA cc TX TA tc PA pc us zs W ZX zx h1 h2 h3 h4 => by
  subst_vars
  exact we_blame h1 hf h2 h3 h4
 have HCE : Hid (∀ W,Below w0.heap.size w0 W →  W.cell? ⟨s,0,none⟩ = some (.slice RA nr rc) ∧ W.cell? ⟨s,1,none⟩ = some (.slice OA np oc)) := fun W hW => ⟨(hr0.below hW hr0.lt).cell (i := 0) rfl,(hr0.below hW hr0.lt).cell (i := 1) rfl⟩;have HLD : Hid (∀ W,Below w0.heap.size w0 W →  ∀ (j : Nat) (v : Value),DD[j]? = some v → W.cell? ((⟨s + 1,0,none⟩ : Addr).add j) = some v) := fun W hW => (hr1.below hW hr1.lt).load 0 (by rw [List.drop_zero];exact List.take_length)
 have HDI : Hid ((Tryz.prog.info? 30).map (·.size) = some DD.length) := by
  show _ = _;have : DD.length = 82 := by rw [← hDD];unfold Inp.docs;rw [List.length_append,Doc.clen h.d0.tl,Doc.clen h.d1.tl]
  exact (show (Tryz.prog.info? 30).map (·.size) = some 82 by kernel_rfl).trans (by rw [this])
 have HE := Lib.hid hw0;have HS := Lib.hid hs;have HB := Lib.hid hb0;have HZ := Lib.hid hz0;have FIN : Hid (∀ W,Below w0.heap.size w0 W →  Below s w W) := fun W hW => hb0.trans (hW.mono (by omega));have HDD := Lib.hid hDD;have HNN := Lib.hid hN;have Hn := Lib.hid hn;clear h hL hs hw0 hb0 hz0 hr0 hr1 hRA hnr hrc hOA hnp hoc hx0 hXA hrn hxc hLA hn hlc hSdA hm hsdc hSA hq hsc hDD hN;rw [HS.out];go_enter Tryz.func3,Tryz.ntmps3
 go_wp2_with fail
 rw [HS.out,HE.out];refine (HTG.out _ (Below.refl _ _)).mono ?_;rintro r W1 ⟨rfl,hb1⟩;have HB1 := Lib.hid hb1;obtain ⟨c0,c1⟩ := HCE.out _ hb1;clear hb1
 go_wp2_with (first | (refine wpList_exec_val (.agg DD.toArray) (by rfl) (run_load_exec 30 (.tmp 13) rfl ⟨s + 1,0,none⟩ (by rfl) DD _ (HLD.out _ HB1.out) Tryz.underlying30 (by rfl) HDI.out) ?_) | fail)
 refine (HFT.out _ HB1.out).mono ?_;rintro r W2 ⟨⟨b,rfl,hb⟩,hbw⟩;have HB2 : Hid (Below w0.heap.size w0 W2) := Lib.hid (HB1.out.trans (hbw.mono HB1.out.size));have HX := Lib.hid hb;obtain ⟨c0,c1⟩ := HCE.out _ HB2.out;clear hb hbw
 cases b with
 | false =>
  go_wp2;go_ret;exact ⟨rfl,FIN.out _ HB2.out⟩
 | true =>
  have HFI := Lib.hid (HX.out rfl);obtain rfl : nr = np := HNR.out HFI.out;obtain ⟨nN1,nN2,nn1,nn2,e1,e2,np2⟩ := HNP.out HFI.out;subst e1 e2;have HDL2 := Lib.hid (HDL.out HFI.out);have HAC2 := Lib.hid (HAC.out HFI.out);have HKR2 := Lib.hid (HKR.out HFI.out);clear HDL HAC HKR HNR HNP HX HFT HTG
  go_wp2_with fail
  refine (HDL2.out _ HB2.out).mono ?_;rintro r W3 ⟨⟨hA,hc,CA,cc,rfl,hsh,hsc,hsm,hcm,hcc,hccm⟩,hbw⟩;have HB3 : Hid (Below w0.heap.size w0 W3) := Lib.hid (HB2.out.trans (hbw.mono HB2.out.size));have HSH := Lib.hid (And.intro hsh (And.intro hsc hsm));have HCM := Lib.hid (And.intro hcm (And.intro hcc hccm));obtain ⟨c0,c1⟩ := HCE.out _ HB3.out;clear hbw hsh hcm hsc hsm hcc hccm
  go_wp2_with fail
  refine (HAC2.out _ HB3.out).mono ?_;rintro r W4 ⟨⟨v,b,us,rfl,hacc⟩,hbw⟩;have HB4 : Hid (Below w0.heap.size w0 W4 ∧ Below W3.heap.size W3 W4) := ⟨HB3.out.trans (hbw.mono HB3.out.size),hbw⟩;have HAR := Lib.hid hacc;obtain ⟨c0,c1⟩ := HCE.out _ HB4.out.1;have g1 : ((N : Int) == 0) = false := beq_eq_false_iff_ne.2 (by omega);clear hbw hacc
  cases b with
  | false =>
   go_wp2;go_ret;exact ⟨rfl,FIN.out _ HB4.out.1⟩
  | true =>
   go_wp2;obtain ⟨g5,hg5⟩ : ∃ g,W4.heap.size = g := ⟨_,rfl⟩;rw [hg5];obtain ⟨w1,hw1⟩ : ∃ w1,((W4.alloc (.cells #[.int .i64 0,.slice RA nr rc,.slice OA nr oc,.slice CA N cc] 45)).alloc (.cells #[.slice none 0 0,.slice none 0 0] 48)) = w1 := ⟨_,rfl⟩;rw [hw1];have hb41 : Below W4.heap.size W4 w1 := by rw [← hw1];exact ((Below.refl _ _).alloc (Nat.le_refl _) _).alloc (by simp) _
   have hz1 : w1.heap.size = g5 + 2 := by rw [← hw1];simp [hg5]
   have HKY : Hid (Row w1 g5 45 [.int .i64 0,.slice RA nr rc,.slice OA nr oc,.slice CA N cc]) := by rw [← hw1];exact (Row.fresh' _ _ _ hg5).alloc _
   have hpx : Row w1 (g5 + 1) 48 [.slice none 0 0,.slice none 0 0] := by rw [← hw1];exact Row.fresh' _ _ _ (by simp [hg5])
   have HB1' : Hid (Below w0.heap.size w0 w1) := HB4.out.1.trans (hb41.mono HB4.out.1.size);have HG5 : Hid (w0.heap.size ≤ g5 ∧ W3.heap.size ≤ g5) := ⟨by rw [← hg5];exact HB4.out.1.size,by rw [← hg5];exact HB4.out.2.size⟩;have HSH1 : Hid (Rd w1 g5 2 hA nr (shc (e.rs.map RI.d) (e.x0 :: e.R.d) nr) ∧ nr ≤ hc ∧ hc ≤ maxLen) := ⟨((HSH.out.1.below HB4.out.2).below (hb41.mono HB4.out.2.size)).more HG5.out.2,HSH.out.2⟩;have HCM1 : Hid (Rd w1 g5 1 CA N (ivs (cms (e.x0 :: e.R.d) N)) ∧ N ≤ cc ∧ cc ≤ maxLen) := ⟨((HCM.out.1.below HB4.out.2).below (hb41.mono HB4.out.2.size)).more HG5.out.2,HCM.out.2⟩
   have HLS0 : Hid (LS K e (g5 + 2) (g5 + 1) w1 w1 0 0 0 [] (.slice none 0 0) (.slice none 0 0) (.slice none 0 0) (.slice none 0 0) (.slice none 0 0)) :=
    ⟨Tch.refl _ _,rfl,⟨rfl,.inl ⟨rfl,rfl⟩⟩,⟨rfl,.inl ⟨rfl,rfl⟩⟩,⟨rfl,.inl ⟨rfl,rfl⟩⟩,(fun g hg => by cases hg),(fun g hg => by cases hg),(fun g hg => by cases hg),fun j hj => absurd hj (by omega),hpx,by omega,hz1⟩
   have HI1 : Hid (e.ok w1 g5) := ((H0.out _ (Below.refl _ _)).below HB1'.out).more HG5.out.1;have HTB : Hid (∀ W,Tch (fun i => i = g5 + 1) w1 W → Below w0.heap.size w0 W) := fun W hW => HB1'.out.trans (hW.below (by rw [hz1];have := HG5.out.1;omega) (fun i hi e => by have := HG5.out.1;omega));have HNWc : Hid (∀ k,k < q → ∀ W,Calls Tryz.prog 8 #[.int .i64 (e.L.d.getD k 0),.int .i64 (e.sd.d.getD k 0)] W fun r w' => r = .returned (.tuple #[.agg #[.int .i64 (e.L.d.getD k 0),.int .i64 (e.sd.d.getD k 0),.int .i64 0,.slice none 0 0],.int .i64 0]) ∧ Below W.heap.size W w') := fun k hk W => new_any _ _ W (HKR2.out k hk).1 (HKR2.out k hk).2;have HMKc : Hid (∀ k,k < q → ∀ W,Laid W → Calls Tryz.prog 9 #[.agg #[.int .i64 (e.L.d.getD k 0),.int .i64 (e.sd.d.getD k 0),.int .i64 0,.slice none 0 0],.int .i64 2] W (MkR K (e.L.d.getD k 0) (e.sd.d.getD k 0) W)) := fun k hk W hW => make_any K _ _ W (HKR2.out k hk).1 (HKR2.out k hk).2 hW;have HZ1 := Lib.hid hz1;clear c0 c1 hw1 hb41 hz1 hpx hg5 HSH HCM HDL2 HAC2 g1;refine l0 (s := s) (by kernel_rfl) HTB HLR HSR HNWc HMKc HLA HZ1 HLS0 nn2 ?_;intro v109 v110 v111 v112 v28 v29 v114 v115 v116 v117 v118 v119 v113 v120 v121 v30 v31 v123 v124 v122 v125 v126 v127 v32 v33 v128 v129 v130 v131 v132 v133 v134 v135 v136 v137 v138 v16 v139 v140 v141 v142 v143 v144 v145 v146 v147 v148 v149 v150 v151 v152 v153 v154 v155 v156 v157 v158 v159 v108 BL BA A0 A1 bc c0 c1 wr hls;have HLS := Lib.hid hls;clear hls;obtain ⟨k,hkq⟩ : ∃ k,k = q := ⟨_,rfl⟩;subst hkq;have hqn : 0 < k := by omega
   have hg5 : 2 ≤ g5 := by have := HG5.out.1;have := HZ.out;omega
   obtain ⟨gB,rest,gp,cp,rr,hBA,hev,hgB,hgp,hds,hb15⟩ := HLS.out.ev hqn Hn.out hg5 HKY.out HI1.out HSH1.out.1 HCM1.out.1 (HLA.out _ HB1'.out);subst hBA;have HEV := Lib.hid hev;have HDS := Lib.hid hds;have HGB := Lib.hid (And.intro hgB (And.intro hgp hg5));have HB5 : Hid (Below w0.heap.size w0 wr) := HTB.out _ HLS.out.tch;clear hev hds hgB hgp hb15 HLS HLS0 HNWc HMKc;obtain ⟨w5,hw5⟩ : ∃ w5,w5 = wr := ⟨_,rfl⟩;subst hw5
   go_wp2_with (first | (refine wpList_exec_val (.agg DD.toArray) (by rfl) (run_load_exec 30 (.tmp 13) rfl ⟨s + 1,0,none⟩ (by rfl) DD _ (HLD.out _ HB5.out) Tryz.underlying30 (by rfl) HDI.out) ?_) | fail)
   have HDOC : Hid (∀ t : Nat,t < 2 → (∀ W,(Instr.index 30 (.agg DD.toArray) (.int .i64 (t : Int))).run Tryz.prog W = .ok (.agg (e.doc t).cells.toArray) W) ∧ (e.doc t).cells.length = 41 ∧ (∀ u ∈ (e.doc t).cells,u.oneCell' = true) ∧ (e.doc t).right ∧ (textE (e.doc t)).length ≤ 2000) := fun t ht => by
    have h0 := H0.out _ (Below.refl _ _);have h41 := Inp.doc_len (Doc.clen h0.d0.tl) (Doc.clen h0.d1.tl) t;refine ⟨fun W => by rw [← HDD.out];exact run_index_doc (Doc.clen h0.d0.tl) (Doc.clen h0.d1.tl) ht W,h41,fun u hu => doc_one _ u hu,HFI.out.doc t,by have := textE_len (h0.doc t) (HFI.out.doc t);omega⟩
   go_loopw [161] (fun x wr => ∃ (t : Nat) (BL : List Bq),t ≤ 2 ∧ x = .int .i64 t ∧ DS e gB wr.heap.size rest w5 wr t 0 0 BL (.slice none 0 0) []) (fun x _ => 2 - (intOf x).toNat)
   case atStart => exact ⟨0,_,by omega,rfl,HDS.out⟩
   case round =>
    obtain ⟨t,BL2,ht,rfl,hds⟩ := hrel
    by_cases hlt : t < 2
    ·skip
     have t0 : (0 : Int) ≤ (t : Int) := by omega
     have t1 : (t : Int) < 2 := by omega
     have HE0 : Hid (EV K e g5 gp cp rr [.int .i64 0,.slice RA nr rc,.slice OA nr oc,.slice CA N cc] hA nr CA N k wr) := HEV.out.tch hds.tch HGB.out.1 HGB.out.2.1 HGB.out.2.2;have HD0 := Lib.hid hds;obtain ⟨hix,hcl,hc1,hrt,htl⟩ := HDOC.out t hlt;obtain ⟨CD,hCD⟩ : ∃ CD,(e.doc t).cells = CD := ⟨_,rfl⟩;rw [hCD] at hix hcl hc1;have HCL : Hid (CD.length = 41 ∧ (∀ u ∈ CD,u.oneCell' = true)) := ⟨hcl,hc1⟩;have HCI : Hid ((Tryz.prog.info? 29).map (·.size) = some CD.length) := (show (Tryz.prog.info? 29).map (·.size) = some 41 by kernel_rfl).trans (by rw [hcl]);have HRTT := Lib.hid (And.intro hrt (And.intro htl hCD));clear hds hcl hc1 hrt htl hCD
     go_wp2_with (first | (refine wpList_store_cells rfl 29 (.tmp 35) (.tmp 164) rfl wr.heap.size CD (by rfl) (by rfl) 29 _ (heap_alloc_new wr _) (by rw [HCL.out.1];rfl) HCI.out HCL.out.2 ?_;intro w6 hR6 hg6) | (refine wpList_exec_val (.agg CD.toArray) (by rfl) (run_load_exec 29 (.tmp 35) rfl ⟨wr.heap.size,0,none⟩ (by rfl) CD _ (hR6.load 0 (by rw [List.drop_zero];exact List.take_length)) Tryz.underlying29 (by rfl) HCI.out) ?_) | fail)
     obtain ⟨g35,hg35⟩ : ∃ g,wr.heap.size = g := ⟨_,rfl⟩;have HB6 : Hid (Below wr.heap.size wr w6) := Lib.hid (((Below.refl _ wr).alloc (Nat.le_refl _) _).grown hg6 (by simp) (fun k e => by injection e with e;omega));rw [hg35] at hR6 ⊢;have HR6 := Lib.hid hR6;have HE6 : Hid (EV K e g5 gp cp rr [.int .i64 0,.slice RA nr rc,.slice OA nr oc,.slice CA N cc] hA nr CA N k w6) := HE0.out.next HB6.out HGB.out.2.2;clear hg6 hR6 hix;refine (show Calls Tryz.prog 10 #[.agg CD.toArray] w6 (EncPF (textE (e.doc t)) w6) by rw [← HRTT.out.2.2];exact text_any (e.doc t) w6 ((HE6.out.inp.more (by have := HE6.out.key.lt;omega)).doc t) HRTT.out.1).mono ?_;rintro r w7 ⟨TA,tc,rfl,htx,htc1,htc2,hb7,htf⟩;obtain ⟨TX,hTX⟩ : ∃ T,textE (e.doc t) = T := ⟨_,rfl⟩;rw [hTX] at htx ⊢;obtain ⟨wd,hwd⟩ : ∃ x,x = wr := ⟨_,rfl⟩;subst hwd;have ht2 : t < 2 := hlt;obtain ⟨dn,hdn⟩ : ∃ d,(e.doc t).no = d := ⟨_,rfl⟩
     have HDN : Hid (CD[0]? = some (.int .i64 dn) ∧ 0 ≤ dn ∧ dn < 4096) := by
      refine ⟨?_,?_⟩
      ·show CD[0]? = _
       rw [← HRTT.out.2.2,← hdn];rfl
      ·rw [← hdn];exact HRTT.out.1.no
     have HTL : Hid (TX.length ≤ 2000) := by rw [← hTX];exact HRTT.out.2.1
     have hbd : Below wd.heap.size wd w7 := HB6.out.trans (hb7.mono HB6.out.size);obtain ⟨zt,hzt⟩ : ∃ z,w7.heap.size = z := ⟨_,rfl⟩
     have HMV0 : Hid (MV K e g5 gp cp rr [.int .i64 0,.slice RA nr rc,.slice OA nr oc,.slice CA N cc] hA nr CA N k gB zt rest w5 w7 t TX TA g35 CD 0 BL2 (.slice none 0 0) [] w7) := by
      have hu := HD0.out.up hbd;rw [hzt] at hu;have h1 := HD0.out.lt;have h2 := HD0.out.tch.size;have h3 := HB6.out.size;exact ⟨hu,Tch.refl _ _,HEV.out,htx,fun b o e1 e2 => (by have := htf b o e1;omega),HR6.out.below hb7 HR6.out.lt,(by omega),HGB.out.1,HGB.out.2.1,HGB.out.2.2,Nat.le_of_eq hzt⟩
     have HTD : Hid (∀ W,Tch (fun g => g = gB) w5 W → Below w0.heap.size w0 W) := fun W hW => HB5.out.trans (hW.below HB5.out.size (fun i hi e => by have := HGB.out.1;have := HG5.out.1;omega));clear htx htc1 htc2 hb7 htf hTX hdn hbd hg35
     go_wp2_with fail
     refine l4 (by kernel_rfl) HFI HNN Hn HAR HMK HDN HTL HTD HLR HOR HSS HCE HMV0 HZ nn2 np2 t0 t1 ht2 ?_;intro v175 v176 v177 v178 v39 v40 v180 v181 v182 v183 v184 v185 v186 v187 v188 v189 v190 v191 v192 v193 v179 v194 v195 v196 v197 v41 v42 v43 v44 v45 v198 v199 v200 v201 v202 v203 v47 v204 v205 v206 v207 v208 v209 v210 v211 v212 v213 v214 v215 v216 v217 v218 v219 v220 v221 v222 v223 v224 v225 v226 v227 v228 v229 v231 v232 v233 v234 v235 v236 v237 v238 v239 v240 v230 v241 v242 v48 v49 v243 v244 v245 v246 v247 v248 v249 v250 v251 v252 v253 v254 v255 v256 v257 v258 v259 v260 v261 v262 v263 v264 v265 v266 v267 v268 v269 v270 v271 v272 v273 v16 v275 v276 v277 v278 v279 v280 v281 v282 v283 v284 v285 v274 v286 v287 v288 v289 v50 v51 v52 v53 v290 v291 v292 v293 v294 v295 v296 v297 v298 v299 v300 v174 BL zs ZA zc wy hmv hzz;have HMV := Lib.hid hmv;have HZF : Hid (Zz e K t TX us zs) := ⟨by have h1 := hmv.ds.own.1;simp [ivs] at h1;rw [Hn.out];exact h1,fun j hj => hzz j (by rw [← Hn.out];exact hj)⟩;clear hmv hzz
     go_wp2_with fail
     rename_i Kz hKz;have HKZ2 := Lib.hid hKz;clear hKz;obtain ⟨wf,hdw⟩ : ∃ x,x = wy.drew := ⟨_,rfl⟩;have hMf : MV K e g5 gp cp rr [.int .i64 0,.slice RA nr rc,.slice OA nr oc,.slice CA N cc] hA nr CA N k gB zt rest w5 w7 t TX TA g35 CD k BL (.slice ZA k zc) zs wf := by rw [hdw];exact HMV.out.next (Below.refl _ _).drew
     obtain ⟨ch,hch⟩ : ∃ x,e.ch K t TX = x := ⟨_,rfl⟩;obtain ⟨fz,hfz⟩ : ∃ x,fs zs k = x := ⟨_,rfl⟩;have HCF := Lib.hid (And.intro hch hfz)
     have HCO : Hid (∀ W,Below wf.heap.size wf W → Calls Tryz.prog 14 #[.agg #[.int .i64 0,.slice RA nr rc,.slice OA nr oc,.slice CA N cc],.slice TA TX.length tc,.slice (some ⟨gp t,0,none⟩) k (cp t),.slice ZA k zc] W fun r w' => r = .returned (.tuple #[.agg #[.int .i64 ch,.int .i64 fz],.bool true,.int .i64 0]) ∧ Below W.heap.size W w') := fun W hW => by
      have hM := hMf.next hW;have h := HCB.out HFI.out t CA cc TX TA tc (some ⟨gp t,0,none⟩) (cp t) us zs W ZA zc (hM.weok HNN.out HFI.out Hn.out ht2 HTL.out) HAR.out HZF.out (Rd.of_own hM.ds.own);rw [hch,hfz] at h;exact h
     have HCQ : Hid (∀ W,Below wf.heap.size wf W → W.cell? ⟨g5,0,none⟩ = some (.int .i64 0) ∧ W.cell? ⟨g5,1,none⟩ = some (.slice RA nr rc) ∧ W.cell? ⟨g5,2,none⟩ = some (.slice OA nr oc) ∧ W.cell? ⟨g5,3,none⟩ = some (.slice CA N cc) ∧ W.cell? ⟨g5 + 1,t,none⟩ = some (.slice (some ⟨gp t,0,none⟩) k (cp t))) := fun W hW => by
      have hv := (hMf.next hW).ev;exact ⟨hv.key.cell (i := 0) rfl,hv.key.cell (i := 1) rfl,hv.key.cell (i := 2) rfl,hv.key.cell (i := 3) rfl,wk_box hv ht2⟩
     have HMF := Lib.hid hMf;clear hMf hch hfz HMV;refine w51 (by kernel_rfl) hdw.symm t0 t1 HCQ.out HCO.out ?_;clear HCQ HCO hdw;intro v302 v303 v304 v305 v306 v307 v308 v301 v309 v310 v311 g54 w21 hp;show Kz _ _;have HP := Lib.hid hp;have HM21 : Hid (MV K e g5 gp cp rr [.int .i64 0,.slice RA nr rc,.slice OA nr oc,.slice CA N cc] hA nr CA N k gB zt rest w5 w7 t TX TA g35 CD k BL (.slice ZA k zc) zs w21) := HMF.out.next hp.1;refine HKZ2.out _ _ ?_;clear hp HKZ2 HMF
     go_wp2_with fail
     rename_i Kz hKz;have HKZ3 := Lib.hid hKz;clear hKz;obtain ⟨wq,hdw⟩ : ∃ x,x = w21.drew := ⟨_,rfl⟩;have hMq : MV K e g5 gp cp rr [.int .i64 0,.slice RA nr rc,.slice OA nr oc,.slice CA N cc] hA nr CA N k gB zt rest w5 w7 t TX TA g35 CD k BL (.slice ZA k zc) zs wq := by rw [hdw];exact HM21.out.next (Below.refl _ _).drew
     have hBq : Below w21.heap.size w21 wq := by rw [hdw];exact (Below.refl _ _).drew
     have HBL : Hid (Calls Tryz.prog 15 #[.agg #[.int .i64 0,.slice RA nr rc,.slice OA nr oc,.slice CA N cc],.slice TA TX.length tc,.slice (some ⟨gp t,0,none⟩) k (cp t),.slice ZA k zc] wq fun r w' => r = .returned (.tuple #[.slice none 0 0,.int .i64 0]) ∧ Below wq.heap.size wq w') :=
      HBM.out HFI.out t CA cc TX TA tc (some ⟨gp t,0,none⟩) (cp t) us zs wq ZA zc (hMq.weok HNN.out HFI.out Hn.out ht2 HTL.out) HAR.out HZF.out (Rd.of_own hMq.ds.own)
     have HCQ : Hid (∀ W,Below wq.heap.size wq W → W.cell? ⟨g5,0,none⟩ = some (.int .i64 0) ∧ W.cell? ⟨g5,1,none⟩ = some (.slice RA nr rc) ∧ W.cell? ⟨g5,2,none⟩ = some (.slice OA nr oc) ∧ W.cell? ⟨g5,3,none⟩ = some (.slice CA N cc) ∧ W.cell? ⟨g5 + 1,t,none⟩ = some (.slice (some ⟨gp t,0,none⟩) k (cp t))) := fun W hW => by
      have hv := (hMq.next hW).ev;exact ⟨hv.key.cell (i := 0) rfl,hv.key.cell (i := 1) rfl,hv.key.cell (i := 2) rfl,hv.key.cell (i := 3) rfl,wk_box hv ht2⟩
     have HMQ := Lib.hid (And.intro hMq hBq);clear hMq hBq;refine w52 (by kernel_rfl) hdw.symm t0 t1 HCQ.out HBL.out ?_;clear HCQ HBL hdw;intro v313 v314 v315 v316 v317 v318 v319 v312 v320 v321 wm hp;show Kz _ _;refine HKZ3.out _ _ ?_;have HM3 : Hid (MV K e g5 gp cp rr [.int .i64 0,.slice RA nr rc,.slice OA nr oc,.slice CA N cc] hA nr CA N k gB zt rest w5 w7 t TX TA g35 CD k BL (.slice ZA k zc) zs wm) := HMQ.out.1.next hp;have HB3 : Hid (Below w21.heap.size w21 wm) := HMQ.out.2.trans (hp.mono HMQ.out.2.size);clear HKZ3 HMQ HM21 hp
     go_wp2_with fail
     rename_i Kz hKz;have HKZ4 := Lib.hid hKz;clear hKz;obtain ⟨wv,hdw⟩ : ∃ x,x = wm.drew := ⟨_,rfl⟩;have hMv : MV K e g5 gp cp rr [.int .i64 0,.slice RA nr rc,.slice OA nr oc,.slice CA N cc] hA nr CA N k gB zt rest w5 w7 t TX TA g35 CD k BL (.slice ZA k zc) zs wv := by rw [hdw];exact HM3.out.next (Below.refl _ _).drew
     have hBv : Below w21.heap.size w21 wv := by rw [hdw];exact HB3.out.drew
     obtain ⟨cb,co2,hCA,hcl,hc0⟩ := hMv.ev.c0 nN1;subst hCA;obtain ⟨PW,hPW⟩ : ∃ x,(Gm.pw e.x0.toNat : Int) = x := ⟨_,rfl⟩;rw [hPW] at hc0
     have HVF : Hid (Calls Tryz.prog 16 #[.int .i64 PW,.slice TA TX.length tc,.agg #[.int .i64 ch,.int .i64 fz]] wv fun r w' => r = .returned (.bool true) ∧ Below wv.heap.size wv w') := by
      have h := we_verify (hMv.weok HNN.out HFI.out Hn.out ht2 HTL.out (cc := cc) (tc := tc)) HFI.out HAR.out HZF.out;rw [Hn.out,hPW,HCF.out.1,HCF.out.2] at h;exact h
     have HCV : Hid (∀ W,Below wv.heap.size wv W → W.cell? ⟨cb,co2,none⟩ = some (.int .i64 PW) ∧ Row W g54 67 [.int .i64 ch,.int .i64 fz]) := fun W hW => by
      have h1 := HP.out.2.1.below hBv HP.out.2.1.lt;exact ⟨(hW.cell (p := ⟨cb,co2,none⟩) (by show cb < _;have := hMv.ev.key.lt;omega)).trans hc0,h1.below hW h1.lt⟩
     have HMV4 := Lib.hid (And.intro hMv hBv);clear hMv hBv hPW hc0 hcl HM3 HB3;refine w53 (by kernel_rfl) hdw.symm nN1 HCV.out HVF.out ?_;clear HCV HVF hdw;intro v322 v323 v324 v325 v326 v327 v328 v329 v330 v331 v332 v333 v334 v335 v336 v337 v338 v339 v340 v341 v342 v343 v344 wo hp;show Kz _ _;refine HKZ4.out _ _ ?_;have HM4 := Lib.hid (HMV4.out.1.next hp);clear HKZ4 HMV4 hp
     go_wp2_with fail
     go_roundw
     case rel =>
      refine ⟨t + 1,BL,by omega,by go_num,?_⟩;have h1 := HM4.out.ds;rw [← Hn.out] at h1;exact h1.doc
     case measure => simp [intOf];omega
    ·have hb9 : Below w0.heap.size w0 wr := HB5.out.trans (hds.tch.below HB5.out.size (fun i hi e => by have := HGB.out.1;have := HG5.out.1;omega))
     have HB9 := Lib.hid hb9;clear hds hb9;obtain rfl : t = 2 := by omega
     go_wp2;go_ret;exact ⟨rfl,FIN.out _ HB9.out⟩
end Go.Proofs.YtifejdpffkeniaaGreatDoor
namespace Go.Proofs.YtifejdpffkeniaaGreatDoor
open Go.ChangeShapes Go.WideShapes Go.Deep Go.RowKit
theorem block_lt' {w : World} {a : Addr} {v : Value} (h : w.cell? a = some v) : a.block < w.heap.size := by
 rcases Nat.lt_or_ge a.block w.heap.size with h1 | h1
 ·exact h1
 ·have h2 : w.heap[a.block]? = none := Array.getElem?_eq_none_iff.2 h1
  simp [World.cell?,h2] at h
theorem wf_u8 {t : Int} (h : (Lit.int .u8 t).wf = true) : 0 ≤ t ∧ t < 256 := by
 simp only [Lit.wf,Bool.and_eq_true,decide_eq_true_eq] at h;have e1 : IntKind.u8.min = 0 := by decide
 have e2 : IntKind.u8.max = 255 := by decide
 omega
section
variable {H : Type} {enc : TypeId × Value → H} {W : World} {base : Nat} {spare : Nat → Bool} {held : Bool} {fuel : Nat}
theorem open_ri {v : Value} {x : DataW H × List MemPlace} (hf : DataW.trod enc Tryz.prog W base spare held fuel 23 [v] = some x) :
  ∃ r : RI,v = r.cell ∧ r.ok W W.heap.size := by
 rcases open_ints Tryz.underlying23 Tryz.underlying3 (by kernel_rfl) hf with ⟨hcs,_⟩ | ⟨a,l,k,zs,hcs,_,hl,hm,hz,_,hcell,hwz⟩
 ·obtain rfl : v = .slice none 0 0 := by simpa using hcs
  exact ⟨⟨none,0,[]⟩,rfl,Rd.nil_,Nat.le_refl _,Nat.zero_le _⟩
 ·obtain rfl : v = .slice (some a) l k := by simpa using hcs
  have hle : l ≤ zs.length := by rw [hz];split <;> omega
  have hlt : (zs.take l).length = l := by simp;omega
  refine ⟨⟨some a,k,zs.take l⟩,by unfold RI.cell;rw [hlt],⟨by simp,fun hn => ?_⟩,by show (zs.take l).length ≤ k;omega,hm⟩;change 0 < (zs.take l).length at hn;rw [hlt] at hn;obtain ⟨b,o,sp⟩ := a;have hc := hcell 0 (by omega);have hs : sp = none := by simpa [Addr.add] using World.cell?_spot hc
  subst hs;refine ⟨b,o,rfl,by simpa [Addr.add] using block_lt' hc,fun j u hu => ?_⟩;rw [List.getElem?_map,Option.map_eq_some_iff] at hu;obtain ⟨v,hv,rfl⟩ := hu;have hj : j < l := by have := (List.getElem?_eq_some_iff.1 hv).1;simp at this;omega
  have := hcell j (by omega);rw [Addr.add_flat] at this;rw [this];change (zs.take l)[j]? = some v at hv;rw [List.getElem?_take,if_pos hj] at hv;simp [List.getD,hv]
theorem open_rows {v : Value} {x : DataW H × List MemPlace} (hf : DataW.trod enc Tryz.prog W base spare held fuel 22 [v] = some x) :
  ∃ (A : Option Addr) (c : Nat) (V : List RI),v = .slice A V.length c ∧ Rd W W.heap.size 1 A V.length (V.map RI.cell) ∧ ∀ r ∈ V,r.ok W W.heap.size := by
 rcases open_slice Tryz.underlying22 hf with ⟨hcs,_⟩ | ⟨x,l,k,m,_,D,Pl,hcs,_,hl,hm,hz,_,hi⟩
 ·obtain rfl : v = .slice none 0 0 := by simpa using hcs
  exact ⟨none,0,[],rfl,⟨rfl,fun h => absurd h (by simp)⟩,fun r hr => absurd hr (by simp)⟩
 ·obtain rfl : v = .slice (some x) l k := by simpa using hcs
  have hle : l ≤ m := by rw [hz];split <;> omega
  have ce : Tryz.prog.cellsOf 23 = 1 := by kernel_rfl
  have each : ∀ i : Nat,∃ r : RI,i < l → r.ok W W.heap.size ∧ W.cell? (x.add i) = some r.cell := by
   intro i
   by_cases h : i < l
   ·obtain ⟨cs',h1,h2⟩ := hi i (by omega)
    rw [ce] at h1;obtain ⟨_,hlen,hcell⟩ := World.cells?_some h1;obtain ⟨v,rfl⟩ := List.length_eq_one_iff.1 hlen;obtain ⟨r,rfl,hr⟩ := open_ri h2;refine ⟨r,fun _ => ⟨hr,?_⟩⟩;have := hcell 0 (by omega)
    simpa [Addr.add] using this
   ·exact ⟨⟨none,0,[]⟩,fun h' => absurd h' h⟩
  obtain ⟨f,hf'⟩ := Classical.axiomOfChoice each;refine ⟨some x,k,(List.range l).map f,by simp,⟨by simp,fun hn => ?_⟩,fun r hr => ?_⟩
  ·have hn : 0 < l := by simpa using hn
   obtain ⟨b,o,sp⟩ := x;have hk0 := (hf' 0 hn).2;have hs : sp = none := by simpa [Addr.add] using World.cell?_spot hk0
   subst hs;refine ⟨b,o,rfl,by simpa [Addr.add] using block_lt' hk0,fun j u hu => ?_⟩;have hj : j < l := by have := (List.getElem?_eq_some_iff.1 hu).1;simpa using this
   have h1 := (hf' j hj).2;rw [Addr.add_flat] at h1;rw [h1]
   simpa [hj] using hu
  ·obtain ⟨i,hi',rfl⟩ := List.mem_map.1 hr
   exact (hf' i (List.mem_range.1 hi')).1
theorem open_dig {cs : List Value} {x : DataW H × List MemPlace} (hf : DataW.trod enc Tryz.prog W base spare held fuel 27 cs = some x) :
  ∃ z : List Int,cs = z.map (Value.int .u8) ∧ z.length = 32 ∧ ∀ b ∈ z,0 ≤ b ∧ b < 256 := by
 obtain ⟨xs,m,_,_,hl,hxl,hx⟩ := DataW.trod_array Tryz.underlying27 hf;rw [show Tryz.prog.cellsOf 27 = 32 by kernel_rfl] at hl;rw [show Tryz.prog.cellsOf 5 = 1 by kernel_rfl] at hx
 have each : ∀ i,i < 32 → ∃ n : Int,cs[i]? = some (.int .u8 n) ∧ 0 ≤ n ∧ n < 256 := by
  intro i hi;have h1 := hx i hi;obtain ⟨y,hy⟩ : ∃ y,xs[i]? = some y := ⟨_,List.getElem?_eq_getElem (by omega)⟩;rw [hy] at h1;obtain ⟨n,e,_,hw⟩ := DataW.trod_int Tryz.underlying5 h1;refine ⟨n,?_,wf_u8 hw⟩;have h2 : ((cs.drop (i * 1)).take 1)[0]? = some (.int .u8 n) := by rw [e];rfl
  simpa using h2
 have each' : ∀ i : Nat,∃ n : Int,i < 32 → cs[i]? = some (.int .u8 n) ∧ 0 ≤ n ∧ n < 256 := by
  intro i
  by_cases h : i < 32
  ·obtain ⟨q,hq⟩ := each i h
   exact ⟨q,fun _ => hq⟩
  ·exact ⟨0,fun h' => absurd h' h⟩
 obtain ⟨f,hf'⟩ := Classical.axiomOfChoice each';refine ⟨(List.range 32).map f,?_,by simp,fun b hb => ?_⟩
 ·apply List.ext_getElem?
  intro i
  by_cases h : i < 32
  ·rw [(hf' i h).1];simp [h]
  ·rw [List.getElem?_eq_none (by omega),List.getElem?_eq_none (by simp;omega)]
 ·obtain ⟨i,hi,rfl⟩ := List.mem_map.1 hb
  exact (hf' i (List.mem_range.1 hi)).2
theorem open_doc {cs : List Value} {x : DataW H × List MemPlace} (hf : DataW.trod enc Tryz.prog W base spare held fuel 29 cs = some x) :
  ∃ y : Doc,cs = y.cells ∧ y.ok W W.heap.size := by
 obtain ⟨xs,m,_,_,hl,hxl,hx⟩ := DataW.trod_struct Tryz.underlying29 hf;rw [show Tryz.prog.cellsOf 29 = 41 by kernel_rfl] at hl;have hxl' : xs.length = 10 := hxl;have g0 := hx 0 _ rfl;obtain ⟨y0,e0⟩ : ∃ y,xs[0]? = some y := ⟨_,List.getElem?_eq_getElem (by omega)⟩;rw [e0] at g0
 replace g0 : DataW.trod enc Tryz.prog W base spare held m 3 ((cs.drop 0).take (Tryz.prog.cellsOf 3)) = some y0 := g0
 rw [show Tryz.prog.cellsOf 3 = 1 by kernel_rfl] at g0;have g1 := hx 1 _ rfl;obtain ⟨y1,e1⟩ : ∃ y,xs[1]? = some y := ⟨_,List.getElem?_eq_getElem (by omega)⟩;rw [e1] at g1
 replace g1 : DataW.trod enc Tryz.prog W base spare held m 3 ((cs.drop 1).take (Tryz.prog.cellsOf 3)) = some y1 := g1
 rw [show Tryz.prog.cellsOf 3 = 1 by kernel_rfl] at g1;have g2 := hx 2 _ rfl;obtain ⟨y2,e2⟩ : ∃ y,xs[2]? = some y := ⟨_,List.getElem?_eq_getElem (by omega)⟩;rw [e2] at g2
 replace g2 : DataW.trod enc Tryz.prog W base spare held m 3 ((cs.drop 2).take (Tryz.prog.cellsOf 3)) = some y2 := g2
 rw [show Tryz.prog.cellsOf 3 = 1 by kernel_rfl] at g2;have g3 := hx 3 _ rfl;obtain ⟨y3,e3⟩ : ∃ y,xs[3]? = some y := ⟨_,List.getElem?_eq_getElem (by omega)⟩;rw [e3] at g3
 replace g3 : DataW.trod enc Tryz.prog W base spare held m 3 ((cs.drop 3).take (Tryz.prog.cellsOf 3)) = some y3 := g3
 rw [show Tryz.prog.cellsOf 3 = 1 by kernel_rfl] at g3;have g4 := hx 4 _ rfl;obtain ⟨y4,e4⟩ : ∃ y,xs[4]? = some y := ⟨_,List.getElem?_eq_getElem (by omega)⟩;rw [e4] at g4
 replace g4 : DataW.trod enc Tryz.prog W base spare held m 3 ((cs.drop 4).take (Tryz.prog.cellsOf 3)) = some y4 := g4
 rw [show Tryz.prog.cellsOf 3 = 1 by kernel_rfl] at g4;have g5 := hx 5 _ rfl;obtain ⟨y5,e5⟩ : ∃ y,xs[5]? = some y := ⟨_,List.getElem?_eq_getElem (by omega)⟩;rw [e5] at g5
 replace g5 : DataW.trod enc Tryz.prog W base spare held m 3 ((cs.drop 5).take (Tryz.prog.cellsOf 3)) = some y5 := g5
 rw [show Tryz.prog.cellsOf 3 = 1 by kernel_rfl] at g5;have g6 := hx 6 _ rfl;obtain ⟨y6,e6⟩ : ∃ y,xs[6]? = some y := ⟨_,List.getElem?_eq_getElem (by omega)⟩;rw [e6] at g6
 replace g6 : DataW.trod enc Tryz.prog W base spare held m 23 ((cs.drop 6).take (Tryz.prog.cellsOf 23)) = some y6 := g6
 rw [show Tryz.prog.cellsOf 23 = 1 by kernel_rfl] at g6;have g7 := hx 7 _ rfl;obtain ⟨y7,e7⟩ : ∃ y,xs[7]? = some y := ⟨_,List.getElem?_eq_getElem (by omega)⟩;rw [e7] at g7
 replace g7 : DataW.trod enc Tryz.prog W base spare held m 23 ((cs.drop 7).take (Tryz.prog.cellsOf 23)) = some y7 := g7
 rw [show Tryz.prog.cellsOf 23 = 1 by kernel_rfl] at g7;have g8 := hx 8 _ rfl;obtain ⟨y8,e8⟩ : ∃ y,xs[8]? = some y := ⟨_,List.getElem?_eq_getElem (by omega)⟩;rw [e8] at g8
 replace g8 : DataW.trod enc Tryz.prog W base spare held m 23 ((cs.drop 8).take (Tryz.prog.cellsOf 23)) = some y8 := g8
 rw [show Tryz.prog.cellsOf 23 = 1 by kernel_rfl] at g8;have g9 := hx 9 _ rfl;obtain ⟨y9,e9⟩ : ∃ y,xs[9]? = some y := ⟨_,List.getElem?_eq_getElem (by omega)⟩;rw [e9] at g9
 replace g9 : DataW.trod enc Tryz.prog W base spare held m 27 ((cs.drop 9).take (Tryz.prog.cellsOf 27)) = some y9 := g9
 rw [show Tryz.prog.cellsOf 27 = 32 by kernel_rfl] at g9;obtain ⟨a0,f0,_,_⟩ := DataW.trod_int Tryz.underlying3 g0;obtain ⟨a1,f1,_,_⟩ := DataW.trod_int Tryz.underlying3 g1;obtain ⟨a2,f2,_,_⟩ := DataW.trod_int Tryz.underlying3 g2;obtain ⟨a3,f3,_,_⟩ := DataW.trod_int Tryz.underlying3 g3;obtain ⟨a4,f4,_,_⟩ := DataW.trod_int Tryz.underlying3 g4;obtain ⟨a5,f5,_,_⟩ := DataW.trod_int Tryz.underlying3 g5;obtain ⟨v6,f6⟩ : ∃ v,(cs.drop 6).take 1 = [v] := List.length_eq_one_iff.1 (by rw [List.length_take,List.length_drop];omega);rw [f6] at g6;obtain ⟨r6,rfl,h6⟩ := open_ri g6;obtain ⟨v7,f7⟩ : ∃ v,(cs.drop 7).take 1 = [v] := List.length_eq_one_iff.1 (by rw [List.length_take,List.length_drop];omega);rw [f7] at g7;obtain ⟨r7,rfl,h7⟩ := open_ri g7;obtain ⟨v8,f8⟩ : ∃ v,(cs.drop 8).take 1 = [v] := List.length_eq_one_iff.1 (by rw [List.length_take,List.length_drop];omega);rw [f8] at g8;obtain ⟨r8,rfl,h8⟩ := open_ri g8;obtain ⟨p,f9,hp,hb⟩ := open_dig g9;refine ⟨⟨a0,a1,a2,a3,a4,a5,r6,r7,r8,p⟩,?_,⟨h6,h7,h8,hp,hb⟩⟩;have k9 : cs.drop 9 = p.map (Value.int .u8) := by rw [← f9];exact (List.take_of_length_le (by rw [List.length_drop];omega)).symm
 have k8 : cs.drop 8 = r8.cell :: cs.drop 9 := by rw [← List.take_append_drop 1 (cs.drop 8),f8,List.drop_drop];rfl
 have k7 : cs.drop 7 = r7.cell :: cs.drop 8 := by rw [← List.take_append_drop 1 (cs.drop 7),f7,List.drop_drop];rfl
 have k6 : cs.drop 6 = r6.cell :: cs.drop 7 := by rw [← List.take_append_drop 1 (cs.drop 6),f6,List.drop_drop];rfl
 have k5 : cs.drop 5 = .int .i64 a5 :: cs.drop 6 := by rw [← List.take_append_drop 1 (cs.drop 5),f5,List.drop_drop];rfl
 have k4 : cs.drop 4 = .int .i64 a4 :: cs.drop 5 := by rw [← List.take_append_drop 1 (cs.drop 4),f4,List.drop_drop];rfl
 have k3 : cs.drop 3 = .int .i64 a3 :: cs.drop 4 := by rw [← List.take_append_drop 1 (cs.drop 3),f3,List.drop_drop];rfl
 have k2 : cs.drop 2 = .int .i64 a2 :: cs.drop 3 := by rw [← List.take_append_drop 1 (cs.drop 2),f2,List.drop_drop];rfl
 have k1 : cs.drop 1 = .int .i64 a1 :: cs.drop 2 := by rw [← List.take_append_drop 1 (cs.drop 1),f1,List.drop_drop];rfl
 have k0 : cs.drop 0 = .int .i64 a0 :: cs.drop 1 := by rw [← List.take_append_drop 1 (cs.drop 0),f0,List.drop_drop];rfl
 have k : cs = cs.drop 0 := rfl;rw [k,k0,k1,k2,k3,k4,k5,k6,k7,k8,k9]
 rfl
theorem open_docs {b0 : Nat} {v : Value} {d : DataW H} {p : List MemPlace} (hv : Value.okWide Tryz.prog W .any b0 30 v) (h : DataW.Trod enc Tryz.prog W base spare held 30 v d p) :
  ∃ y z : Doc,v = .agg (y.cells ++ z.cells).toArray ∧ y.ok W W.heap.size ∧ z.ok W W.heap.size := by
 have hu := Tryz.underlying30;simp only [Value.okWide,hu] at hv;obtain ⟨cs,rfl,hsz,_⟩ := hv;obtain ⟨fuel,hf⟩ := h;obtain ⟨xs,m,_,_,hl,hxl,hx⟩ := DataW.trod_array hu hf;rw [show Tryz.prog.cellsOf 30 = 82 by kernel_rfl] at hl;have g0 := hx 0 (by omega);have g1 := hx 1 (by omega);rw [show Tryz.prog.cellsOf 29 = 41 by kernel_rfl] at g0 g1;obtain ⟨y0,e0⟩ : ∃ y,xs[0]? = some y := ⟨_,List.getElem?_eq_getElem (by omega)⟩;obtain ⟨y1,e1⟩ : ∃ y,xs[1]? = some y := ⟨_,List.getElem?_eq_getElem (by omega)⟩;rw [e0] at g0;rw [e1] at g1;obtain ⟨d0,q0,r0⟩ := open_doc g0;obtain ⟨d1,q1,r1⟩ := open_doc g1;change cs.toList.length = 82 at hl;change (cs.toList.drop 0).take 41 = _ at q0;change (cs.toList.drop 41).take 41 = _ at q1;rw [List.drop_zero] at q0;have q2 : (cs.toList.drop 41).take 41 = cs.toList.drop 41 := List.take_of_length_le (by rw [List.length_drop];omega);refine ⟨d0,d1,?_,r0,r1⟩;rw [← q0,← q1,q2,List.take_append_drop]
theorem open_prog1 {cs : List Value} {x : DataW H × List MemPlace} (hf : DataW.trod enc Tryz.prog W base spare held fuel 25 cs = some x) :
  ∃ (RA : Option Addr) (rc : Nat) (rs : List RI) (ow : RI),cs = [.slice RA rs.length rc,ow.cell] ∧ RdM W W.heap.size RA rs ∧ ow.ok W W.heap.size := by
 obtain ⟨xs,m,_,_,hl,hxl,hx⟩ := DataW.trod_struct Tryz.underlying25 hf;rw [show Tryz.prog.cellsOf 25 = 2 by kernel_rfl] at hl;have hxl' : xs.length = 2 := hxl;have g0 := hx 0 _ rfl;obtain ⟨y0,e0⟩ : ∃ y,xs[0]? = some y := ⟨_,List.getElem?_eq_getElem (by omega)⟩;rw [e0] at g0
 replace g0 : DataW.trod enc Tryz.prog W base spare held m 22 ((cs.drop 0).take (Tryz.prog.cellsOf 22)) = some y0 := g0
 rw [show Tryz.prog.cellsOf 22 = 1 by kernel_rfl] at g0;have g1 := hx 1 _ rfl;obtain ⟨y1,e1⟩ : ∃ y,xs[1]? = some y := ⟨_,List.getElem?_eq_getElem (by omega)⟩;rw [e1] at g1
 replace g1 : DataW.trod enc Tryz.prog W base spare held m 23 ((cs.drop 1).take (Tryz.prog.cellsOf 23)) = some y1 := g1
 rw [show Tryz.prog.cellsOf 23 = 1 by kernel_rfl] at g1
 obtain ⟨v0,v1,rfl⟩ : ∃ v0 v1,cs = [v0,v1] := by
  rcases cs with _ | ⟨v0,_ | ⟨v1,_ | ⟨q,cs⟩⟩⟩
  all_goals simp at hl
  exact ⟨v0,v1,rfl⟩
 replace g0 : DataW.trod enc Tryz.prog W base spare held m 22 [v0] = some y0 := g0
 replace g1 : DataW.trod enc Tryz.prog W base spare held m 23 [v1] = some y1 := g1
 obtain ⟨A,c,V,rfl,hV,hVs⟩ := open_rows g0;obtain ⟨r1,rfl,h1⟩ := open_ri g1;exact ⟨A,c,V,r1,rfl,⟨hV,hVs⟩,h1⟩
theorem open_prog {b0 : Nat} {v : Value} {d : DataW H} {p : List MemPlace} (hv : Value.okWide Tryz.prog W .any b0 25 v) (h : DataW.Trod enc Tryz.prog W base spare held 25 v d p) :
  ∃ (RA : Option Addr) (rc : Nat) (rs : List RI) (ow : RI),v = .agg #[.slice RA rs.length rc,ow.cell] ∧ RdM W W.heap.size RA rs ∧ ow.ok W W.heap.size := by
 have hu := Tryz.underlying25;simp only [Value.okWide,hu] at hv;obtain ⟨cs,rfl,hsz,_⟩ := hv;obtain ⟨fuel,hf⟩ := h;obtain ⟨RA,rc,rs,ow,e,h1,h2⟩ := open_prog1 hf;refine ⟨RA,rc,rs,ow,?_,h1,h2⟩;change cs.toList = _ at e;rw [← Array.toArray_toList (xs := cs),e]
theorem open_ints1 {b0 : Nat} {v : Value} {d : DataW H} {p : List MemPlace} (hv : Value.okWide Tryz.prog W .any b0 23 v) (h : DataW.Trod enc Tryz.prog W base spare held 23 v d p) : ∃ r : RI,v = r.cell ∧ r.ok W W.heap.size := by
 obtain ⟨a,n,c,rfl⟩ := okWide_slice Tryz.underlying23 hv;obtain ⟨fuel,hf⟩ := h;exact open_ri hf
theorem open_sil1 {cs : List Value} {x : DataW H × List MemPlace} (hf : DataW.trod enc Tryz.prog W base spare held fuel 37 cs = some x) :
  ∃ y : Sil,cs = y.cells := by
 obtain ⟨xs,m,_,_,hl,hxl,hx⟩ := DataW.trod_struct Tryz.underlying37 hf;rw [show Tryz.prog.cellsOf 37 = 3 by kernel_rfl] at hl;have hxl' : xs.length = 3 := hxl;have g0 := hx 0 _ rfl;obtain ⟨y0,e0⟩ : ∃ y,xs[0]? = some y := ⟨_,List.getElem?_eq_getElem (by omega)⟩;rw [e0] at g0
 replace g0 : DataW.trod enc Tryz.prog W base spare held m 3 ((cs.drop 0).take (Tryz.prog.cellsOf 3)) = some y0 := g0
 rw [show Tryz.prog.cellsOf 3 = 1 by kernel_rfl] at g0;have g1 := hx 1 _ rfl;obtain ⟨y1,e1⟩ : ∃ y,xs[1]? = some y := ⟨_,List.getElem?_eq_getElem (by omega)⟩;rw [e1] at g1
 replace g1 : DataW.trod enc Tryz.prog W base spare held m 3 ((cs.drop 1).take (Tryz.prog.cellsOf 3)) = some y1 := g1
 rw [show Tryz.prog.cellsOf 3 = 1 by kernel_rfl] at g1;have g2 := hx 2 _ rfl;obtain ⟨y2,e2⟩ : ∃ y,xs[2]? = some y := ⟨_,List.getElem?_eq_getElem (by omega)⟩;rw [e2] at g2
 replace g2 : DataW.trod enc Tryz.prog W base spare held m 3 ((cs.drop 2).take (Tryz.prog.cellsOf 3)) = some y2 := g2
 rw [show Tryz.prog.cellsOf 3 = 1 by kernel_rfl] at g2;obtain ⟨a,ea,_,_⟩ := DataW.trod_int Tryz.underlying3 g0;obtain ⟨b,eb,_,_⟩ := DataW.trod_int Tryz.underlying3 g1;obtain ⟨c,ec,_,_⟩ := DataW.trod_int Tryz.underlying3 g2;refine ⟨⟨a,b,c⟩,?_⟩
 obtain ⟨u,v,z,rfl⟩ : ∃ u v z,cs = [u,v,z] := by
  rcases cs with _ | ⟨u,_ | ⟨v,_ | ⟨z,_ | ⟨q,cs⟩⟩⟩⟩
  all_goals simp at hl
  exact ⟨u,v,z,rfl⟩
 simp at ea eb ec;rw [ea,eb,ec]
 rfl
theorem sils_len (M : List Sil) : (M.flatMap Sil.cells).length = M.length * 3 := by
 induction M with
 | nil => rfl
 | cons y M ih => rw [List.flatMap_cons,List.length_append,ih,List.length_cons];show 3 + M.length * 3 = _;omega
theorem open_sils1 {v : Value} {x : DataW H × List MemPlace} (hf : DataW.trod enc Tryz.prog W base spare held fuel 31 [v] = some x) :
  ∃ (A : Option Addr) (c : Nat) (L : List Sil),v = .slice A L.length c ∧ Rd W W.heap.size 3 A L.length (L.flatMap Sil.cells) ∧ L.length ≤ c := by
 rcases open_slice Tryz.underlying31 hf with ⟨hcs,_⟩ | ⟨x,l,k,m,_,D,Pl,hcs,_,hl,hm,hz,_,hi⟩
 ·obtain rfl : v = .slice none 0 0 := by simpa using hcs
  exact ⟨none,0,[],rfl,⟨rfl,fun h => absurd h (by simp)⟩,Nat.le_refl _⟩
 ·obtain rfl : v = .slice (some x) l k := by simpa using hcs
  have hle : l ≤ m := by rw [hz];split <;> omega
  have ce : Tryz.prog.cellsOf 37 = 3 := by kernel_rfl
  have each : ∀ i : Nat,∃ y : Sil,i < l → ∀ j,j < 3 → W.cell? ((x.add (i * 3)).add j) = y.cells[j]? := by
   intro i
   by_cases h : i < l
   ·obtain ⟨cs',h1,h2⟩ := hi i (by omega)
    rw [ce] at h1;obtain ⟨_,hlen,hcell⟩ := World.cells?_some h1;obtain ⟨y,e⟩ := open_sil1 h2;exact ⟨y,fun _ j hj => by rw [← e];exact hcell j hj⟩
   ·exact ⟨⟨0,0,0⟩,fun h' => absurd h' h⟩
  obtain ⟨f,hf'⟩ := Classical.axiomOfChoice each;refine ⟨some x,k,(List.range l).map f,by simp,⟨sils_len _,fun hn => ?_⟩,by simp;omega⟩;have hn : 0 < l := by simpa using hn
  obtain ⟨b,o,sp⟩ := x;have hk0 := hf' 0 hn 0 (by omega)
  have hs : sp = none := by
   have h0 : W.cell? ((Addr.add ⟨b,o,sp⟩ (0 * 3)).add 0) = some (.int .i64 (f 0).a) := hk0
   simpa [Addr.add] using World.cell?_spot h0
  subst hs;have h0 : W.cell? ((Addr.add ⟨b,o,none⟩ (0 * 3)).add 0) = some (.int .i64 (f 0).a) := hk0;refine ⟨b,o,rfl,by simpa [Addr.add] using block_lt' h0,fun j u hu => ?_⟩
  have hj : j < l * 3 := by
   have := (List.getElem?_eq_some_iff.1 hu).1;rw [sils_len] at this
   simpa using this
  have hd : j / 3 < l := by omega
  have h1 := hf' (j / 3) hd (j % 3) (by omega);rw [Addr.add_flat,Addr.add_flat,show o + j / 3 * 3 + j % 3 = o + j by omega] at h1;rw [h1];have h2 := flat_at2 Sil.cells 3 ((List.range l).map f) (fun _ _ => rfl) (j / 3) (j % 3) (f (j / 3)) (by simp [hd]) (by omega);rw [show j / 3 * 3 + j % 3 = j by omega] at h2;rw [← h2];exact hu
theorem open_sils {b0 : Nat} {v : Value} {d : DataW H} {p : List MemPlace} (hv : Value.okWide Tryz.prog W .any b0 31 v) (h : DataW.Trod enc Tryz.prog W base spare held 31 v d p) :
  ∃ (A : Option Addr) (c : Nat) (L : List Sil),v = .slice A L.length c ∧ Rd W W.heap.size 3 A L.length (L.flatMap Sil.cells) ∧ L.length ≤ c := by
 obtain ⟨a,n,c,rfl⟩ := okWide_slice Tryz.underlying31 hv;obtain ⟨fuel,hf⟩ := h;exact open_sils1 hf
end
end Go.Proofs.YtifejdpffkeniaaGreatDoor
