import Derived.ChangeSlices
import Derived.Deep.SlicePairs
import Derived.OpenShut
import Derived.Test.YtjcpjhlclpdpjaaGreatS31
set_option linter.unusedVariables false
set_option maxRecDepth 100000
set_option maxHeartbeats 16000000
namespace Go.Proofs.YtjcpjhlclpdpjaaGreat
open Go.RowKit
attribute [local go_sem] Oper.semAt_some
theorem RI.cell_of (r : RI) : r.cell = .slice r.A r.d.length r.c := rfl
theorem top_any (e : Est) (w : World) (h : e.ok w w.heap.size) :
  Calls Tryz.prog 3 #[.agg e.cells.toArray] w fun x w' => x = .returned (.bool true) ∧ Below w.heap.size w w' := by
 obtain ⟨s,hs⟩ : ∃ s,w.heap.size = s := ⟨_,rfl⟩
 have HOK : Hid (∀ W,Below s w W → e.ok W W.heap.size) := fun W hW => by
  have hW' : Below w.heap.size w W := by rw [hs];exact hW
  exact (h.below hW').more hW'.size
 obtain ⟨hA,hhA⟩ : ∃ x,e.hA = x := ⟨_,rfl⟩
 obtain ⟨nh,hnh⟩ : ∃ x,e.H.length = x := ⟨_,rfl⟩
 obtain ⟨hc,hhc⟩ : ∃ x,e.hc = x := ⟨_,rfl⟩
 obtain ⟨mA,hmA⟩ : ∃ x,e.m.A = x := ⟨_,rfl⟩
 obtain ⟨nm,hnm⟩ : ∃ x,e.m.d.length = x := ⟨_,rfl⟩
 obtain ⟨mc,hmc⟩ : ∃ x,e.m.c = x := ⟨_,rfl⟩
 obtain ⟨nA,hnA⟩ : ∃ x,e.n.A = x := ⟨_,rfl⟩
 obtain ⟨nn,hnn⟩ : ∃ x,e.n.d.length = x := ⟨_,rfl⟩
 obtain ⟨nc,hnc⟩ : ∃ x,e.n.c = x := ⟨_,rfl⟩
 obtain ⟨aA,haA⟩ : ∃ x,e.a.A = x := ⟨_,rfl⟩
 obtain ⟨na,hna⟩ : ∃ x,e.a.d.length = x := ⟨_,rfl⟩
 obtain ⟨ac,hac⟩ : ∃ x,e.a.c = x := ⟨_,rfl⟩
 obtain ⟨vA,hvA⟩ : ∃ x,e.vA = x := ⟨_,rfl⟩
 obtain ⟨nv,hnv⟩ : ∃ x,e.V.length = x := ⟨_,rfl⟩
 obtain ⟨vc,hvc⟩ : ∃ x,e.vc = x := ⟨_,rfl⟩
 have hcs : e.cells.toArray = #[.slice hA nh hc,.slice mA nm mc,.slice nA nn nc,.slice aA na ac,.slice vA nv vc] := by rw [← hhA,← hnh,← hhc,← hmA,← hnm,← hmc,← hnA,← hnn,← hnc,← haA,← hna,← hac,← hvA,← hnv,← hvc];rfl
 have HLT := Lib.hid (And.intro hcs (And.intro hnh (And.intro hnm (And.intro hnn (And.intro hna hnv)))))
 have HLS := Lib.hid (And.intro hmA (And.intro hmc (And.intro hnA hnc)))
 rw [hcs]
 have hB1 : Below s w (w.alloc (.cells #[.slice hA nh hc,.slice mA nm mc,.slice nA nn nc,.slice aA na ac,.slice vA nv vc] 26)) := by rw [← hs];exact (Below.refl _ _).alloc (Nat.le_refl _) _
 have hR1 : Row (w.alloc (.cells #[.slice hA nh hc,.slice mA nm mc,.slice nA nn nc,.slice aA na ac,.slice vA nv vc] 26)) s 26 [.slice hA nh hc,.slice mA nm mc,.slice nA nn nc,.slice aA na ac,.slice vA nv vc] := Row.fresh' _ _ _ hs
 have H1 := Lib.hid (And.intro hB1 hR1)
 have HS := Lib.hid hs
 clear h hcs hs hB1 hR1 hhA hnh hhc hmA hnm hmc hnA hnn hnc haA hna hac hvA hnv hvc
 rw [HS.out]
 go_enter Tryz.func3,Tryz.ntmps3
 go_wp2_with fail
 refine (check_zero _).mono ?_
 rintro x w2 ⟨rfl,hb2⟩
 rw [HS.out]
 have hB2 : Below s w w2 := H1.out.1.trans (hb2.mono (by have := H1.out.1.size;have := HS.out;omega))
 have hR2 := H1.out.2.below hb2 H1.out.2.lt
 have H2 := Lib.hid (And.intro hB2 hR2)
 have c0 := hR2.cell (i := 0) rfl
 have c1 := hR2.cell (i := 1) rfl
 have c2 := hR2.cell (i := 2) rfl
 have c3 := hR2.cell (i := 3) rfl
 have c4 := hR2.cell (i := 4) rfl
 clear hB2 hR2 hb2 H1
 by_cases g1 : (6 : Int) < (nh : Int)
 ·go_wp2_with fail
  go_ret
  exact ⟨rfl,H2.out.1⟩
 by_cases g2 : (16 : Int) < (nv : Int)
 ·go_wp2_with fail
  go_ret
  exact ⟨rfl,H2.out.1⟩
 by_cases g3 : (6 : Int) < (nm : Int)
 ·go_wp2_with fail
  go_ret
  exact ⟨rfl,H2.out.1⟩
 by_cases g4 : (6 : Int) < (na : Int)
 ·go_wp2_with fail
  go_ret
  exact ⟨rfl,H2.out.1⟩
 have hn6 : e.H.length ≤ 6 := by have := HLT.out.2.1;omega
 have hv16 : e.V.length ≤ 16 := by have := HLT.out.2.2.2.2.2;omega
 have HC2 := Lib.hid (rcheck_any e w2 (HOK.out w2 H2.out.1) hn6 hv16)
 rw [HLT.out.1] at HC2
 have HNV := Lib.hid (And.intro hn6 hv16)
 clear hn6 hv16
 go_wp2_with fail
 refine HC2.out.mono ?_
 rintro x w3 ⟨⟨i,rfl,hi⟩,hb3⟩
 have hB3 : Below s w w3 := H2.out.1.trans (hb3.mono (by have := H2.out.1.size;have := HS.out;omega))
 have hR3 := H2.out.2.below hb3 H2.out.2.lt
 have H3 := Lib.hid (And.intro hB3 hR3)
 clear hb3 hB3 hR3 c0 c1 c2 c3 c4 HC2
 rcases hi with ⟨rfl,hR⟩ | rfl
 rotate_left
 ·go_wp2_with fail
  go_ret
  exact ⟨rfl,H3.out.1⟩
 have HRT := Lib.hid hR
 clear hR
 have HFT : Hid (∀ W,Below s w W → e.Fit W) := fun W hW => ⟨HOK.out W hW,HRT.out,HNV.out.1,HNV.out.2⟩
 obtain ⟨MM,hMM⟩ : ∃ x,e.D.M = x := ⟨_,rfl⟩
 have HM := Lib.hid hMM
 have hPL : ∀ W,Below s w W → Calls Tryz.prog 6 #[(.agg #[.slice hA nh hc,.slice mA nm mc,.slice nA nn nc,.slice aA na ac,.slice vA nv vc])] W (PlanR e W) := fun W hW => by rw [← HLT.out.1];exact plan_any e W (HFT.out W hW)
 have HPL := Lib.hid hPL
 have hPV : ∀ W,Below s w W → ∀ all,Fin e.D all → Calls Tryz.prog 7 #[(.agg #[.slice hA nh hc,.slice mA nm mc,.slice nA nn nc,.slice aA na ac,.slice vA nv vc])] W fun r w' => ∃ pb cap,r = .returned (.tuple #[.slice (some ⟨pb,0,none⟩) MM cap,.int .i64 0]) ∧ (pb < w'.heap.size ∧ (MM ≤ cap ∧ cap ≤ maxLen) ∧ ∀ j,j < MM → w'.cell? ⟨pb,j,none⟩ = some (.int .i64 (all.getD j dE).c)) ∧ Below W.heap.size W w' := fun W hW all hF => by
  rw [← HLT.out.1]
  refine (prove_any e W (HFT.out W hW)).mono ?_
  rintro r w' ⟨pb,cap,all',hr,_,how,hF',hb⟩
  rw [hMM] at hr how
  have hpos : 0 < MM := by rw [← hMM];exact Nat.pow_pos (by omega)
  have hge := own_ge how hpos
  refine ⟨pb,cap,hr,⟨hge.2.1,hge.2.2,fun j hj => ?_⟩,hb⟩
  rw [how.cellAt j (by omega),List.getElem?_map,List.getElem?_eq_getElem (by rw [hF'.len,hMM];exact hj)]
  have h1 := Fin.cost (Est.djok HRT.out HNV.out.1 _ _) hF hF' (i := j) (show j < e.D.M by rw [hMM];exact hj)
  rw [h1,List.getD_eq_getElem?_getD,List.getElem?_eq_getElem (by rw [hF'.len,hMM];exact hj)]
  rfl
 have HPV := Lib.hid hPV
 have hAC : ∀ W,Below s w W → ∀ all,Fin e.D all → ∀ pb cap,pb < W.heap.size ∧ (MM ≤ cap ∧ cap ≤ maxLen) ∧ (∀ j,j < MM → W.cell? ⟨pb,j,none⟩ = some (.int .i64 (all.getD j dE).c)) → ∀ lA nL cL ws,Rd W W.heap.size 2 lA nL (stageCells ws) → nL = ws.length → nL ≤ cL ∧ cL ≤ maxLen → (¬ stl all (e.st e.m.d) → ws = []) → (stl all (e.st e.m.d) → ∃ mE,Pth e.D all (e.st e.m.d) ws mE ∧ (all.getD mE dE).s = 0) →
   Calls Tryz.prog 8 #[(.agg #[.slice hA nh hc,.slice mA nm mc,.slice nA nn nc,.slice aA na ac,.slice vA nv vc]),.slice lA nL cL,.slice (some ⟨pb,0,none⟩) MM cap] W fun r w' => r = .returned (.tuple #[.bool true,.int .i64 0]) ∧ Below W.heap.size W w' := fun W hW all hF pb cap hp lA nL cL ws q1 q2 q3 q4 q5 => by
  rw [← HLT.out.1,← hMM]
  exact accepts_any e W (HFT.out W hW) all hF pb cap hp.1 (by rw [hMM];exact hp.2.1) (by rw [hMM];exact hp.2.2) lA nL cL ws q1 q2 q3 q4 q5
 have HAC := Lib.hid hAC
 have hST : ∀ W,Below s w W → ∀ (m : Nat),m < 2 ^ e.H.length → e.D.sf m → ∀ (A : Option Addr) (c n : Nat) (b : Bool),(⟨A,c,e.mem m⟩ : RI).ok W W.heap.size → n = (e.mem m).length → (b = true ↔ e.D.lv m) →
   Calls Tryz.prog 11 #[(.agg #[.slice hA nh hc,.slice mA nm mc,.slice nA nn nc,.slice aA na ac,.slice vA nv vc]),.slice A n c,.bool b] W fun r w' => r = .returned (.bool true) ∧ Below W.heap.size W w' := fun W hW m hm hsf A c n b hrd hn hb => by
  rw [← HLT.out.1,hn]
  obtain ⟨d1,d2,d3,d4⟩ := Est.nd_ok HRT.out HNV.out.1 hm
  refine state_any e ⟨A,c,e.mem m⟩ b (e.nd m) W (HOK.out W hW) hrd (Est.mem_ppl HRT.out m) ?_ d1 d2 d3 d4 (Est.sf_cnt HRT.out HNV.out.1 hsf) (Est.isH.ppl HRT.out HRT.out.a) HNV.out.2 ?_
  ·show (e.mem m).length ≤ 6
   rw [Est.mem_len HNV.out.1 hm]
   exact Nat.le_trans (pc_le HNV.out.1 hm) HNV.out.1
  ·have h1 := Est.lv_cnt HRT.out HNV.out.1 m
   by_cases hl : e.D.lv m
   ·rw [hb.2 hl,decide_eq_true (h1.1 hl)]
   ·rw [decide_eq_false (fun h => hl (h1.2 h))]
    exact Bool.eq_false_iff.2 fun h => hl (hb.1 h)
 have HST := Lib.hid hST
 have hRW : ∀ W,Below w3.heap.size w3 W → Below s w W ∧ Row W s 26 [.slice hA nh hc,.slice mA nm mc,.slice nA nn nc,.slice aA na ac,.slice vA nv vc] := fun W hW => ⟨H3.out.1.trans (hW.mono (by have := H3.out.2.lt;omega)),H3.out.2.below hW H3.out.2.lt⟩
 have HRW := Lib.hid hRW
 clear hMM hPL hPV hAC hST hRW
 have c0 := H3.out.2.cell (i := 0) rfl
 have c1 := H3.out.2.cell (i := 1) rfl
 have c2 := H3.out.2.cell (i := 2) rfl
 have c3 := H3.out.2.cell (i := 3) rfl
 have c4 := H3.out.2.cell (i := 4) rfl
 go_wp2_with fail
 refine (HPL.out w3 H3.out.1).mono ?_
 rintro x w4 ⟨hb4,all,hF,hx⟩
 have HF := Lib.hid hF
 have HB4 := Lib.hid hb4
 clear c0 c1 c2 c3 c4 hF g1 g2 g3 g4
 have c0 := (HRW.out w4 hb4).2.cell (i := 0) rfl
 have c1 := (HRW.out w4 hb4).2.cell (i := 1) rfl
 have c2 := (HRW.out w4 hb4).2.cell (i := 2) rfl
 have c3 := (HRW.out w4 hb4).2.cell (i := 3) rfl
 have c4 := (HRW.out w4 hb4).2.cell (i := 4) rfl
 clear hb4
 rcases hx with ⟨rfl,hns⟩ | ⟨lv,ws,mE,hst,rfl,hpth,hs0,how⟩
 ·have HNS := Lib.hid hns
  clear hns
  go_wp2_with fail
  refine (HPV.out w4 (HRW.out w4 HB4.out).1 all HF.out).mono ?_
  rintro x w5 ⟨pb,cap,rfl,hpb,hb5⟩
  have HB5 : Hid (Below w3.heap.size w3 w5) := HB4.out.trans (hb5.mono HB4.out.size)
  have HPB := Lib.hid hpb
  clear hpb hb5 c0 c1 c2 c3 c4
  have c0 := (HRW.out w5 HB5.out).2.cell (i := 0) rfl
  have c1 := (HRW.out w5 HB5.out).2.cell (i := 1) rfl
  have c2 := (HRW.out w5 HB5.out).2.cell (i := 2) rfl
  have c3 := (HRW.out w5 HB5.out).2.cell (i := 3) rfl
  have c4 := (HRW.out w5 HB5.out).2.cell (i := 4) rfl
  go_wp2_with fail
  refine (HAC.out w5 (HRW.out w5 HB5.out).1 all HF.out pb cap HPB.out none 0 0 [] (rd_nil _ _ _ _) rfl ⟨Nat.le_refl _,by unfold maxLen;omega⟩ (fun _ => rfl) (fun h => absurd h HNS.out)).mono ?_
  rintro x w6 ⟨rfl,hb6⟩
  have HB6 : Hid (Below w3.heap.size w3 w6) := HB5.out.trans (hb6.mono HB5.out.size)
  clear hb6 c0 c1 c2 c3 c4
  have c0 := (HRW.out w6 HB6.out).2.cell (i := 0) rfl
  have c1 := (HRW.out w6 HB6.out).2.cell (i := 1) rfl
  have c2 := (HRW.out w6 HB6.out).2.cell (i := 2) rfl
  have c3 := (HRW.out w6 HB6.out).2.cell (i := 3) rfl
  have c4 := (HRW.out w6 HB6.out).2.cell (i := 4) rfl
  obtain ⟨SM,hSM⟩ : ∃ x,e.st e.m.d = x := ⟨_,rfl⟩
  have hSM64 : SM < 2 ^ e.H.length := by rw [← hSM];exact Est.st_lt HRT.out.m
  have hSMM : e.mem SM = e.m.d := by rw [← hSM];exact Est.mem_st HRT.out HRT.out.m
  have HSM := Lib.hid (And.intro hSM (And.intro hSM64 hSMM))
  clear hSM hSM64 hSMM
  have HNU : Hid (Calls Tryz.prog 9 #[(.agg #[.slice hA nh hc,.slice mA nm mc,.slice nA nn nc,.slice aA na ac,.slice vA nv vc]),.slice mA nm mc] w6 fun r w' => r = .returned (.int .i64 (SM : Int)) ∧ Below w6.heap.size w6 w') := by
   have h1 := rnumber_any e e.m w6 (HOK.out w6 (HRW.out w6 HB6.out).1) (HOK.out w6 (HRW.out w6 HB6.out).1).m (by have := HNV.out.1;omega) HRT.out.m.good (by rw [← HSM.out.2.2,Est.mem_len HNV.out.1 HSM.out.2.1];have := pc_le HNV.out.1 HSM.out.2.1;have := HNV.out.1;omega)
   rw [HLT.out.1,Est.number HRT.out HNV.out.1 HRT.out.m,HSM.out.1,RI.cell_of e.m,HLS.out.1,HLS.out.2.1,HLT.out.2.2.1] at h1
   exact h1
  go_wp2_with fail
  refine HNU.out.mono ?_
  rintro x w7 ⟨rfl,hb7⟩
  have HB7 : Hid (Below w3.heap.size w3 w7) := HB6.out.trans (hb7.mono HB6.out.size)
  clear hb7 c0 c1 c2 c3 c4
  have c0 := (HRW.out w7 HB7.out).2.cell (i := 0) rfl
  have c1 := (HRW.out w7 HB7.out).2.cell (i := 1) rfl
  have c2 := (HRW.out w7 HB7.out).2.cell (i := 2) rfl
  have c3 := (HRW.out w7 HB7.out).2.cell (i := 3) rfl
  have c4 := (HRW.out w7 HB7.out).2.cell (i := 4) rfl
  have HSF : Hid (Calls Tryz.prog 10 #[(.agg #[.slice hA nh hc,.slice mA nm mc,.slice nA nn nc,.slice aA na ac,.slice vA nv vc]),.int .i64 (SM : Int)] w7 fun r w' => ∃ b,r = .returned (.bool b) ∧ (b = true → e.safeTo SM e.V.length) ∧ Below w7.heap.size w7 w') := by
   rw [← HLT.out.1]
   refine rsafe_any e SM w7 (HOK.out w7 (HRW.out w7 HB7.out).1) (by have := HNV.out.1;omega) ?_ HRT.out.nl HNV.out.2 (fun r hr => ⟨(HRT.out.v r hr).good,?_⟩)
   ·have := pow_le64 HNV.out.1;have := HSM.out.2.1;omega
   ·have := (Est.isH.ppl HRT.out (HRT.out.v r hr)).len;omega
  go_wp2_with fail
  refine HSF.out.mono ?_
  rintro x w8 ⟨b,rfl,hsafe,hb8⟩
  have HB8 : Hid (Below w3.heap.size w3 w8) := HB7.out.trans (hb8.mono HB7.out.size)
  have HSA := Lib.hid hsafe
  clear hb8 c0 c1 c2 c3 c4 hsafe
  have c0 := (HRW.out w8 HB8.out).2.cell (i := 0) rfl
  have c1 := (HRW.out w8 HB8.out).2.cell (i := 1) rfl
  have c2 := (HRW.out w8 HB8.out).2.cell (i := 2) rfl
  have c3 := (HRW.out w8 HB8.out).2.cell (i := 3) rfl
  have c4 := (HRW.out w8 HB8.out).2.cell (i := 4) rfl
  cases b with
  | false =>
   go_wp2_with fail
   go_ret
   exact ⟨rfl,(HRW.out w8 HB8.out).1⟩
  | true =>
   have hsf := Est.safe_sf HRT.out HNV.out.1 HSM.out.2.1 (HSA.out rfl)
   have hnl : ¬ e.D.lv SM := fun hl => HNS.out (by rw [HSM.out.1];exact (HF.out.lv SM HSM.out.2.1 hsf hl).1)
   have HS8 : Hid (Calls Tryz.prog 11 #[(.agg #[.slice hA nh hc,.slice mA nm mc,.slice nA nn nc,.slice aA na ac,.slice vA nv vc]),.slice mA nm mc,.bool false] w8 fun r w' => r = .returned (.bool true) ∧ Below w8.heap.size w8 w') := by
    refine HST.out w8 (HRW.out w8 HB8.out).1 SM HSM.out.2.1 hsf mA mc nm false ?_ (by rw [HSM.out.2.2];exact HLT.out.2.2.1.symm) ⟨fun h => (by cases h),fun h => absurd h hnl⟩
    rw [HSM.out.2.2,← HLS.out.1,← HLS.out.2.1]
    exact (HOK.out w8 (HRW.out w8 HB8.out).1).m
   clear hsf hnl
   go_wp2_with fail
   refine HS8.out.mono ?_
   rintro x w9 ⟨rfl,hb9⟩
   have HB9 : Hid (Below w3.heap.size w3 w9) := HB8.out.trans (hb9.mono HB8.out.size)
   clear hb9 c0 c1 c2 c3 c4
   go_wp2_with fail
   go_ret
   exact ⟨rfl,(HRW.out w9 HB9.out).1⟩
 ·obtain ⟨nL,hnL⟩ : ∃ x,ws.length = x := ⟨_,rfl⟩
  obtain ⟨lA,cL,rfl,hcl1,hcl2⟩ := own_sl how
  obtain ⟨SM,hSM⟩ : ∃ x,e.st e.m.d = x := ⟨_,rfl⟩
  have hSM64 : SM < 2 ^ e.H.length := by rw [← hSM];exact Est.st_lt HRT.out.m
  have hSMM : e.mem SM = e.m.d := by rw [← hSM];exact Est.mem_st HRT.out HRT.out.m
  have hlen := Pth.len hpth
  rw [hSM] at hst hpth hlen
  have hsk := HF.out.sk SM hSM64 hst
  rw [hs0,hnL] at hlen
  have hrl : Rd w4 w4.heap.size 2 lA nL (stageCells ws) := by rw [← hnL];exact Rd.of_own how
  rw [hnL] at hcl1 how ⊢
  have HP := Lib.hid (And.intro hst (And.intro hpth (And.intro hs0 (And.intro hSM (And.intro hSM64 (And.intro hSMM (And.intro hnL (And.intro hcl1 hcl2))))))))
  have HRL : Hid (∀ W,Below w4.heap.size w4 W → Rd W W.heap.size 2 lA nL (stageCells ws)) := fun W hW => (hrl.below hW).more hW.size
  have hn64 : nL < 64 := by omega
  clear hst hpth hs0 hSM hSM64 hSMM hlen hsk hrl hcl1 hcl2 how hnL
  obtain ⟨CST,hCST⟩ : ∃ x,(all.getD (e.st e.m.d) dE).c = x := ⟨_,rfl⟩
  rw [hCST]
  clear hCST
  go_wp2_with fail
  refine (HPV.out w4 (HRW.out w4 HB4.out).1 all HF.out).mono ?_
  rintro x w5 ⟨pb,cap,rfl,hpb,hb5⟩
  have HB5 : Hid (Below w3.heap.size w3 w5 ∧ Below w4.heap.size w4 w5) := ⟨HB4.out.trans (hb5.mono HB4.out.size),hb5⟩
  have HPB := Lib.hid hpb
  clear hpb hb5 c0 c1 c2 c3 c4
  have c0 := (HRW.out w5 HB5.out.1).2.cell (i := 0) rfl
  have c1 := (HRW.out w5 HB5.out.1).2.cell (i := 1) rfl
  have c2 := (HRW.out w5 HB5.out.1).2.cell (i := 2) rfl
  have c3 := (HRW.out w5 HB5.out.1).2.cell (i := 3) rfl
  have c4 := (HRW.out w5 HB5.out.1).2.cell (i := 4) rfl
  go_wp2_with fail
  refine (HAC.out w5 (HRW.out w5 HB5.out.1).1 all HF.out pb cap HPB.out lA nL cL ws (HRL.out w5 HB5.out.2) HP.out.2.2.2.2.2.2.1.symm HP.out.2.2.2.2.2.2.2 (fun h => absurd (by rw [HP.out.2.2.2.1];exact HP.out.1) h) (fun _ => ⟨mE,by rw [HP.out.2.2.2.1];exact HP.out.2.1,HP.out.2.2.1⟩)).mono ?_
  rintro x w6 ⟨rfl,hb6⟩
  have HB6 : Hid (Below w3.heap.size w3 w6 ∧ Below w4.heap.size w4 w6) := ⟨HB5.out.1.trans (hb6.mono HB5.out.1.size),HB5.out.2.trans (hb6.mono HB5.out.2.size)⟩
  clear hb6 c0 c1 c2 c3 c4
  have c0 := (HRW.out w6 HB6.out.1).2.cell (i := 0) rfl
  have c1 := (HRW.out w6 HB6.out.1).2.cell (i := 1) rfl
  have c2 := (HRW.out w6 HB6.out.1).2.cell (i := 2) rfl
  have c3 := (HRW.out w6 HB6.out.1).2.cell (i := 3) rfl
  have c4 := (HRW.out w6 HB6.out.1).2.cell (i := 4) rfl
  have h64 : ¬ (64 < (nL : Int)) := by omega
  have hls : s < w6.heap.size := (HRW.out w6 HB6.out.1).2.lt
  have hmok := (HOK.out w6 (HRW.out w6 HB6.out.1).1).m
  have hmrd := hmok.1
  rw [HLS.out.1,HLT.out.2.2.1] at hmrd
  have hnm64 : nm ≤ 64 := by have := (Est.isH.ppl HRT.out HRT.out.m).len;have := HLT.out.2.2.1;omega
  have hown : (w6.alloc (.cells #[] 3)).ownsRow w6.heap.size 3 1 (.slice (some ⟨w6.heap.size,0,none⟩) 0 0) 0 [] := World.ownsRow_lit w6 #[] 0 (Nat.le_refl _) (by unfold maxLen;omega) rfl
  have HO := Lib.hid hown
  have HMR : Hid (Rd (w6.alloc (.cells #[] 3)) w6.heap.size 1 mA nm (e.m.d.map (Value.int .i64))) := hmrd.below ((Below.refl _ w6).alloc (Nat.le_refl _) _)
  have hone := i64_one e.m.d
  have HONE : Hid (∀ u ∈ e.m.d.map (Value.int .i64),u.oneCell' = true) := hone
  clear hmok hmrd hown hone
  go_wp2_with (at_builtin;refine wpList_append_rd _ rfl (.tmp 110) (.tmp 112) 23 rfl w6.heap.size 3 _ (.int .i64 0) 1 8 Tryz.underlying23 rfl rfl rfl rfl rfl (by decide) (.slice (some ⟨w6.heap.size,0,none⟩) 0 0) 0 [] (by rfl) HO.out w6.heap.size mA nm mc (e.m.d.map (Value.int .i64)) (by rfl) HMR.out HONE.out (by unfold maxLen;omega) (by omega) (by simp) ?_;intro v7 w7 hown7 hgrow7 _;have H7 := Lib.hid (And.intro hown7 hgrow7);clear hown7 hgrow7)
  obtain ⟨hown7,hgrow7⟩ := H7.out
  rw [Nat.zero_add,List.nil_append] at hown7
  obtain ⟨A7,c7,rfl,hc71,hc72⟩ := own_sl hown7
  have hb7 : Below w6.heap.size w6 w7 := ((Below.refl _ w6).alloc (Nat.le_refl _) _).grown hgrow7 (by simp) (fun g e => by have e' : w6.heap.size = g := Option.some.inj e;omega)
  have HB7 : Hid (Below w3.heap.size w3 w7 ∧ Below w4.heap.size w4 w7) := ⟨HB6.out.1.trans (hb7.mono HB6.out.1.size),HB6.out.2.trans (hb7.mono HB6.out.2.size)⟩
  have hrd7 := Rd.of_own hown7
  have HM7 : Hid ((⟨A7,c7,e.mem SM⟩ : RI).ok w7 w7.heap.size ∧ nm = (e.mem SM).length) := by
   rw [HP.out.2.2.2.2.2.1,← HLT.out.2.2.1] at *
   exact ⟨⟨hrd7,hc71,hc72⟩,rfl⟩
  clear hown7 hgrow7 H7 hc71 hc72 hb7 hrd7 c0 c1 c2 c3 c4 HO HMR HONE
  go_loopw [116,12] (fun i v wr => ∃ (k m q : Nat) (A : Option Addr) (c : Nat),k ≤ nL ∧ i = .int .i64 k ∧ v = .slice A q c ∧ q = (e.mem m).length ∧ m < 2 ^ e.H.length ∧ stl all m ∧ Pth e.D all m (ws.drop k) mE ∧ (⟨A,c,e.mem m⟩ : RI).ok wr wr.heap.size ∧ Below w3.heap.size w3 wr ∧ Below w4.heap.size w4 wr) (fun i _ _ => nL - (intOf i).toNat)
  case atStart => exact ⟨0,SM,nm,A7,c7,Nat.zero_le _,rfl,rfl,HM7.out.2,HP.out.2.2.2.2.1,HP.out.1,HP.out.2.1,HM7.out.1,HB7.out.1,HB7.out.2⟩
  case round =>
   clear HM7 HB7
   obtain ⟨k,m,q,A,c,hk,rfl,rfl,hq,hm,hst,hpth,hok,hb3,hb4⟩ := hrel
   have hsf : e.D.sf m := by
    have h1 := (HF.out.jst m hm hst).sf
    rwa [HF.out.idx m hm] at h1
   have HW := Lib.hid (And.intro hb3 (And.intro hb4 (And.intro hok (And.intro hq (And.intro hm (And.intro hst (And.intro hpth hsf)))))))
   clear hq hm hst hpth hok hsf
   have c0 := (HRW.out wr hb3).2.cell (i := 0) rfl
   have c1 := (HRW.out wr hb3).2.cell (i := 1) rfl
   have c2 := (HRW.out wr hb3).2.cell (i := 2) rfl
   have c3 := (HRW.out wr hb3).2.cell (i := 3) rfl
   have c4 := (HRW.out wr hb3).2.cell (i := 4) rfl
   clear hb3 hb4
   by_cases hlt : k < nL
   ·obtain ⟨v,hv⟩ : ∃ v,ws[k]? = some v := ⟨_,List.getElem?_eq_getElem (by rw [HP.out.2.2.2.2.2.2.1];exact hlt)⟩
    have hdr : ws.drop k = v :: ws.drop (k + 1) := by
     rw [List.drop_eq_getElem_cons (by rw [HP.out.2.2.2.2.2.2.1];exact hlt)]
     rw [List.getElem?_eq_getElem (by rw [HP.out.2.2.2.2.2.2.1];exact hlt)] at hv
     injection hv with hv
     rw [hv]
    have hpth := HW.out.2.2.2.2.2.2.1
    rw [hdr] at hpth
    obtain ⟨hwv,hvst,_,hvs,hrest⟩ := hpth
    obtain ⟨κ,j,hκ,hj,hpos,hvw⟩ := wall_mem hwv
    obtain ⟨haft,hflag⟩ := Est.step HRT.out hκ hj hpos
    have hvw : v = e.way m κ j := hvw
    rw [← hvw] at haft hflag
    have htt := (Est.djok HRT.out HNV.out.1 e.D.vs e.D.am).tt m HW.out.2.2.2.2.1 v hwv
    have hvt : v.t < 2 ^ e.H.length := htt.1
    have hnl : ¬ e.D.lv m := fun hl => by
     have h1 := (HF.out.lv m HW.out.2.2.2.2.1 HW.out.2.2.2.2.2.2.2 hl).2.1
     have h2 := Pth.len hrest
     rw [HP.out.2.2.1] at h2
     omega
    obtain ⟨b,o,eA,_,hcell⟩ := (HRL.out wr HW.out.2.1).2 (by omega)
    obtain ⟨t0,t1⟩ := stage_at hv
    have q0 := hcell _ _ t0
    have q1 := hcell _ _ t1
    rw [← Nat.add_assoc] at q1
    obtain ⟨vk,hvk⟩ : ∃ x,v.k = x := ⟨_,rfl⟩
    obtain ⟨vp,hvp⟩ : ∃ x,v.p = x := ⟨_,rfl⟩
    rw [hvk] at q0 haft hflag
    rw [hvp] at q1 haft hflag
    have HV := Lib.hid (And.intro haft (And.intro hflag (And.intro hvst (And.intro hrest hvt))))
    subst eA
    have k1 : (k : Int) < (nL : Int) := by omega
    have k0 : (0 : Int) ≤ (k : Int) := by omega
    have hls : s < wr.heap.size := (HRW.out wr HW.out.1).2.lt
    obtain ⟨zb,hzb⟩ : ∃ x,wr.heap.size = x := ⟨_,rfl⟩
    obtain ⟨wa,hwa⟩ : ∃ x,(wr.alloc (.cells #[.int .i64 vk,.int .i64 vp] 40)) = x := ⟨_,rfl⟩
    have hba : Below wr.heap.size wr wa := by rw [← hwa];exact (Below.refl _ _).alloc (Nat.le_refl _) _
    have hra : Row wa zb 40 [.int .i64 vk,.int .i64 vp] := by rw [← hwa];exact Row.fresh' _ _ _ hzb
    have HWA : Hid (Below w3.heap.size w3 wa ∧ Below w4.heap.size w4 wa ∧ Row wa zb 40 [.int .i64 vk,.int .i64 vp] ∧ (⟨A,c,e.mem m⟩ : RI).ok wa wa.heap.size) := ⟨HW.out.1.trans (hba.mono HW.out.1.size),HW.out.2.1.trans (hba.mono HW.out.2.1.size),hra,(HW.out.2.2.1.below hba).more hba.size⟩
    have HS8 := Lib.hid (HST.out wa (HRW.out wa HWA.out.1).1 m HW.out.2.2.2.2.1 HW.out.2.2.2.2.2.2.2 A c q false HWA.out.2.2.2 HW.out.2.2.2.1 ⟨fun h => (by cases h),fun h => absurd h hnl⟩)
    have HWZ := Lib.hid (And.intro hzb hwa)
    clear hv hdr hwv hvst hvs hrest hκ hj hpos hvw haft hflag htt hvt hnl hcell t0 t1 hzb hwa hba hra
    go_wp2_with fail
    rw [HWZ.out.2,HWZ.out.1]
    refine HS8.out.mono ?_
    rintro x w9 ⟨rfl,hb9⟩
    have HB9 : Hid (Below w3.heap.size w3 w9 ∧ Below w4.heap.size w4 w9) := ⟨HWA.out.1.trans (hb9.mono HWA.out.1.size),HWA.out.2.1.trans (hb9.mono HWA.out.2.1.size)⟩
    have hrz := HWA.out.2.2.1.below hb9 HWA.out.2.2.1.lt
    have z0 := hrz.cell (i := 0) rfl
    have z1 := hrz.cell (i := 1) rfl
    have hok9 := (HWA.out.2.2.2.below hb9).more hb9.size
    have hq6 : q ≤ 6 := by rw [HW.out.2.2.2.1,Est.mem_len HNV.out.1 HW.out.2.2.2.2.1];exact Nat.le_trans (pc_le HNV.out.1 HW.out.2.2.2.2.1) HNV.out.1
    have haf := after52_any vk vp (e.mem m) A q c w9 (by rw [HW.out.2.2.2.1];exact hok9.1) HW.out.2.2.2.1 (by omega)
    rw [HV.out.1,HV.out.2.1] at haf
    have HAF := Lib.hid haf
    clear hb9 hrz hok9 haf c0 c1 c2 c3 c4 q0 q1
    go_wp2_with fail
    refine HAF.out.mono ?_
    rintro x w10 ⟨lv,rfl,how,hb10⟩
    obtain ⟨A',c',rfl,hc1,hc2⟩ := own_sl how
    have HB10 : Hid (Below w3.heap.size w3 w10 ∧ Below w4.heap.size w4 w10) := ⟨HB9.out.1.trans (hb10.mono HB9.out.1.size),HB9.out.2.trans (hb10.mono HB9.out.2.size)⟩
    have HOK' : Hid ((⟨A',c',e.mem v.t⟩ : RI).ok w10 w10.heap.size) := ⟨Rd.of_own how,hc1,hc2⟩
    obtain ⟨q',hq'⟩ : ∃ x,(e.mem v.t).length = x := ⟨_,rfl⟩
    have hle : ¬ ((nn : Int) ≤ (q' : Int)) := by
     have h1 := Est.mem_len HNV.out.1 HV.out.2.2.2.2
     have h2 := pc_le HNV.out.1 HV.out.2.2.2.2
     have h3 := HRT.out.nl
     have h4 := HLT.out.2.2.2.1
     omega
    have HQ := Lib.hid hq'
    rw [hq']
    have c2 := (HRW.out w10 HB10.out.1).2.cell (i := 2) rfl
    clear how hb10 hc1 hc2 hq' z0 z1
    go_wp2_with fail
    go_roundw
    case rel => exact ⟨k + 1,v.t,q',A',c',by omega,by go_num,rfl,HQ.out.symm,HV.out.2.2.2.2,HV.out.2.2.1,HV.out.2.2.2.1,HOK'.out,HB10.out.1,HB10.out.2⟩
    case measure => simp [intOf];omega
   ·obtain rfl : k = nL := by omega
    have hpth := HW.out.2.2.2.2.2.2.1
    rw [List.drop_of_length_le (by rw [HP.out.2.2.2.2.2.2.1];exact Nat.le_refl _)] at hpth
    have hmE : m = mE := hpth
    have hlv : e.D.lv m := (Fin.end HF.out HW.out.2.2.2.2.1 HW.out.2.2.2.2.2.1 (by rw [hmE];exact HP.out.2.2.1)).2
    have HS8 := Lib.hid (HST.out wr (HRW.out wr HW.out.1).1 m HW.out.2.2.2.2.1 HW.out.2.2.2.2.2.2.2 A c q true HW.out.2.2.1 HW.out.2.2.2.1 ⟨fun _ => hlv,fun _ => rfl⟩)
    clear hpth hmE hlv
    go_wp2_with fail
    refine HS8.out.mono ?_
    rintro x w9 ⟨rfl,hb9⟩
    have HB9 : Hid (Below w3.heap.size w3 w9) := HW.out.1.trans (hb9.mono HW.out.1.size)
    clear hb9 c0 c1 c2 c3 c4
    go_wp2_with fail
    go_ret
    exact ⟨rfl,(HRW.out w9 HB9.out).1⟩
end Go.Proofs.YtjcpjhlclpdpjaaGreat
namespace Go.Proofs.YtjcpjhlclpdpjaaGreat
open Go.ChangeShapes Go.WideShapes Go.Deep Go.RowKit
theorem block_lt' {w : World} {a : Addr} {v : Value} (h : w.cell? a = some v) : a.block < w.heap.size := by
 rcases Nat.lt_or_ge a.block w.heap.size with h1 | h1
 ·exact h1
 ·have h2 : w.heap[a.block]? = none := Array.getElem?_eq_none_iff.2 h1
  simp [World.cell?,h2] at h
section
variable {H : Type} {enc : TypeId × Value → H} {W : World} {base : Nat} {spare : Nat → Bool} {held : Bool} {fuel : Nat}
theorem open_ri {v : Value} {x : DataW H × List MemPlace} (hf : DataW.trod enc Tryz.prog W base spare held fuel 23 [v] = some x) :
  ∃ r : RI,v = r.cell ∧ r.ok W W.heap.size := by
 rcases open_ints Tryz.underlying23 Tryz.underlying3 (by kernel_rfl) hf with ⟨hcs,_⟩ | ⟨a,l,k,zs,hcs,_,hl,hm,hz,_,hcell,hwz⟩
 ·obtain rfl : v = .slice none 0 0 := by simpa using hcs
  exact ⟨⟨none,0,[]⟩,rfl,Rd.nil_,Nat.le_refl _,Nat.zero_le _⟩
 ·obtain rfl : v = .slice (some a) l k := by simpa using hcs
  have hle : l ≤ zs.length := by rw [hz];split <;> omega
  have hlt : (zs.take l).length = l := by simp;omega
  refine ⟨⟨some a,k,zs.take l⟩,by unfold RI.cell;rw [hlt],⟨by simp,fun hn => ?_⟩,by show (zs.take l).length ≤ k;omega,hm⟩
  change 0 < (zs.take l).length at hn
  rw [hlt] at hn
  obtain ⟨b,o,sp⟩ := a
  have hc := hcell 0 (by omega)
  have hs : sp = none := by simpa [Addr.add] using World.cell?_spot hc
  subst hs
  refine ⟨b,o,rfl,by simpa [Addr.add] using block_lt' hc,fun j u hu => ?_⟩
  rw [List.getElem?_map,Option.map_eq_some_iff] at hu
  obtain ⟨v,hv,rfl⟩ := hu
  have hj : j < l := by have := (List.getElem?_eq_some_iff.1 hv).1;simp at this;omega
  have := hcell j (by omega)
  rw [Addr.add_flat] at this
  rw [this]
  change (zs.take l)[j]? = some v at hv
  rw [List.getElem?_take,if_pos hj] at hv
  simp [List.getD,hv]
theorem open_heir {cs : List Value} {x : DataW H × List MemPlace} (hf : DataW.trod enc Tryz.prog W base spare held fuel 79 cs = some x) : ∃ y : Heir,cs = y.cells := by
 obtain ⟨xs,m,_,_,hl,hxl,hx⟩ := DataW.trod_struct Tryz.underlying79 hf
 rw [show Tryz.prog.cellsOf 79 = 3 by kernel_rfl] at hl
 have c1 : Tryz.prog.cellsOf 3 = 1 := by kernel_rfl
 have hxl' : xs.length = 3 := hxl
 have g0 := hx 0 _ rfl
 have g1 := hx 1 _ rfl
 have g2 := hx 2 _ rfl
 obtain ⟨y0,e0⟩ : ∃ y,xs[0]? = some y := ⟨_,List.getElem?_eq_getElem (by omega)⟩
 obtain ⟨y1,e1⟩ : ∃ y,xs[1]? = some y := ⟨_,List.getElem?_eq_getElem (by omega)⟩
 obtain ⟨y2,e2⟩ : ∃ y,xs[2]? = some y := ⟨_,List.getElem?_eq_getElem (by omega)⟩
 rw [e0] at g0
 rw [e1] at g1
 rw [e2] at g2
 replace g0 : DataW.trod enc Tryz.prog W base spare held m 3 ((cs.drop 0).take (Tryz.prog.cellsOf 3)) = some y0 := g0
 replace g1 : DataW.trod enc Tryz.prog W base spare held m 3 ((cs.drop 1).take (Tryz.prog.cellsOf 3)) = some y1 := g1
 replace g2 : DataW.trod enc Tryz.prog W base spare held m 3 ((cs.drop 2).take (Tryz.prog.cellsOf 3)) = some y2 := g2
 rw [c1] at g0 g1 g2
 obtain ⟨a,ea,_,_⟩ := DataW.trod_int Tryz.underlying3 g0
 obtain ⟨b,eb,_,_⟩ := DataW.trod_int Tryz.underlying3 g1
 obtain ⟨c,ec,_,_⟩ := DataW.trod_int Tryz.underlying3 g2
 refine ⟨⟨a,b,c⟩,?_⟩
 obtain ⟨u,v,z,rfl⟩ : ∃ u v z,cs = [u,v,z] := by
  rcases cs with _ | ⟨u,_ | ⟨v,_ | ⟨z,_ | ⟨q,cs⟩⟩⟩⟩
  all_goals simp at hl
  exact ⟨u,v,z,rfl⟩
 simp at ea eb ec
 rw [ea,eb,ec]
 rfl
theorem heirs_len (M : List Heir) : (M.flatMap Heir.cells).length = M.length * 3 := by
 induction M with
 | nil => rfl
 | cons y M ih => rw [List.flatMap_cons,List.length_append,ih,List.length_cons];show 3 + M.length * 3 = _;omega
theorem open_heirs {v : Value} {x : DataW H × List MemPlace} (hf : DataW.trod enc Tryz.prog W base spare held fuel 22 [v] = some x) :
  ∃ (A : Option Addr) (c : Nat) (L : List Heir),v = .slice A L.length c ∧ Rd W W.heap.size 3 A L.length (L.flatMap Heir.cells) ∧ L.length ≤ c := by
 rcases open_slice Tryz.underlying22 hf with ⟨hcs,_⟩ | ⟨x,l,k,m,_,D,Pl,hcs,_,hl,hm,hz,_,hi⟩
 ·obtain rfl : v = .slice none 0 0 := by simpa using hcs
  exact ⟨none,0,[],rfl,⟨rfl,fun h => absurd h (by simp)⟩,Nat.le_refl _⟩
 ·obtain rfl : v = .slice (some x) l k := by simpa using hcs
  have hle : l ≤ m := by rw [hz];split <;> omega
  have ce : Tryz.prog.cellsOf 79 = 3 := by kernel_rfl
  have each : ∀ i : Nat,∃ y : Heir,i < l → ∀ j,j < 3 → W.cell? ((x.add (i * 3)).add j) = y.cells[j]? := by
   intro i
   by_cases h : i < l
   ·obtain ⟨cs',h1,h2⟩ := hi i (by omega)
    rw [ce] at h1
    obtain ⟨_,hlen,hcell⟩ := World.cells?_some h1
    obtain ⟨y,e⟩ := open_heir h2
    exact ⟨y,fun _ j hj => by rw [← e];exact hcell j hj⟩
   ·exact ⟨⟨0,0,0⟩,fun h' => absurd h' h⟩
  obtain ⟨f,hf'⟩ := Classical.axiomOfChoice each
  refine ⟨some x,k,(List.range l).map f,by simp,⟨heirs_len _,fun hn => ?_⟩,by simp;omega⟩
  have hn : 0 < l := by simpa using hn
  obtain ⟨b,o,sp⟩ := x
  have hk0 := hf' 0 hn 0 (by omega)
  have hs : sp = none := by
   have h0 : W.cell? ((Addr.add ⟨b,o,sp⟩ (0 * 3)).add 0) = some (.int .i64 (f 0).p) := hk0
   simpa [Addr.add] using World.cell?_spot h0
  subst hs
  have h0 : W.cell? ((Addr.add ⟨b,o,none⟩ (0 * 3)).add 0) = some (.int .i64 (f 0).p) := hk0
  refine ⟨b,o,rfl,by simpa [Addr.add] using block_lt' h0,fun j u hu => ?_⟩
  have hj : j < l * 3 := by
   have := (List.getElem?_eq_some_iff.1 hu).1
   rw [heirs_len] at this
   simpa using this
  have hd : j / 3 < l := by omega
  have h1 := hf' (j / 3) hd (j % 3) (by omega)
  rw [Addr.add_flat,Addr.add_flat,show o + j / 3 * 3 + j % 3 = o + j by omega] at h1
  rw [h1]
  have h2 := flat_at2 Heir.cells 3 ((List.range l).map f) (fun _ _ => rfl) (j / 3) (j % 3) (f (j / 3)) (by simp [hd]) (by omega)
  rw [show j / 3 * 3 + j % 3 = j by omega] at h2
  rw [← h2];exact hu
theorem open_rows {v : Value} {x : DataW H × List MemPlace} (hf : DataW.trod enc Tryz.prog W base spare held fuel 24 [v] = some x) :
  ∃ (A : Option Addr) (c : Nat) (V : List RI),v = .slice A V.length c ∧ Rd W W.heap.size 1 A V.length (V.map RI.cell) ∧ ∀ r ∈ V,r.ok W W.heap.size := by
 rcases open_slice Tryz.underlying24 hf with ⟨hcs,_⟩ | ⟨x,l,k,m,_,D,Pl,hcs,_,hl,hm,hz,_,hi⟩
 ·obtain rfl : v = .slice none 0 0 := by simpa using hcs
  exact ⟨none,0,[],rfl,⟨rfl,fun h => absurd h (by simp)⟩,fun r hr => absurd hr (by simp)⟩
 ·obtain rfl : v = .slice (some x) l k := by simpa using hcs
  have hle : l ≤ m := by rw [hz];split <;> omega
  have ce : Tryz.prog.cellsOf 23 = 1 := by kernel_rfl
  have each : ∀ i : Nat,∃ r : RI,i < l → r.ok W W.heap.size ∧ W.cell? (x.add i) = some r.cell := by
   intro i
   by_cases h : i < l
   ·obtain ⟨cs',h1,h2⟩ := hi i (by omega)
    rw [ce] at h1
    obtain ⟨_,hlen,hcell⟩ := World.cells?_some h1
    obtain ⟨v,rfl⟩ := List.length_eq_one_iff.1 hlen
    obtain ⟨r,rfl,hr⟩ := open_ri h2
    refine ⟨r,fun _ => ⟨hr,?_⟩⟩
    have := hcell 0 (by omega)
    simpa [Addr.add] using this
   ·exact ⟨⟨none,0,[]⟩,fun h' => absurd h' h⟩
  obtain ⟨f,hf'⟩ := Classical.axiomOfChoice each
  refine ⟨some x,k,(List.range l).map f,by simp,⟨by simp,fun hn => ?_⟩,fun r hr => ?_⟩
  ·have hn : 0 < l := by simpa using hn
   obtain ⟨b,o,sp⟩ := x
   have hk0 := (hf' 0 hn).2
   have hs : sp = none := by simpa [Addr.add] using World.cell?_spot hk0
   subst hs
   refine ⟨b,o,rfl,by simpa [Addr.add] using block_lt' hk0,fun j u hu => ?_⟩
   have hj : j < l := by have := (List.getElem?_eq_some_iff.1 hu).1;simpa using this
   have h1 := (hf' j hj).2
   rw [Addr.add_flat] at h1
   rw [h1]
   simpa [hj] using hu
  ·obtain ⟨i,hi',rfl⟩ := List.mem_map.1 hr
   exact (hf' i (List.mem_range.1 hi')).1
theorem open_estate {cs : List Value} {x : DataW H × List MemPlace} (hf : DataW.trod enc Tryz.prog W base spare held fuel 26 cs = some x) : ∃ e : Est,cs = e.cells ∧ e.ok W W.heap.size := by
 obtain ⟨xs,m,_,_,hl,hxl,hx⟩ := DataW.trod_struct Tryz.underlying26 hf
 rw [show Tryz.prog.cellsOf 26 = 5 by kernel_rfl] at hl
 have c1 : Tryz.prog.cellsOf 22 = 1 := by kernel_rfl
 have c2 : Tryz.prog.cellsOf 23 = 1 := by kernel_rfl
 have c3 : Tryz.prog.cellsOf 24 = 1 := by kernel_rfl
 have hxl' : xs.length = 5 := hxl
 have g0 := hx 0 _ rfl
 have g1 := hx 1 _ rfl
 have g2 := hx 2 _ rfl
 have g3 := hx 3 _ rfl
 have g4 := hx 4 _ rfl
 obtain ⟨y0,e0⟩ : ∃ y,xs[0]? = some y := ⟨_,List.getElem?_eq_getElem (by omega)⟩
 obtain ⟨y1,e1⟩ : ∃ y,xs[1]? = some y := ⟨_,List.getElem?_eq_getElem (by omega)⟩
 obtain ⟨y2,e2⟩ : ∃ y,xs[2]? = some y := ⟨_,List.getElem?_eq_getElem (by omega)⟩
 obtain ⟨y3,e3⟩ : ∃ y,xs[3]? = some y := ⟨_,List.getElem?_eq_getElem (by omega)⟩
 obtain ⟨y4,e4⟩ : ∃ y,xs[4]? = some y := ⟨_,List.getElem?_eq_getElem (by omega)⟩
 rw [e0] at g0
 rw [e1] at g1
 rw [e2] at g2
 rw [e3] at g3
 rw [e4] at g4
 replace g0 : DataW.trod enc Tryz.prog W base spare held m 22 ((cs.drop 0).take (Tryz.prog.cellsOf 22)) = some y0 := g0
 replace g1 : DataW.trod enc Tryz.prog W base spare held m 23 ((cs.drop 1).take (Tryz.prog.cellsOf 23)) = some y1 := g1
 replace g2 : DataW.trod enc Tryz.prog W base spare held m 23 ((cs.drop 2).take (Tryz.prog.cellsOf 23)) = some y2 := g2
 replace g3 : DataW.trod enc Tryz.prog W base spare held m 23 ((cs.drop 3).take (Tryz.prog.cellsOf 23)) = some y3 := g3
 replace g4 : DataW.trod enc Tryz.prog W base spare held m 24 ((cs.drop 4).take (Tryz.prog.cellsOf 24)) = some y4 := g4
 rw [c1] at g0
 rw [c2] at g1 g2 g3
 rw [c3] at g4
 obtain ⟨v0,v1,v2,v3,v4,rfl⟩ : ∃ v0 v1 v2 v3 v4,cs = [v0,v1,v2,v3,v4] := by
  rcases cs with _ | ⟨v0,_ | ⟨v1,_ | ⟨v2,_ | ⟨v3,_ | ⟨v4,_ | ⟨q,cs⟩⟩⟩⟩⟩⟩
  all_goals simp at hl
  exact ⟨v0,v1,v2,v3,v4,rfl⟩
 replace g0 : DataW.trod enc Tryz.prog W base spare held m 22 [v0] = some y0 := g0
 replace g1 : DataW.trod enc Tryz.prog W base spare held m 23 [v1] = some y1 := g1
 replace g2 : DataW.trod enc Tryz.prog W base spare held m 23 [v2] = some y2 := g2
 replace g3 : DataW.trod enc Tryz.prog W base spare held m 23 [v3] = some y3 := g3
 replace g4 : DataW.trod enc Tryz.prog W base spare held m 24 [v4] = some y4 := g4
 obtain ⟨hA,hc,L,rfl,hL,hLc⟩ := open_heirs g0
 obtain ⟨r1,rfl,h1⟩ := open_ri g1
 obtain ⟨r2,rfl,h2⟩ := open_ri g2
 obtain ⟨r3,rfl,h3⟩ := open_ri g3
 obtain ⟨vA,vc,V,rfl,hV,hVs⟩ := open_rows g4
 exact ⟨⟨hA,hc,L,r1,r2,r3,vA,vc,V⟩,rfl,⟨hL,hLc,h1,h2,h3,hV,hVs⟩⟩
theorem open_estateV {b0 : Nat} {v : Value} {d : DataW H} {p : List MemPlace} (hv : Value.okWide Tryz.prog W .any b0 26 v) (h : DataW.Trod enc Tryz.prog W base spare held 26 v d p) :
  ∃ e : Est,v = .agg e.cells.toArray ∧ e.ok W W.heap.size := by
 have hu := Tryz.underlying26
 simp only [Value.okWide,hu] at hv
 obtain ⟨cs,rfl,hsz,_⟩ := hv
 obtain ⟨fuel,hf⟩ := h
 obtain ⟨y,e,ho⟩ := open_estate hf
 refine ⟨y,?_,ho⟩
 rw [← e];simp [Value.cells]
end
end Go.Proofs.YtjcpjhlclpdpjaaGreat
