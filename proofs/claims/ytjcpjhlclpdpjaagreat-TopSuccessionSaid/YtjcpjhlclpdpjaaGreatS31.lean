import Derived.Test.YtjcpjhlclpdpjaaGreatS30
import Derived.Test.YtjcpjhlclpdpjaaGreatS16
import Derived.Test.YtjcpjhlclpdpjaaGreatS13
set_option linter.unusedVariables false
set_option maxRecDepth 100000
set_option maxHeartbeats 16000000
namespace Go.Proofs.YtjcpjhlclpdpjaaGreat
open Go.RowKit
attribute [local go_sem] Oper.semAt_some
theorem state_any (e : Est) (r : RI) (alive : Bool) (N : Int) (w : World) (h : e.ok w w.heap.size) (hr : r.ok w w.heap.size) (hM : Ppl r.d) (h6 : r.d.length ≤ 6) (hN : e.n.d[r.d.length]? = some N) (h1 : 1 ≤ N) (h60 : N ≤ 60) (hz : r.d = [] → N = 1)
  (hV : ∀ c ∈ e.V,Ppl c.d ∧ ((cntW c.d r.d : Nat) : Int) < N) (hA : Ppl e.a.d) (hVl : e.V.length ≤ 16) (hb : alive = decide (N ≤ ((cntW e.a.d r.d : Nat) : Int))) :
  Calls Tryz.prog 11 #[.agg e.cells.toArray,r.cell,.bool alive] w fun x w' => x = .returned (.bool true) ∧ Below w.heap.size w w' := by
 obtain ⟨s,hs⟩ : ∃ s,w.heap.size = s := ⟨_,rfl⟩
 obtain ⟨v0,hv0⟩ : ∃ x,Value.slice e.hA e.H.length e.hc = x := ⟨_,rfl⟩
 obtain ⟨v1,hv1⟩ : ∃ x,e.m.cell = x := ⟨_,rfl⟩
 obtain ⟨v2,hv2⟩ : ∃ x,e.n.cell = x := ⟨_,rfl⟩
 have hcs : e.cells.toArray = #[v0,v1,v2,.slice e.a.A e.a.d.length e.a.c,.slice e.vA e.V.length e.vc] := by rw [← hv0,← hv1,← hv2];rfl
 have hNn : N = ((N.toNat : Nat) : Int) := by omega
 have hRV : RdM w s e.vA e.V := by rw [← hs];exact ⟨h.v,h.vs⟩
 have hRA : Rd w s 1 e.a.A e.a.d.length (ivs e.a.d) := by rw [← hs];exact h.a.1
 rw [hcs]
 obtain ⟨aA,haA⟩ : ∃ x,e.a.A = x := ⟨_,rfl⟩
 obtain ⟨ac,hac⟩ : ∃ x,e.a.c = x := ⟨_,rfl⟩
 obtain ⟨AL,hAL⟩ : ∃ x,e.a.d = x := ⟨_,rfl⟩
 obtain ⟨vA,hvA⟩ : ∃ x,e.vA = x := ⟨_,rfl⟩
 obtain ⟨vc,hvc⟩ : ∃ x,e.vc = x := ⟨_,rfl⟩
 obtain ⟨V,hVV⟩ : ∃ x,e.V = x := ⟨_,rfl⟩
 have HGA : Hid (∀ W,Below s w W → Calls Tryz.prog 24 #[.agg e.cells.toArray,r.cell] W fun x w' => ∃ gA gc,x = .returned (.agg #[.int .i64 (-1),.int .i64 N,.slice gA r.d.length gc]) ∧ (⟨N,gA,gc,r.d⟩ : Gt).ok w' w'.heap.size ∧ (r.d = [] → gA = none ∧ gc = 0) ∧ Below W.heap.size W w') := fun W hW => by
  have hW' : Below w.heap.size w W := by rw [hs];exact hW
  refine (gate_any e r N W ((h.below hW').more hW'.size) ((hr.below hW').more hW'.size) h6 hN h1 (by omega) (fun p hp => ⟨hM.lo p hp,hM.hi p hp⟩)).mono ?_
  rintro x w' ⟨⟨gN,gA,gc,gP⟩,q1,q2,q3,q4,q5,q6⟩
  change gN = N at q1
  change gP = r.d at q2
  subst q1 q2
  exact ⟨gA,gc,q3,q4,q5,q6⟩
 obtain ⟨P,hP⟩ : ∃ P,r.d = P := ⟨_,rfl⟩
 obtain ⟨M,hMM⟩ : ∃ M,r.cell = M := ⟨_,rfl⟩
 rw [hP] at HGA hM h6 hz hV hb
 rw [hcs] at HGA
 rw [haA,hac,hAL,hvA,hvc,hVV] at HGA
 rw [haA,hAL] at hRA
 rw [hvA,hVV] at hRV
 rw [hAL] at hb hA
 rw [hVV] at hV hVl
 rw [hMM] at HGA ⊢
 rw [haA,hac,hAL,hvA,hvc,hVV]
 clear hcs haA hac hAL hvA hvc hVV hP hMM hv0 hv1 hv2 h hr hN
 obtain ⟨m,hm⟩ : ∃ m,AL.length = m := ⟨_,rfl⟩
 obtain ⟨nv,hnv⟩ : ∃ nv,V.length = nv := ⟨_,rfl⟩
 obtain ⟨n,hn⟩ : ∃ n,P.length = n := ⟨_,rfl⟩
 rw [hm,hnv] at HGA ⊢
 rw [hn] at HGA
 rw [hnv] at hVl
 rw [hn] at h6
 have HRV := Lib.hid (And.intro hRV (And.intro hRA (And.intro hm (And.intro hnv hn))))
 have HH := Lib.hid (And.intro hM (And.intro h60 (And.intro hz (And.intro hV (And.intro hA (And.intro hNn hb))))))
 have HS := Lib.hid hs
 obtain ⟨w1,hw1⟩ : ∃ x,(w.alloc (.cells #[v0,v1,v2,.slice aA m ac,.slice vA nv vc] 26)) = x := ⟨_,rfl⟩
 have hB1 : Below s w w1 := by rw [← hw1,← hs];exact (Below.refl _ _).alloc (Nat.le_refl _) _
 have hR1 : Row w1 s 26 [v0,v1,v2,.slice aA m ac,.slice vA nv vc] := by rw [← hw1];exact Row.fresh' _ _ _ hs
 have HB1 := Lib.hid (And.intro hB1 hR1)
 have HW1 := Lib.hid hw1
 clear hs hM h60 hz hV hA hb hw1 hB1 hR1 hNn hRV hRA hm hnv hn
 rw [HS.out]
 go_enter Tryz.func11,Tryz.ntmps11
 go_wp2_with fail
 rw [HW1.out]
 refine (HGA.out _ HB1.out.1).mono ?_
 rintro x w2 ⟨gA,gc,rfl,hgok,hgz,hb2⟩
 rw [HS.out]
 have hnn : P.length = n := HRV.out.2.2.2.2
 have hst : Gst (⟨N,gA,gc,P⟩ : Gt) := ⟨HH.out.1,by show P.length ≤ 6;rw [hnn];exact h6,fun h0 => ⟨(hgz h0).1,(hgz h0).2,HH.out.2.2.1 h0⟩,HH.out.2.1⟩
 have hB2 : Below s w w2 := HB1.out.1.trans (hb2.mono (by have := HB1.out.1.size;have := HS.out;omega))
 have hR2 := HB1.out.2.below hb2 HB1.out.2.lt
 have HGK : Hid (∀ W,Below w2.heap.size w2 W → (⟨N,gA,gc,P⟩ : Gt).ok W W.heap.size) := fun W hW => (hgok.below hW).more hW.size
 have HRA : Hid (∀ W,Below s w W → Rd W W.heap.size 1 aA m (ivs AL)) := fun W hW => by rw [← HRV.out.2.2.1];exact (HRV.out.2.1.below hW).more (by have := hW.size;have := HS.out;omega)
 have HMK : Hid (∀ W,Below w2.heap.size w2 W → Calls Tryz.prog 25 #[(.agg #[.int .i64 (-1),.int .i64 N,.slice gA n gc])] W fun r w' => ∃ RA rc OA oc rs,r = .returned (.tuple #[.agg #[.slice RA n rc,.slice OA n oc],.int .i64 0]) ∧ Prg w' w'.heap.size N.toNat P RA rc OA oc rs ∧ Below W.heap.size W w') := fun W hW => by
  have := makeU_any (⟨N,gA,gc,P⟩ : Gt) N.toNat W (HGK.out W hW) hst HH.out.2.2.2.2.2.1
  rw [← hnn]
  exact this
 have HLV : Hid (∀ W,Below w2.heap.size w2 W → Below s w W → Calls Tryz.prog 28 #[(.agg #[.int .i64 (-1),.int .i64 N,.slice gA n gc]),.slice aA m ac] W fun r w' => ((N ≤ ((cntW AL P : Nat) : Int) ∧ 0 < P.length ∧ ∃ e A k,(e.length : Int) = N ∧ e.Sublist P ∧ r = .returned (.tuple #[.slice A e.length k,.bool true,.int .i64 0]) ∧ Rd w' w'.heap.size 1 A e.length (ivs e) ∧ e.length ≤ k ∧ k ≤ maxLen) ∨ (¬ N ≤ ((cntW AL P : Nat) : Int) ∧ r = .returned (.tuple #[.slice none 0 0,.bool false,.int .i64 0]))) ∧ Below W.heap.size W w') := fun W hW hW2 => by
  have hra := HRA.out W hW2
  rw [← HRV.out.2.2.1] at hra ⊢
  rw [← hnn]
  exact livingU_any (⟨N,gA,gc,P⟩ : Gt) AL aA ac W (HGK.out W hW) hst HH.out.2.2.2.2.1 hra
 have HDD : Hid (∀ W,Below w2.heap.size w2 W → Below s w W → Calls Tryz.prog 29 #[(.agg #[.int .i64 (-1),.int .i64 N,.slice gA n gc]),.slice aA m ac] W fun r w' => ((N ≤ ((cntW AL P : Nat) : Int) ∧ r = .returned (.tuple #[.slice none 0 0,.bool false,.int .i64 0])) ∨ (¬ N ≤ ((cntW AL P : Nat) : Int) ∧ ∃ e A k,(∀ p ∈ e,¬ p ∈ AL) ∧ e.length ≤ 6 ∧ r = .returned (.tuple #[.slice A e.length k,.bool true,.int .i64 0]) ∧ Rd w' w'.heap.size 1 A e.length (ivs e))) ∧ Below W.heap.size W w') := fun W hW hW2 => by
  have hra := HRA.out W hW2
  rw [← HRV.out.2.2.1] at hra ⊢
  rw [← hnn]
  exact deadU_any (⟨N,gA,gc,P⟩ : Gt) AL aA ac W (HGK.out W hW) hst HH.out.2.2.2.2.1 hra
 have HMG : Hid (∀ W,Below w2.heap.size w2 W → Below s w W → Calls Tryz.prog 30 #[(.agg #[.int .i64 (-1),.int .i64 N,.slice gA n gc]),.slice aA m ac] W fun r w' => ((N ≤ ((cntW AL P : Nat) : Int) ∧ ∃ e A k,1 ≤ e.length ∧ r = .returned (.tuple #[.slice A e.length k,.bool true,.int .i64 0]) ∧ Rd w' w'.heap.size 1 A e.length (ivs e)) ∨ (¬ N ≤ ((cntW AL P : Nat) : Int) ∧ r = .returned (.tuple #[.slice none 0 0,.bool false,.int .i64 0]))) ∧ Below W.heap.size W w') := fun W hW hW2 => by
  have hra := HRA.out W hW2
  rw [← HRV.out.2.2.1] at hra ⊢
  rw [← hnn]
  exact marginU_any (⟨N,gA,gc,P⟩ : Gt) AL aA ac W (HGK.out W hW) hst HH.out.2.2.2.2.1 hra
 have HHV : Hid (∀ k,k < nv → ∃ A c l,(∀ W,Below s w W → ∃ b o,vA = some ⟨b,o,none⟩ ∧ W.cell? ⟨b,o + k,none⟩ = some (.slice A l c)) ∧ (∀ W,Below w2.heap.size w2 W → Below s w W → Calls Tryz.prog 26 #[(.agg #[.int .i64 (-1),.int .i64 N,.slice gA n gc]),.slice A l c] W fun r w' => r = .returned (.tuple #[.bool false,.int .i64 0]) ∧ Below W.heap.size W w') ∧
   (∀ W RA rc OA oc rs,Below s w W → Prg W W.heap.size N.toNat P RA rc OA oc rs → Calls Tryz.prog 27 #[.agg #[.slice RA n rc,.slice OA n oc],.slice A l c] W fun r w' => ∃ v,r = .returned (.tuple #[v,.bool true,.int .i64 0]) ∧ Below W.heap.size W w')) := fun k hk => by
  obtain ⟨hRV,hRA,hm,hnv,_⟩ := HRV.out
  obtain ⟨b,o,eA,hb,hc⟩ := RdM.at hRV (by omega)
  obtain ⟨hmem,_⟩ := getD_mem' (rs := V) (k := k) (by omega)
  obtain ⟨hpp,hcnt⟩ := HH.out.2.2.2.1 _ hmem
  have hok := hRV.rows _ hmem
  refine ⟨(V.getD k r0).A,(V.getD k r0).c,(V.getD k r0).d.length,fun W hW => ⟨b,o,eA,hc k (by omega) W hW⟩,fun W hW hW2 => ?_,fun W RA rc OA oc rs hW hp => ?_⟩
  ·have hrd : Rd W W.heap.size 1 (V.getD k r0).A (V.getD k r0).d.length (ivs (V.getD k r0).d) := (hok.1.below hW2).more (by have := hW2.size;have := HS.out;omega)
   have := Holds_any (⟨N,gA,gc,P⟩ : Gt) (V.getD k r0).A (V.getD k r0).d.length (V.getD k r0).c (V.getD k r0).d W (HGK.out W hW) hrd hpp rfl
   rw [← hnn]
   refine this.mono ?_
   rintro r w' ⟨e1,e2⟩
   refine ⟨e1.trans ?_,e2⟩
   change Ending.returned (.tuple #[.bool (decide (N ≤ ((cntW (V.getD k r0).d P : Nat) : Int))),.int .i64 0]) = _
   rw [decide_eq_false (by omega)]
  ·have hrd : Rd W W.heap.size 1 (V.getD k r0).A (V.getD k r0).d.length (ivs (V.getD k r0).d) := (hok.1.below hW).more (by have := hW.size;have := HS.out;omega)
   rw [← hnn]
   exact refusesU_any N.toNat P (V.getD k r0).d RA rc OA oc rs _ _ W hp (fun h0 => by have := HH.out.2.2.1 h0;omega) HH.out.1 (by omega) (by have := HH.out.2.1;omega) (by rw [hnn];exact h6) hpp hrd (by have := HH.out.2.2.2.2.2.1;omega)
 have hz2 : s < w2.heap.size := hR2.lt
 have H2 := Lib.hid (And.intro hB2 (And.intro hR2 (And.intro hst hnn)))
 obtain ⟨z,hz⟩ : ∃ x,w2.heap.size = x := ⟨_,rfl⟩
 obtain ⟨w3,hw3⟩ : ∃ x,(w2.alloc (.cells #[.int .i64 (-1),.int .i64 N,.slice gA n gc] 68)) = x := ⟨_,rfl⟩
 have hb3 : Below w2.heap.size w2 w3 := by rw [← hw3];exact (Below.refl _ _).alloc (Nat.le_refl _) _
 have hR3 : Row w3 z 68 [.int .i64 (-1),.int .i64 N,.slice gA n gc] := by rw [← hw3];exact Row.fresh' _ _ _ hz
 have hE3 := hR2.below hb3 hR2.lt
 have HZ := Lib.hid hz
 have HW3 := Lib.hid hw3
 have H3 : Hid (Below w2.heap.size w2 w3 ∧ Below s w w3 ∧ Row w3 z 68 [.int .i64 (-1),.int .i64 N,.slice gA n gc] ∧ Row w3 s 26 [v0,v1,v2,.slice aA m ac,.slice vA nv vc]) := ⟨hb3,hB2.trans (hb3.mono (by have := hR2.lt;omega)),hR3,hE3⟩
 clear hb2 hgok hgz hst hB2 hR2 hnn hz2 hz hw3 hb3 hR3 hE3 HB1 HW1 HGA
 go_wp2_with fail
 rw [HW3.out,HZ.out]
 refine (HMK.out w3 H3.out.1).mono ?_
 rintro x w4 ⟨RA,rc,OA,oc,rs,rfl,hprg,hb4⟩
 obtain ⟨z4,hz4⟩ : ∃ x,w4.heap.size = x := ⟨_,rfl⟩
 obtain ⟨w5,hw5⟩ : ∃ x,(w4.alloc (.cells #[.slice RA n rc,.slice OA n oc] 71)) = x := ⟨_,rfl⟩
 have hb5 : Below w3.heap.size w3 w5 := by rw [← hw5];exact hb4.trans (((Below.refl _ _).alloc (Nat.le_refl _) _).mono hb4.size)
 have h5 : Below w4.heap.size w4 w5 := by rw [← hw5];exact (Below.refl _ _).alloc (Nat.le_refl _) _
 have H5 : Hid (Below w2.heap.size w2 w5 ∧ Below s w w5 ∧ Row w5 z 68 [.int .i64 (-1),.int .i64 N,.slice gA n gc] ∧ Row w5 s 26 [v0,v1,v2,.slice aA m ac,.slice vA nv vc] ∧ Row w5 z4 71 [.slice RA n rc,.slice OA n oc] ∧ Prg w5 w5.heap.size N.toNat P RA rc OA oc rs) :=
  ⟨H3.out.1.trans (hb5.mono H3.out.1.size),H3.out.2.1.trans (hb5.mono (by have := H3.out.2.2.2.lt;omega)),H3.out.2.2.1.below hb5 H3.out.2.2.1.lt,H3.out.2.2.2.below hb5 H3.out.2.2.2.lt,by rw [← hw5];exact Row.fresh' _ _ _ hz4,(hprg.below h5).more h5.size⟩
 have HW5 := Lib.hid hw5
 have HZ4 := Lib.hid hz4
 have p4 : w5.cell? ⟨s,4,none⟩ = some (.slice vA nv vc) := H5.out.2.2.2.1.cell (i := 4) rfl
 rw [← hw5] at p4
 have lz : s < w4.heap.size := by have := H3.out.2.2.2.lt;have := hb4.size;omega
 clear hprg hb4 hz4 hw5 hb5 h5 H3 HMK HW3
 go_wp2_with fail
 rw [HW5.out,HZ4.out]
 clear p4 lz
 go_loopw [48] (fun i wr => ∃ k : Nat,k ≤ nv ∧ i = .int .i64 k ∧ Below w5.heap.size w5 wr) (fun i _ => nv - (intOf i).toNat)
 case atStart => exact ⟨0,Nat.zero_le _,rfl,Below.refl _ _⟩
 case round =>
  obtain ⟨k,hk,rfl,hbw⟩ := hrel
  have hW : ∀ W,Below wr.heap.size wr W → Below w2.heap.size w2 W ∧ Below s w W ∧ Row W z 68 [.int .i64 (-1),.int .i64 N,.slice gA n gc] ∧ Row W s 26 [v0,v1,v2,.slice aA m ac,.slice vA nv vc] ∧ Row W z4 71 [.slice RA n rc,.slice OA n oc] ∧ Prg W W.heap.size N.toNat P RA rc OA oc rs := fun W hW => by
   have hb := hbw.trans (hW.mono hbw.size)
   exact ⟨H5.out.1.trans (hb.mono H5.out.1.size),H5.out.2.1.trans (hb.mono (by have := H5.out.2.2.2.1.lt;omega)),H5.out.2.2.1.below hb H5.out.2.2.1.lt,H5.out.2.2.2.1.below hb H5.out.2.2.2.1.lt,H5.out.2.2.2.2.1.below hb H5.out.2.2.2.2.1.lt,(H5.out.2.2.2.2.2.below hb).more hb.size⟩
  have HW := Lib.hid (And.intro hbw hW)
  clear hbw hW
  by_cases hlt : k < nv
  ·obtain ⟨A,c,l,hc,hHO,hRF⟩ := HHV.out k hlt
   obtain ⟨b,o,eA,q0⟩ := hc wr (HW.out.2 wr (Below.refl _ _)).2.1
   subst eA
   have k1 : (k : Int) < (nv : Int) := by omega
   have k0 : (0 : Int) ≤ (k : Int) := by omega
   have g0 := (HW.out.2 wr (Below.refl _ _)).2.2.1.cell (i := 0) rfl
   have g1 := (HW.out.2 wr (Below.refl _ _)).2.2.1.cell (i := 1) rfl
   have g2 := (HW.out.2 wr (Below.refl _ _)).2.2.1.cell (i := 2) rfl
   have HHO := Lib.hid (hHO wr (HW.out.2 wr (Below.refl _ _)).1 (HW.out.2 wr (Below.refl _ _)).2.1)
   have HRF := Lib.hid hRF
   clear hc hHO hRF
   go_wp2_with (first | (go_at_call 26;refine HHO.out.mono ?_;rintro x w6 ⟨rfl,hb6⟩;have HB6 := Lib.hid hb6;have c0 := (HW.out.2 w6 hb6).2.2.2.2.1.cell (i := 0) rfl;have c1 := (HW.out.2 w6 hb6).2.2.2.2.1.cell (i := 1) rfl;clear hb6 g0 g1 g2 q0) | (go_at_call 27;refine (HRF.out w6 RA rc OA oc rs (HW.out.2 w6 HB6.out).2.1 (HW.out.2 w6 HB6.out).2.2.2.2.2).mono ?_;rintro x w7 ⟨v7,rfl,hb7⟩;have HB7 : Hid (Below w5.heap.size w5 w7) := HW.out.1.trans ((HB6.out.trans (hb7.mono HB6.out.size)).mono HW.out.1.size);clear hb7 c0 c1))
   go_roundw
   case rel => exact ⟨k + 1,by omega,by go_num,HB7.out⟩
   case measure => simp [intOf];omega
  ·obtain rfl : k = nv := by omega
   have hal := HH.out.2.2.2.2.2.2
   have g0 := (HW.out.2 wr (Below.refl _ _)).2.2.1.cell (i := 0) rfl
   have g1 := (HW.out.2 wr (Below.refl _ _)).2.2.1.cell (i := 1) rfl
   have g2 := (HW.out.2 wr (Below.refl _ _)).2.2.1.cell (i := 2) rfl
   have a3 := (HW.out.2 wr (Below.refl _ _)).2.2.2.1.cell (i := 3) rfl
   by_cases hR : N ≤ ((cntW AL P : Nat) : Int)
   ·rw [decide_eq_true hR] at hal
    subst hal
    have HR := Lib.hid hR
    clear hR HHV HRA HRV
    go_wp2_with (first | (go_at_call 28;refine (HLV.out wr (HW.out.2 wr (Below.refl _ _)).1 (HW.out.2 wr (Below.refl _ _)).2.1).mono ?_;rintro x w7 ⟨h7,hb7⟩;obtain ⟨_,hP0,el,eA,ek,hel,hes,rfl,herd,hek,hekm⟩ := h7.resolve_right (fun h => by have h1 := h.1;have h2 := HR.out;omega);have H7 := Lib.hid (And.intro hP0 (And.intro hel (And.intro hes (And.intro herd hb7))));clear hP0 hel hes herd hek hekm h7 hb7 g0 g1 g2 a3;have g0 := (HW.out.2 w7 H7.out.2.2.2.2).2.2.1.cell (i := 0) rfl;have g1 := (HW.out.2 w7 H7.out.2.2.2.2).2.2.1.cell (i := 1) rfl;have g2 := (HW.out.2 w7 H7.out.2.2.2.2).2.2.1.cell (i := 2) rfl;have a3 := (HW.out.2 w7 H7.out.2.2.2.2).2.2.2.1.cell (i := 3) rfl) | (go_at_call 29;refine (HDD.out w7 (HW.out.2 w7 H7.out.2.2.2.2).1 (HW.out.2 w7 H7.out.2.2.2.2).2.1).mono ?_;rintro x w8 ⟨h8,hb8⟩;obtain ⟨_,rfl⟩ := h8.resolve_right (fun h => by have h1 := h.1;have h2 := HR.out;omega);have H8 : Hid (Below wr.heap.size wr w8 ∧ Below w7.heap.size w7 w8) := ⟨H7.out.2.2.2.2.trans (hb8.mono H7.out.2.2.2.2.size),hb8⟩;clear h8 hb8 g0 g1 g2 a3;have g0 := (HW.out.2 w8 H8.out.1).2.2.1.cell (i := 0) rfl;have g1 := (HW.out.2 w8 H8.out.1).2.2.1.cell (i := 1) rfl;have g2 := (HW.out.2 w8 H8.out.1).2.2.1.cell (i := 2) rfl;have a3 := (HW.out.2 w8 H8.out.1).2.2.2.1.cell (i := 3) rfl) | (go_at_call 30;refine (HMG.out w8 (HW.out.2 w8 H8.out.1).1 (HW.out.2 w8 H8.out.1).2.1).mono ?_;rintro x w9 ⟨h9,hb9⟩;obtain ⟨_,ml,mA,mk,hml,rfl,_⟩ := h9.resolve_right (fun h => by have h1 := h.1;have h2 := HR.out;omega);have H9 : Hid (Below wr.heap.size wr w9 ∧ Below w7.heap.size w7 w9) := ⟨H8.out.1.trans (hb9.mono H8.out.1.size),H8.out.2.trans (hb9.mono H8.out.2.size)⟩;clear h9 hb9 g0 g1 g2 a3;have c0 := (HW.out.2 w9 H9.out.1).2.2.2.2.1.cell (i := 0) rfl;have c1 := (HW.out.2 w9 H9.out.1).2.2.2.2.1.cell (i := 1) rfl;have hml : (1 : Int) ≤ (ml.length : Int) := by omega) | (go_at_call 31;refine (show Calls Tryz.prog 31 #[.agg #[.slice RA n rc,.slice OA n oc],.slice eA el.length ek] w9 (fun r w' => ∃ yb,r = .returned (.tuple #[.slice (some ⟨yb,0,none⟩) n n,.bool true,.int .i64 0]) ∧ Below w9.heap.size w9 w') from by rw [← H2.out.2.2.2];exact acceptsU_any N.toNat P el RA rc OA oc rs eA ek w9 (HW.out.2 w9 H9.out.1).2.2.2.2.2 H7.out.1 HH.out.1 (by omega) (by have := HH.out.2.1;omega) (by rw [H2.out.2.2.2];exact h6) H7.out.2.2.1 (by have := H7.out.2.1;omega) ((H7.out.2.2.2.1.below H9.out.2).more H9.out.2.size)).mono ?_;rintro x w10 ⟨yb,rfl,hb10⟩;have H10 : Hid (Below wr.heap.size wr w10) := H9.out.1.trans (hb10.mono H9.out.1.size);clear hb10 c0 c1;have c0 := (HW.out.2 w10 H10.out).2.2.2.2.1.cell (i := 0) rfl;have g1 := (HW.out.2 w10 H10.out).2.2.1.cell (i := 1) rfl;have hel := H7.out.2.1))
    go_ret
    exact ⟨rfl,(HW.out.2 w10 H10.out).2.1⟩
   ·rw [decide_eq_false hR] at hal
    subst hal
    have HR := Lib.hid hR
    clear hR HHV HRA
    go_wp2_with (first | (go_at_call 28;refine (HLV.out wr (HW.out.2 wr (Below.refl _ _)).1 (HW.out.2 wr (Below.refl _ _)).2.1).mono ?_;rintro x w7 ⟨h7,hb7⟩;obtain ⟨_,rfl⟩ := h7.resolve_left (fun h => by have h1 := h.1;have h2 := HR.out;omega);have H7 := Lib.hid hb7;clear h7 hb7 g0 g1 g2 a3;have g0 := (HW.out.2 w7 H7.out).2.2.1.cell (i := 0) rfl;have g1 := (HW.out.2 w7 H7.out).2.2.1.cell (i := 1) rfl;have g2 := (HW.out.2 w7 H7.out).2.2.1.cell (i := 2) rfl;have a3 := (HW.out.2 w7 H7.out).2.2.2.1.cell (i := 3) rfl) | (go_at_call 29;refine (HDD.out w7 (HW.out.2 w7 H7.out).1 (HW.out.2 w7 H7.out).2.1).mono ?_;rintro x w8 ⟨h8,hb8⟩;obtain ⟨_,bl,bA,bk,hdis,hbl6,rfl,hbrd⟩ := h8.resolve_left (fun h => by have h1 := h.1;have h2 := HR.out;omega);have H8 : Hid (Below wr.heap.size wr w8 ∧ (∀ p ∈ bl,¬ p ∈ AL) ∧ bl.length ≤ 6 ∧ Rd w8 w8.heap.size 1 bA bl.length (ivs bl)) := ⟨H7.out.trans (hb8.mono H7.out.size),hdis,hbl6,hbrd⟩;clear h8 hb8 hdis hbl6 hbrd g0 g1 g2 a3;have g0 := (HW.out.2 w8 H8.out.1).2.2.1.cell (i := 0) rfl;have g1 := (HW.out.2 w8 H8.out.1).2.2.1.cell (i := 1) rfl;have g2 := (HW.out.2 w8 H8.out.1).2.2.1.cell (i := 2) rfl;have a3 := (HW.out.2 w8 H8.out.1).2.2.2.1.cell (i := 3) rfl) | (go_at_call 30;refine (HMG.out w8 (HW.out.2 w8 H8.out.1).1 (HW.out.2 w8 H8.out.1).2.1).mono ?_;rintro x w9 ⟨h9,hb9⟩;obtain ⟨_,rfl⟩ := h9.resolve_left (fun h => by have h1 := h.1;have h2 := HR.out;omega);have H9 : Hid (Below wr.heap.size wr w9 ∧ Rd w9 w9.heap.size 1 bA bl.length (ivs bl)) := ⟨H8.out.1.trans (hb9.mono H8.out.1.size),(H8.out.2.2.2.below hb9).more hb9.size⟩;clear h9 hb9 g0 g1 g2 a3;have a3 := (HW.out.2 w9 H9.out.1).2.2.2.1.cell (i := 3) rfl))
    obtain ⟨nb,hnb⟩ : ∃ x,bl.length = x := ⟨_,rfl⟩
    obtain ⟨hB9,hrd9⟩ := H9.out
    have hnb6 : nb ≤ 6 := by rw [← hnb];exact H8.out.2.2.1
    have hm64 : m ≤ 64 := by rw [← HRV.out.2.2.1];exact HH.out.2.2.2.2.1.len
    rw [hnb] at hrd9 ⊢
    have HBL : Hid (∀ j,j < nb → ∃ b o,bA = some ⟨b,o,none⟩ ∧ w9.cell? ⟨b,o + j,none⟩ = some (.int .i64 (bl.getD j 0)) ∧ ¬ bl.getD j 0 ∈ AL) := fun j hj => by
     obtain ⟨_,b,o,e1,_,hc⟩ := i64at hrd9 hj
     refine ⟨b,o,e1,hc j hj w9 (Below.refl _ _),H8.out.2.1 _ ?_⟩
     rw [List.getD_eq_getElem?_getD,List.getElem?_eq_getElem (by omega)]
     exact List.getElem_mem _
    have HAL : Hid (∀ j,j < m → ∃ b o,aA = some ⟨b,o,none⟩ ∧ w9.cell? ⟨b,o + j,none⟩ = some (.int .i64 (AL.getD j 0)) ∧ AL.getD j 0 ∈ AL) := fun j hj => by
     have hra := HRV.out.2.1
     rw [HRV.out.2.2.1] at hra
     obtain ⟨_,b,o,e1,_,hc⟩ := i64at hra hj
     refine ⟨b,o,e1,hc j hj w9 (HW.out.2 w9 hB9).2.1,?_⟩
     rw [List.getD_eq_getElem?_getD,List.getElem?_eq_getElem (by have := HRV.out.2.2.1;omega)]
     exact List.getElem_mem _
    have HA3 := Lib.hid a3
    have HFIN := Lib.hid (HW.out.2 w9 hB9).2.1
    clear a3 hB9 hrd9 hnb
    go_loopw [132] (fun i wx => w9 = wx ∧ ∃ j : Nat,j ≤ nb ∧ i = .int .i64 j) (fun i _ => nb - (intOf i).toNat)
    case atStart => exact ⟨rfl,0,Nat.zero_le _,rfl⟩
    case round =>
     obtain ⟨rfl,j,hj,rfl⟩ := hrel
     by_cases hjl : j < nb
     ·obtain ⟨b,o,e1,q0,hno⟩ := HBL.out j hjl
      subst e1
      obtain ⟨X,hX⟩ : ∃ x,bl.getD j 0 = x := ⟨_,rfl⟩
      rw [hX] at q0 hno
      have HNO := Lib.hid hno
      have a3 := HA3.out
      have k1 : (j : Int) < (nb : Int) := by omega
      have k0 : (0 : Int) ≤ (j : Int) := by omega
      clear hno hX
      go_wp2_with fail
      clear q0
      go_loopw [139] (fun i wx => w9 = wx ∧ ∃ p : Nat,p ≤ m ∧ i = .int .i64 p) (fun i _ => m - (intOf i).toNat)
      case atStart => exact ⟨rfl,0,Nat.zero_le _,rfl⟩
      case round =>
       obtain ⟨rfl,p,hp,rfl⟩ := hrel
       by_cases hpl : p < m
       ·obtain ⟨b',o',e1,q0,hin⟩ := HAL.out p hpl
        subst e1
        obtain ⟨Y,hY⟩ : ∃ x,AL.getD p 0 = x := ⟨_,rfl⟩
        rw [hY] at q0 hin
        have hXY : ¬ (X = Y) := fun e => HNO.out (by rw [e];exact hin)
        have l1 : (p : Int) < (m : Int) := by omega
        have l0 : (0 : Int) ≤ (p : Int) := by omega
        clear hin hY
        go_wp2_with fail
        go_roundw
        case rel => exact ⟨trivial,p + 1,by omega,by go_num⟩
        case measure => simp [intOf];omega
       ·obtain rfl : p = m := by omega
        go_wp2_with fail
        go_roundw
        case rel => exact ⟨trivial,j + 1,by omega,by go_num⟩
        case measure => simp [intOf];omega
     ·obtain rfl : j = nb := by omega
      go_wp2_with fail
      go_ret
      exact ⟨rfl,HFIN.out⟩
end Go.Proofs.YtjcpjhlclpdpjaaGreat
namespace Go.Proofs.YtjcpjhlclpdpjaaGreat
open Go.RowKit
theorem inc_ext {a b : List Int} (ha : a.Pairwise (· < ·)) (hb : b.Pairwise (· < ·)) (h : ∀ x,x ∈ a ↔ x ∈ b) : a = b :=
 ((List.perm_ext_iff_of_nodup (ha.imp fun h => Int.ne_of_lt h) (hb.imp fun h => Int.ne_of_lt h)).2 h).eq_of_pairwise (fun a b _ _ h1 h2 => absurd h1 (by omega)) ha hb
def Est.mem (e : Est) (m : Nat) : List Int := ((List.range e.H.length).filter fun i => m.testBit i).map fun i => (e.gh i).p
section
variable {e : Est}
theorem Est.Right.inc (h : e.Right) {i j : Nat} (hij : i < j) (hj : j < e.H.length) : (e.gh i).p < (e.gh j).p := by
 induction j with
 | zero => omega
 | succ j ih =>
  have h1 := (h.h (j + 1) hj).up (by omega)
  rw [Nat.add_sub_cancel] at h1
  rcases Nat.lt_or_ge i j with h2 | h2
  ·have := ih h2 (by omega);omega
  ·rw [show i = j by omega];exact h1
theorem Est.Right.ix (h : e.Right) {i : Nat} (hi : i < e.H.length) : e.ix (e.gh i).p = i := by
 unfold Est.ix
 rw [idx_at hi rfl (fun j hj he => by have := h.inc hj hi;omega)]
 rfl
theorem Est.mem_iff {m : Nat} {p : Int} : p ∈ e.mem m ↔ ∃ i,i < e.H.length ∧ m.testBit i = true ∧ (e.gh i).p = p := by
 unfold Est.mem
 rw [List.mem_map]
 constructor
 ·rintro ⟨i,hi,rfl⟩
  rw [List.mem_filter,List.mem_range] at hi
  exact ⟨i,hi.1,hi.2,rfl⟩
 ·rintro ⟨i,h1,h2,rfl⟩
  exact ⟨i,List.mem_filter.2 ⟨List.mem_range.2 h1,h2⟩,rfl⟩
theorem Est.mem_at (h : e.Right) {m i : Nat} (hi : i < e.H.length) : (e.gh i).p ∈ e.mem m ↔ m.testBit i = true := by
 rw [Est.mem_iff]
 constructor
 ·rintro ⟨j,hj,hb,hp⟩
  have h1 := h.ix hj
  rw [hp,h.ix hi] at h1
  rw [h1];exact hb
 ·intro hb
  exact ⟨i,hi,hb,rfl⟩
theorem Est.mem_inc (h : e.Right) (m : Nat) : (e.mem m).Pairwise (· < ·) := by
 unfold Est.mem
 rw [List.pairwise_map]
 have h1 : ((List.range e.H.length).filter fun i => m.testBit i).Pairwise (· < ·) := List.pairwise_lt_range.sublist List.filter_sublist
 refine h1.imp_of_mem fun {a b} ha hb hab => ?_
 exact h.inc hab (List.mem_range.1 (List.mem_filter.1 hb).1)
theorem Est.mem_ppl (h : e.Right) (m : Nat) : Ppl (e.mem m) :=
 ⟨Est.mem_inc h m,fun p hp => by obtain ⟨i,hi,_,rfl⟩ := Est.mem_iff.1 hp;exact (h.h i hi).p0,fun p hp => by obtain ⟨i,hi,_,rfl⟩ := Est.mem_iff.1 hp;exact (h.h i hi).p1⟩
theorem Est.isH.inc {l : List Int} (h : e.isH l l.length) : l.Pairwise (· < ·) := by
 have key : ∀ i j,i < j → j < l.length → l.getD i 0 < l.getD j 0 := by
  intro i j hij hj
  induction j with
  | zero => omega
  | succ j ih =>
   have h1 := (h (j + 1) hj).2 (by omega)
   rw [Nat.add_sub_cancel] at h1
   rcases Nat.lt_or_ge i j with h2 | h2
   ·have := ih h2 (by omega);omega
   ·rw [show i = j by omega];exact h1
 refine List.pairwise_iff_getElem.2 fun i j hi hj hij => ?_
 have := key i j hij hj
 rwa [List.getD_eq_getElem?_getD,List.getElem?_eq_getElem hi,List.getD_eq_getElem?_getD,List.getElem?_eq_getElem hj] at this
theorem Est.isH.heir {l : List Int} (h : e.isH l l.length) {p : Int} (hp : p ∈ l) : e.ix p < e.H.length ∧ (e.gh (e.ix p)).p = p := by
 have h1 := h.good p hp
 rcases idx_range e p with h2 | h2
 ·omega
 ·unfold Est.ix at *;exact ⟨by omega,h2.2.2⟩
theorem Est.isH.ppl {l : List Int} (hR : e.Right) (h : e.isH l l.length) : Ppl l :=
 ⟨h.inc,fun p hp => by obtain ⟨h1,h2⟩ := h.heir hp;rw [← h2];exact (hR.h _ h1).p0,fun p hp => by obtain ⟨h1,h2⟩ := h.heir hp;rw [← h2];exact (hR.h _ h1).p1⟩
theorem orPow_bit (l : List Nat) (i : Nat) : (orPow l).testBit i = decide (i ∈ l) := by
 have key : ∀ (l : List Nat) (m : Nat),(l.foldl (fun m i => m ||| 2 ^ i) m).testBit i = (m.testBit i || decide (i ∈ l)) := by
  intro l
  induction l with
  | nil => intro m;simp
  | cons a l ih =>
   intro m
   rw [List.foldl_cons,ih,Nat.testBit_or,Nat.testBit_two_pow,Bool.or_assoc]
   congr 1
   by_cases h1 : a = i
   ·subst h1;simp
   ·have h2 : ¬ i = a := fun h => h1 h.symm
    simp [h1,h2]
 have h := key l 0
 simpa [orPow] using h
theorem Est.st_bit {l : List Int} (hR : e.Right) (h : e.isH l l.length) {i : Nat} (hi : i < e.H.length) : (e.st l).testBit i = decide ((e.gh i).p ∈ l) := by
 unfold Est.st
 rw [orPow_bit]
 congr 1
 refine propext ⟨fun hm => ?_,fun hm => ?_⟩
 ·obtain ⟨p,hp,rfl⟩ := List.mem_map.1 hm
  rw [(h.heir hp).2];exact hp
 ·exact List.mem_map.2 ⟨_,hm,hR.ix hi⟩
theorem range_six {n : Nat} (hn : n ≤ 6) (g : Nat → Bool) (hg : ∀ i,n ≤ i → g i = false) : ([0,1,2,3,4,5] : List Nat).filter g = (List.range n).filter g := by
 have h : ([0,1,2,3,4,5] : List Nat) = List.range (n + (6 - n)) := by rw [show n + (6 - n) = 6 by omega];rfl
 rw [h,List.range_add,List.filter_append]
 have h2 : ((List.range (6 - n)).map (n + ·)).filter g = [] := by
  rw [List.filter_eq_nil_iff]
  intro a ha
  obtain ⟨b,_,rfl⟩ := List.mem_map.1 ha
  rw [hg _ (by omega)];simp
 rw [h2,List.append_nil]
theorem bit_ge {m n i : Nat} (hm : m < 2 ^ n) (hi : n ≤ i) : m.testBit i = false := Nat.testBit_lt_two_pow (Nat.lt_of_lt_of_le hm (Nat.pow_le_pow_right (by omega) hi))
theorem Est.mem_len (hn : e.H.length ≤ 6) {m : Nat} (hm : m < 2 ^ e.H.length) : (e.mem m).length = pc m := by
 unfold Est.mem pc cntIn
 rw [List.length_map,range_six hn _ (fun i hi => bit_ge hm hi)]
theorem Est.cnt (hR : e.Right) (hn : e.H.length ≤ 6) {l : List Int} (h : e.isH l l.length) (m : Nat) : cntW l (e.mem m) = pc (m &&& e.st l) := by
 unfold cntW Est.mem pc cntIn
 rw [List.filter_map,List.length_map,List.filter_filter,range_six hn _ (fun i hi => by rw [Nat.testBit_and,bit_ge (Est.st_lt h) hi,Bool.and_false])]
 congr 1
 refine List.filter_congr fun i hi => ?_
 have hi := List.mem_range.1 hi
 rw [Nat.testBit_and,Est.st_bit hR h hi,Bool.and_comm]
 rfl
theorem Est.mem_st (hR : e.Right) {l : List Int} (h : e.isH l l.length) : e.mem (e.st l) = l := by
 refine inc_ext (Est.mem_inc hR _) h.inc fun x => ?_
 rw [Est.mem_iff]
 constructor
 ·rintro ⟨i,hi,hb,rfl⟩
  rw [Est.st_bit hR h hi] at hb
  exact of_decide_eq_true hb
 ·intro hx
  obtain ⟨h1,h2⟩ := h.heir hx
  exact ⟨_,h1,by rw [Est.st_bit hR h h1,h2];exact decide_eq_true hx,h2⟩
end
def insO (p : Int) : List Int → List Int
 | [] => [p]
 | q :: L => if p < q then p :: q :: L else q :: insO p L
theorem insO_mem (p : Int) : ∀ (L : List Int) (x : Int),x ∈ insO p L ↔ x = p ∨ x ∈ L
 | [],x => by simp [insO]
 | q :: L,x => by
  unfold insO
  split
  ·simp
  ·simp only [List.mem_cons,insO_mem p L x]
   constructor
   ·rintro (h | h | h)
    ·exact .inr (.inl h)
    ·exact .inl h
    ·exact .inr (.inr h)
   ·rintro (h | h | h)
    ·exact .inr (.inl h)
    ·exact .inl h
    ·exact .inr (.inr h)
theorem insO_inc (p : Int) : ∀ (L : List Int),L.Pairwise (· < ·) → ¬ p ∈ L → (insO p L).Pairwise (· < ·)
 | [],_,_ => by simp [insO]
 | q :: L,h,hp => by
  obtain ⟨h1,h2⟩ := List.pairwise_cons.1 h
  have hpq : p ≠ q := fun e => hp (by simp [e])
  unfold insO
  split
  ·rename_i hlt
   refine List.pairwise_cons.2 ⟨fun a ha => ?_,h⟩
   rcases List.mem_cons.1 ha with rfl | ha
   ·exact hlt
   ·have := h1 a ha;omega
  ·rename_i hlt
   refine List.pairwise_cons.2 ⟨fun a ha => ?_,insO_inc p L h2 (fun hm => hp (List.mem_cons_of_mem _ hm))⟩
   rcases (insO_mem p L a).1 ha with rfl | ha
   ·omega
   ·exact h1 a ha
theorem aft_true (p : Int) : ∀ (L : List Int) (a : List Int),¬ p ∈ L → L.foldl (aftS 1 p) (a,true) = (a ++ L,true)
 | [],a,_ => by simp
 | q :: L,a,hp => by
  have hq : q ≠ p := fun e => hp (by simp [e])
  rw [List.foldl_cons,show aftS 1 p (a,true) q = (a ++ [q],true) by unfold aftS;simp [hq],aft_true p L _ (fun h => hp (List.mem_cons_of_mem _ h))]
  simp
theorem aft_false (p : Int) : ∀ (L : List Int) (a : List Int),¬ p ∈ L → (if (L.foldl (aftS 1 p) (a,false)).2 = false then (L.foldl (aftS 1 p) (a,false)).1 ++ [p] else (L.foldl (aftS 1 p) (a,false)).1) = a ++ insO p L
 | [],a,_ => by simp [insO]
 | q :: L,a,hp => by
  have hq : q ≠ p := fun e => hp (by simp [e])
  have hL : ¬ p ∈ L := fun h => hp (List.mem_cons_of_mem _ h)
  rw [List.foldl_cons]
  by_cases hlt : p < q
  ·rw [show aftS 1 p (a,false) q = (a ++ [p] ++ [q],true) by unfold aftS;simp [hq,hlt],aft_true p L _ hL]
   simp [insO,hlt]
  ·rw [show aftS 1 p (a,false) q = (a ++ [q],false) by unfold aftS;simp [hq,hlt],aft_false p L _ hL]
   simp [insO,hlt]
theorem aft_join {p : Int} {L : List Int} (hp : ¬ p ∈ L) : aft 1 p L = insO p L := by
 have h := aft_false p L [] hp
 unfold aft aftT
 simp only [true_and]
 simpa using h
theorem aft_drop (p : Int) : ∀ (L : List Int) (a : List Int) (b : Bool),(L.foldl (aftS 2 p) (a,b)).1 = a ++ L.filter fun q => decide (q ≠ p)
 | [],a,b => by simp
 | q :: L,a,b => by
  rw [List.foldl_cons]
  by_cases hq : q = p
  ·rw [show aftS 2 p (a,b) q = (a,true) by unfold aftS;simp [hq],aft_drop p L]
   simp [hq]
  ·rw [show aftS 2 p (a,b) q = (a ++ [q],b) by unfold aftS;simp [hq],aft_drop p L]
   simp [hq]
theorem aft_leave (p : Int) (L : List Int) : aft 2 p L = L.filter fun q => decide (q ≠ p) := by
 have h := aft_drop p L [] false
 unfold aft aftT
 rw [if_neg (by simp)]
 simpa using h
section
variable {e : Est}
theorem Est.step (hR : e.Right) {m κ i : Nat} (hκ : κ < 2) (hi : i < e.H.length) (hp : pos m κ i = true) :
  aft (e.way m κ i).k (e.way m κ i).p (e.mem m) = e.mem (e.way m κ i).t ∧ (decide ((e.way m κ i).p ∈ e.mem m) == decide ((e.way m κ i).k = 2)) = true := by
 have hfb : ∀ j,(m ^^^ 2 ^ i).testBit j = if j = i then !m.testBit i else m.testBit j := fun j => by
  by_cases hj : j = i
  ·subst hj;rw [if_pos rfl,flip_bit]
  ·rw [if_neg hj,Nat.testBit_xor,Nat.testBit_two_pow,decide_eq_false (fun h => hj h.symm),Bool.xor_false]
 have hat := Est.mem_at hR (m := m) hi
 rcases Nat.lt_or_ge κ 1 with h0 | h0
 ·have : κ = 0 := by omega
  subst this
  have hb : m.testBit i = false := by simpa [pos] using hp
  have hni : ¬ (e.gh i).p ∈ e.mem m := fun h => by rw [hat,hb] at h;cases h
  refine ⟨?_,?_⟩
  ·show aft (((0 : Nat) : Int) + 1) (e.gh i).p (e.mem m) = e.mem (m ^^^ 2 ^ i)
   rw [show (((0 : Nat) : Int) + 1) = 1 by omega,aft_join hni]
   refine inc_ext (insO_inc _ _ (Est.mem_inc hR m) hni) (Est.mem_inc hR _) fun x => ?_
   rw [insO_mem,Est.mem_iff,Est.mem_iff]
   constructor
   ·rintro (rfl | ⟨j,hj,hbj,rfl⟩)
    ·exact ⟨i,hi,by rw [hfb,if_pos rfl,hb];rfl,rfl⟩
    ·exact ⟨j,hj,by rw [hfb,if_neg (fun e => by rw [e,hb] at hbj;cases hbj)];exact hbj,rfl⟩
   ·rintro ⟨j,hj,hbj,rfl⟩
    by_cases hji : j = i
    ·subst hji;exact .inl rfl
    ·rw [hfb,if_neg hji] at hbj
     exact .inr ⟨j,hj,hbj,rfl⟩
  ·show (decide ((e.gh i).p ∈ e.mem m) == decide (((0 : Nat) : Int) + 1 = 2)) = true
   rw [decide_eq_false hni]
   rfl
 ·have : κ = 1 := by omega
  subst this
  have hb : m.testBit i = true := by simpa [pos] using hp
  have hii : (e.gh i).p ∈ e.mem m := hat.2 hb
  refine ⟨?_,?_⟩
  ·show aft (((1 : Nat) : Int) + 1) (e.gh i).p (e.mem m) = e.mem (m ^^^ 2 ^ i)
   rw [show (((1 : Nat) : Int) + 1) = 2 by omega,aft_leave]
   refine inc_ext ((Est.mem_inc hR m).sublist List.filter_sublist) (Est.mem_inc hR _) fun x => ?_
   rw [List.mem_filter,Est.mem_iff,Est.mem_iff]
   constructor
   ·rintro ⟨⟨j,hj,hbj,rfl⟩,hne⟩
    have hne := of_decide_eq_true hne
    exact ⟨j,hj,by rw [hfb,if_neg (fun e => hne (by rw [e]))];exact hbj,rfl⟩
   ·rintro ⟨j,hj,hbj,rfl⟩
    rw [hfb] at hbj
    by_cases hji : j = i
    ·rw [if_pos hji,hb] at hbj;cases hbj
    ·rw [if_neg hji] at hbj
     refine ⟨⟨j,hj,hbj,rfl⟩,decide_eq_true fun hpp => hji ?_⟩
     have h1 := hR.ix hj
     rw [hpp,hR.ix hi] at h1
     exact h1.symm
  ·show (decide ((e.gh i).p ∈ e.mem m) == decide (((1 : Nat) : Int) + 1 = 2)) = true
   rw [decide_eq_true hii]
   rfl
theorem Est.nd_ok (hR : e.Right) (hn : e.H.length ≤ 6) {m : Nat} (hm : m < 2 ^ e.H.length) : e.n.d[(e.mem m).length]? = some (e.nd m) ∧ 1 ≤ e.nd m ∧ e.nd m ≤ 60 ∧ (e.mem m = [] → e.nd m = 1) := by
 have hl := Est.mem_len hn hm
 have hp := pc_le hn hm
 have h1 : e.n.d[(e.mem m).length]? = some (e.nd m) := by
  rw [hl]
  unfold Est.nd
  rw [List.getD_eq_getElem?_getD,List.getElem?_eq_getElem (by rw [hR.nl];omega)]
  rfl
 refine ⟨h1,?_⟩
 unfold Est.nd
 rcases Nat.eq_zero_or_pos (pc m) with h0 | h0
 ·rw [h0,hR.n0]
  exact ⟨by omega,by omega,fun _ => rfl⟩
 ·have h2 := hR.h (pc m - 1) (by omega)
  have h3 := h2.n0
  have h4 := h2.n1
  rw [show pc m - 1 + 1 = pc m by omega] at h3 h4
  exact ⟨h3,by omega,fun h => by rw [h] at hl;simp at hl;omega⟩
theorem Est.sf_cnt (hR : e.Right) (hn : e.H.length ≤ 6) {m : Nat} (hs : e.D.sf m) : ∀ c ∈ e.V,Ppl c.d ∧ ((cntW c.d (e.mem m) : Nat) : Int) < e.nd m := fun c hc => by
 refine ⟨Est.isH.ppl hR (hR.v c hc),?_⟩
 rw [Est.cnt hR hn (hR.v c hc)]
 have hs : e.sf (e.V.map fun r => e.st r.d) m = true := hs
 unfold Est.sf at hs
 rw [Bool.not_eq_true',List.any_eq_false] at hs
 have h1 := hs _ (List.mem_map.2 ⟨c,hc,rfl⟩)
 unfold Est.en at h1
 simp at h1
 omega
theorem Est.lv_cnt (hR : e.Right) (hn : e.H.length ≤ 6) (m : Nat) : e.D.lv m ↔ e.nd m ≤ ((cntW e.a.d (e.mem m) : Nat) : Int) := by
 rw [Est.cnt hR hn hR.a]
 show (e.en m (e.st e.a.d)) = true ↔ _
 unfold Est.en
 rw [decide_eq_true_iff]
end
theorem or_add_all : ∀ m < 64,∀ i < 6,m.testBit i = false → m ||| 2 ^ i = m + 2 ^ i := by decide +kernel
theorem sumPow_or : ∀ (l : List Nat),l.Nodup → (∀ i ∈ l,i < 6) → sumPow l = orPow l := fun l => by
 have key : ∀ (k : Nat) (l : List Nat),l.length = k → l.Nodup → (∀ i ∈ l,i < 6) → sumPow l = orPow l := by
  intro k
  induction k with
  | zero => intro l hl _ _;rw [List.length_eq_zero_iff.1 hl];rfl
  | succ k ih =>
   intro l hl hd h6
   obtain ⟨l',i,rfl⟩ : ∃ l' i,l = l' ++ [i] := ⟨l.dropLast,l.getLast (fun e => by rw [e] at hl;cases hl),(List.dropLast_concat_getLast _).symm⟩
   have hd' := List.nodup_append.1 hd
   have h6' : ∀ j ∈ l',j < 6 := fun j hj => h6 j (List.mem_append_left _ hj)
   have h1 := ih l' (by simpa using hl) hd'.1 h6'
   have hi : i < 6 := h6 i (by simp)
   rw [sumPow_app,orPow_snoc,or_add_all _ (orPow_lt (n := 6) h6') i hi (by rw [orPow_bit];exact decide_eq_false fun h => hd'.2.2 i h i (by simp) rfl),h1]
   simp [sumPow]
 exact key l.length l rfl
theorem Est.number {e : Est} (hR : e.Right) (hn : e.H.length ≤ 6) {l : List Int} (h : e.isH l l.length) : sumPow (l.map e.ix) = e.st l := by
 unfold Est.st
 refine sumPow_or _ ?_ fun i hi => ?_
 ·have h1 : (l.map e.ix).Pairwise (· ≠ ·) := by
   rw [List.pairwise_map]
   refine h.inc.imp_of_mem fun {a b} ha hb hab he => ?_
   have h1 := (h.heir ha).2
   rw [he,(h.heir hb).2] at h1
   omega
  exact h1
 ·obtain ⟨p,hp,rfl⟩ := List.mem_map.1 hi
  have := (h.heir hp).1
  omega
theorem Est.safe_sf {e : Est} (hR : e.Right) (hn : e.H.length ≤ 6) {m : Nat} (hm : m < 2 ^ e.H.length) (hs : e.safeTo m e.V.length) : e.D.sf m := by
 show e.sf (e.V.map fun r => e.st r.d) m = true
 unfold Est.sf
 rw [Bool.not_eq_true',List.any_eq_false]
 intro c hc
 obtain ⟨r,hr,rfl⟩ := List.mem_map.1 hc
 have h1 := hs r (by rw [List.take_length];exact hr)
 have h2 : cntIn m (List.range e.H.length) = pc m := by
  unfold cntIn pc
  rw [show cntIn m [0,1,2,3,4,5] = (([0,1,2,3,4,5] : List Nat).filter fun i => m.testBit i).length from rfl,range_six hn _ (fun i hi => bit_ge hm hi)]
 have h3 : cntIn m (r.d.map e.ix) = cntW r.d (e.mem m) := by
  have hH := hR.v r hr
  unfold cntIn cntW
  rw [List.filter_map,List.length_map]
  have hl : (r.d.filter ((fun i => m.testBit i) ∘ e.ix)) = ((e.mem m).filter fun p => decide (p ∈ r.d)) := by
   refine inc_ext (hH.inc.sublist List.filter_sublist) ((Est.mem_inc hR m).sublist List.filter_sublist) fun x => ?_
   rw [List.mem_filter,List.mem_filter]
   constructor
   ·rintro ⟨hx,hb⟩
    obtain ⟨g1,g2⟩ := hH.heir hx
    exact ⟨Est.mem_iff.2 ⟨_,g1,hb,g2⟩,decide_eq_true hx⟩
   ·rintro ⟨hx,hb⟩
    have hb := of_decide_eq_true hb
    obtain ⟨i,hi,hbi,rfl⟩ := Est.mem_iff.1 hx
    exact ⟨hb,by show m.testBit (e.ix (e.gh i).p) = true;rw [hR.ix hi];exact hbi⟩
  rw [hl]
 rw [h2,h3,Est.cnt hR hn (hR.v r hr)] at h1
 unfold Est.en Est.nd
 rw [decide_eq_true_iff]
 omega
end Go.Proofs.YtjcpjhlclpdpjaaGreat
namespace Go.Proofs.YtjcpjhlclpdpjaaGreat
open Go.RowKit
attribute [local go_sem] Oper.semAt_some
theorem own_sl {w : World} {b : Nat} {e : TypeId} {sz n : Nat} {v : Value} {xs : List Value} (h : w.ownsRow b e sz v n xs) : ∃ A c,v = .slice A n c ∧ n ≤ c ∧ c ≤ maxLen := by
 rcases h.2 with ⟨h1,h2⟩ | ⟨g,cap,cur,e1,_,_,h3,h4,_⟩
 ·subst h2
  exact ⟨none,0,h1,Nat.le_refl _,by unfold maxLen;omega⟩
 ·exact ⟨_,cap,e1,h3,h4⟩
theorem stage_at {ws : List Way} {k : Nat} {v : Way} (h : ws[k]? = some v) : (stageCells ws)[k * 2]? = some (.int .i64 v.k) ∧ (stageCells ws)[k * 2 + 1]? = some (.int .i64 v.p) :=
 ⟨flat_at2 (fun w : Way => [.int .i64 w.k,.int .i64 w.p]) 2 ws (fun _ _ => rfl) k 0 v h (by omega),flat_at2 (fun w : Way => [.int .i64 w.k,.int .i64 w.p]) 2 ws (fun _ _ => rfl) k 1 v h (by omega)⟩
theorem rcheck_any (e : Est) (w : World) (h : e.ok w w.heap.size) (hn : e.H.length ≤ 6) (hv : e.V.length ≤ 16) :
  Calls Tryz.prog 5 #[.agg e.cells.toArray] w fun x w' => (∃ i,x = .returned (.int .i64 i) ∧ (i = 0 ∧ e.Right ∨ i = 520)) ∧ Below w.heap.size w w' := by
 obtain ⟨s,hs⟩ : ∃ s,w.heap.size = s := ⟨_,rfl⟩
 have HRR : Hid (∀ W,Below s w W → Calls Tryz.prog 14 #[.agg e.cells.toArray] W fun x w' => ∃ b,x = .returned (.bool b) ∧ (b = true → e.Right) ∧ Below W.heap.size W w') := fun W hW => by
  have hW' : Below w.heap.size w W := by rw [hs];exact hW
  exact rright_any e W ((h.below hW').more hW'.size) (by omega) hv
 obtain ⟨hA,hhA⟩ : ∃ x,e.hA = x := ⟨_,rfl⟩
 obtain ⟨nh,hnh⟩ : ∃ x,e.H.length = x := ⟨_,rfl⟩
 obtain ⟨hc,hhc⟩ : ∃ x,e.hc = x := ⟨_,rfl⟩
 obtain ⟨mA,hmA⟩ : ∃ x,e.m.A = x := ⟨_,rfl⟩
 obtain ⟨nm,hnm⟩ : ∃ x,e.m.d.length = x := ⟨_,rfl⟩
 obtain ⟨mc,hmc⟩ : ∃ x,e.m.c = x := ⟨_,rfl⟩
 obtain ⟨nA,hnA⟩ : ∃ x,e.n.A = x := ⟨_,rfl⟩
 obtain ⟨nn,hnn⟩ : ∃ x,e.n.d.length = x := ⟨_,rfl⟩
 obtain ⟨nc,hnc⟩ : ∃ x,e.n.c = x := ⟨_,rfl⟩
 obtain ⟨aA,haA⟩ : ∃ x,e.a.A = x := ⟨_,rfl⟩
 obtain ⟨na,hna⟩ : ∃ x,e.a.d.length = x := ⟨_,rfl⟩
 obtain ⟨ac,hac⟩ : ∃ x,e.a.c = x := ⟨_,rfl⟩
 obtain ⟨vA,hvA⟩ : ∃ x,e.vA = x := ⟨_,rfl⟩
 obtain ⟨nv,hnv⟩ : ∃ x,e.V.length = x := ⟨_,rfl⟩
 obtain ⟨vc,hvc⟩ : ∃ x,e.vc = x := ⟨_,rfl⟩
 have hcs : e.cells.toArray = #[.slice hA nh hc,.slice mA nm mc,.slice nA nn nc,.slice aA na ac,.slice vA nv vc] := by rw [← hhA,← hnh,← hhc,← hmA,← hnm,← hmc,← hnA,← hnn,← hnc,← haA,← hna,← hac,← hvA,← hnv,← hvc];rfl
 rw [hcs] at HRR ⊢
 rw [hnh] at hn
 rw [hnv] at hv
 have hB1 : Below s w (w.alloc (.cells #[.slice hA nh hc,.slice mA nm mc,.slice nA nn nc,.slice aA na ac,.slice vA nv vc] 26)) := by rw [← hs];exact (Below.refl _ _).alloc (Nat.le_refl _) _
 have HR1 := Lib.hid (HRR.out _ hB1)
 have HB1 := Lib.hid hB1
 have HS := Lib.hid hs
 have h1 : ¬ (10 < (nh : Int)) := by omega
 have h2 : ¬ (16 < (nv : Int)) := by omega
 clear h hcs hs HRR hB1 hhA hnh hhc hmA hnm hmc hnA hnn hnc haA hna hac hvA hnv hvc
 rw [HS.out]
 go_enter Tryz.func5,Tryz.ntmps5
 go_wp2_with fail
 refine HR1.out.mono ?_
 rintro x w2 ⟨b,rfl,hR,hb2⟩
 have HB2 : Hid (Below s w w2) := HB1.out.trans (hb2.mono (by have := HB1.out.size;have := HS.out;omega))
 have HRR := Lib.hid hR
 clear hb2 hR
 cases b with
 | true =>
  go_wp2_with fail
  go_ret
  exact ⟨⟨0,rfl,.inl ⟨rfl,HRR.out trivial⟩⟩,HB2.out⟩
 | false =>
  go_wp2_with fail
  go_ret
  exact ⟨⟨520,rfl,.inr rfl⟩,HB2.out⟩
end Go.Proofs.YtjcpjhlclpdpjaaGreat
