import Derived.Test.YtifejdpffkeniaaGreatDoorS24
set_option linter.unusedVariables false
set_option maxRecDepth 100000
set_option maxHeartbeats 40000000
namespace Go.Proofs.YtifejdpffkeniaaGreatDoor
open Go.RowKit
attribute [local go_sem] Oper.semAt_some
theorem rdoc_any (d : Doc) (w : World) (h : d.ok w w.heap.size) : Calls Tryz.prog 25 #[.agg d.cells.toArray] w fun r w' => BQ d.right r ∧ Below w.heap.size w w' := by
 obtain ⟨s,hs⟩ : ∃ s,w.heap.size = s := ⟨_,rfl⟩;have hb0 : Below s w (w.alloc (.cells d.cells.toArray 29)) := by rw [← hs];exact (Below.refl _ w).alloc (Nat.le_refl _) _
 have hr0 : Row (w.alloc (.cells d.cells.toArray 29)) s 29 d.cells := Row.fresh' _ _ _ hs;have c0 := hr0.cell (i := 0) rfl;have c1 := hr0.cell (i := 1) rfl;have c2 := hr0.cell (i := 2) rfl;have c3 := hr0.cell (i := 3) rfl;have c4 := hr0.cell (i := 4) rfl;have c5 := hr0.cell (i := 5) rfl;have c6 := hr0.cell (i := 6) rfl;have c7 := hr0.cell (i := 7) rfl;have c8 := hr0.cell (i := 8) rfl;have h0 := (h.below (by rw [hs];exact hb0)).more hb0.size;have hlt := hr0.lt;obtain ⟨CS,hCS⟩ : ∃ CS,d.cells = CS := ⟨_,rfl⟩;have d0 : d.cells[0]? = some (.int .i64 d.no) := rfl;have d1 : d.cells[1]? = some (.int .i64 d.ti) := rfl;have d2 : d.cells[2]? = some (.int .i64 d.kd) := rfl;have d3 : d.cells[3]? = some (.int .i64 d.vl) := rfl;have d4 : d.cells[4]? = some (.int .i64 d.fr) := rfl;have d5 : d.cells[5]? = some (.int .i64 d.un) := rfl;have d6 : d.cells[6]? = some (d.pa.cell) := rfl;have d7 : d.cells[7]? = some (d.re.cell) := rfl;have d8 : d.cells[8]? = some (d.ne.cell) := rfl;rw [hCS] at hb0 h0 hlt c0 c1 c2 c3 c4 c5 c6 c7 c8 d0 d1 d2 d3 d4 d5 d6 d7 d8 ⊢;obtain ⟨w0,hw0⟩ : ∃ w0,w.alloc (.cells CS.toArray 29) = w0 := ⟨_,rfl⟩;rw [hw0] at hb0 h0 hlt c0 c1 c2 c3 c4 c5 c6 c7 c8;have H6 : Hid (∀ V,Below w0.heap.size w0 V → Calls Tryz.prog 73 #[d.pa.cell,.int .i64 1048577] V fun r w' => BQ (Dl d.pa.d 1048577) r ∧ Below V.heap.size V w') := fun V hV => rlist_any d.pa 1048577 V ((h0.pa.below hV).more' hV.size);have H7 : Hid (∀ V,Below w0.heap.size w0 V → Calls Tryz.prog 73 #[d.re.cell,.int .i64 d.no] V fun r w' => BQ (Dl d.re.d d.no) r ∧ Below V.heap.size V w') := fun V hV => rlist_any d.re d.no V ((h0.re.below hV).more' hV.size);have H8 : Hid (∀ V,Below w0.heap.size w0 V → Calls Tryz.prog 73 #[d.ne.cell,.int .i64 d.no] V fun r w' => BQ (Dl d.ne.d d.no) r ∧ Below V.heap.size V w') := fun V hV => rlist_any d.ne d.no V ((h0.ne.below hV).more' hV.size);have HT : Hid (∀ V,Calls Tryz.prog 72 #[.int .i64 d.ti] V fun r w' => r = .returned (.bool (tim d.ti)) ∧ V = w') := fun V => rtime_any d.ti V;have HF : Hid ((0 ≤ d.no ∧ d.no < 4096) → (0 ≤ d.ti ∧ d.ti < 1099511627776) → (0 ≤ d.kd ∧ d.kd < 16) → (0 ≤ d.vl ∧ d.vl ≤ 1099511627776) → 0 ≤ d.fr → d.fr < d.un → d.un ≤ 1099511627776 → Dl d.pa.d 1048577 → Dl d.re.d d.no → Dl d.ne.d d.no → d.right) := fun a b c e f g h i j k => ⟨a,b,c,e,f,g,h,i,j,k⟩;obtain ⟨RR,hRR⟩ : ∃ RR,d.right = RR := ⟨_,rfl⟩;rw [hRR] at HF ⊢;obtain ⟨no,ti,kd,vl,fr,un,⟨pA,pc,pd⟩,⟨qA,qc,qd⟩,⟨nA,nc,nd⟩,tx⟩ := d;unfold RI.cell at c6 c7 c8 d6 d7 d8 H6 H7 H8;dsimp only at c0 c1 c2 c3 c4 c5 c6 c7 c8 d0 d1 d2 d3 d4 d5 d6 d7 d8 H6 H7 H8 HT HF;generalize pd.length = pn at c6 d6 H6;generalize qd.length = qn at c7 d7 H7;generalize nd.length = nn at c8 d8 H8;generalize Dl pd 1048577 = D6 at H6 HF;generalize Dl qd no = D7 at H7 HF;generalize Dl nd no = D8 at H8 HF;have HTI : Hid (tim ti = true → 0 ≤ ti ∧ ti < 1099511627776) := fun h => by simpa [tim] using h
 have HE := Lib.hid hw0;have HS := Lib.hid hs;have HB := Lib.hid hb0;clear h h0 hb0 hr0 hCS hw0 hs hRR;rw [HS.out]
 by_cases e1 : no < 0
 ·go_enter Tryz.func25,Tryz.ntmps25
  go_wp2;go_ret;rw [HS.out,HE.out];exact ⟨BQ.no,HB.out⟩
 have f1 : decide (no < 0) = false := decide_eq_false e1
 by_cases e2 : 4096 ≤ no
 ·go_enter Tryz.func25,Tryz.ntmps25
  go_wp2;go_ret;rw [HS.out,HE.out];exact ⟨BQ.no,HB.out⟩
 have f2 : decide (4096 ≤ no) = false := decide_eq_false e2
 cases ht : tim ti with
 | false =>
  go_enter Tryz.func25,Tryz.ntmps25
  go_wp2_with fail
  rw [HS.out,HE.out];clear d0 d1 d2 d3 d4 d5 d6 d7 d8;refine (HT.out w0).mono ?_;rintro x V ⟨rfl,rfl⟩;rw [ht];go_wp2;go_ret;exact ⟨BQ.no,HB.out⟩
 | true =>
  have HTT := Lib.hid (HTI.out ht)
  by_cases e3 : kd < 0
  ·go_enter Tryz.func25,Tryz.ntmps25
   go_wp2_with fail
   rw [HS.out,HE.out];clear d0 d1 d2 d3 d4 d5 d6 d7 d8;refine (HT.out w0).mono ?_;rintro x V ⟨rfl,rfl⟩;rw [ht];go_wp2;go_ret;exact ⟨BQ.no,HB.out⟩
  have f3 : decide (kd < 0) = false := decide_eq_false e3
  by_cases e4 : 16 ≤ kd
  ·go_enter Tryz.func25,Tryz.ntmps25
   go_wp2_with fail
   rw [HS.out,HE.out];clear d0 d1 d2 d3 d4 d5 d6 d7 d8;refine (HT.out w0).mono ?_;rintro x V ⟨rfl,rfl⟩;rw [ht];go_wp2;go_ret;exact ⟨BQ.no,HB.out⟩
  have f4 : decide (16 ≤ kd) = false := decide_eq_false e4
  by_cases e5 : vl < 0
  ·go_enter Tryz.func25,Tryz.ntmps25
   go_wp2_with fail
   rw [HS.out,HE.out];clear d0 d1 d2 d3 d4 d5 d6 d7 d8;refine (HT.out w0).mono ?_;rintro x V ⟨rfl,rfl⟩;rw [ht];go_wp2;go_ret;exact ⟨BQ.no,HB.out⟩
  have f5 : decide (vl < 0) = false := decide_eq_false e5
  by_cases e6 : 1099511627776 < vl
  ·go_enter Tryz.func25,Tryz.ntmps25
   go_wp2_with fail
   rw [HS.out,HE.out];clear d0 d1 d2 d3 d4 d5 d6 d7 d8;refine (HT.out w0).mono ?_;rintro x V ⟨rfl,rfl⟩;rw [ht];go_wp2;go_ret;exact ⟨BQ.no,HB.out⟩
  have f6 : decide (1099511627776 < vl) = false := decide_eq_false e6
  rcases (Decidable.em (0 ≤ fr)).symm with e7 | e7
  ·have f7 : decide (0 ≤ fr) = false := decide_eq_false e7
   go_enter Tryz.func25,Tryz.ntmps25
   go_wp2_with fail
   rw [HS.out,HE.out];clear d0 d1 d2 d3 d4 d5 d6 d7 d8;refine (HT.out w0).mono ?_;rintro x V ⟨rfl,rfl⟩;rw [ht];go_wp2;go_ret;exact ⟨BQ.no,HB.out⟩
  rcases (Decidable.em (fr < un)).symm with e8 | e8
  ·have f8 : decide (fr < un) = false := decide_eq_false e8
   go_enter Tryz.func25,Tryz.ntmps25
   go_wp2_with fail
   rw [HS.out,HE.out];clear d0 d1 d2 d3 d4 d5 d6 d7 d8;refine (HT.out w0).mono ?_;rintro x V ⟨rfl,rfl⟩;rw [ht];go_wp2;go_ret;exact ⟨BQ.no,HB.out⟩
  rcases (Decidable.em (un ≤ 1099511627776)).symm with e9 | e9
  ·have f9 : decide (un ≤ 1099511627776) = false := decide_eq_false e9
   go_enter Tryz.func25,Tryz.ntmps25
   go_wp2_with fail
   rw [HS.out,HE.out];clear d0 d1 d2 d3 d4 d5 d6 d7 d8;refine (HT.out w0).mono ?_;rintro x V ⟨rfl,rfl⟩;rw [ht];go_wp2;go_ret;exact ⟨BQ.no,HB.out⟩
  go_enter Tryz.func25,Tryz.ntmps25
  go_wp2_with fail
  rw [HS.out,HE.out];clear d0 d1 d2 d3 d4 d5 d6 d7 d8;refine (HT.out w0).mono ?_;rintro x V ⟨rfl,rfl⟩;rw [ht]
  go_wp2_with fail
  refine (H6.out w0 (Below.refl _ _)).mono ?_;rintro x V6 ⟨⟨b,rfl,hb⟩,hbw⟩;have HB6 := Lib.hid hbw;have HD6 := Lib.hid hb
  replace c0 := (hbw.cell (p := ⟨s,0,none⟩) hlt).trans c0
  replace c7 := (hbw.cell (p := ⟨s,7,none⟩) hlt).trans c7
  replace c8 := (hbw.cell (p := ⟨s,8,none⟩) hlt).trans c8
  clear hb hbw
  cases b with
  | false =>
   go_wp2;go_ret;exact ⟨BQ.no,HB.out.trans (HB6.out.mono (by have := HB.out.size;omega))⟩
  | true =>
   go_wp2_with fail
   refine (H7.out V6 HB6.out).mono ?_;rintro x V7 ⟨⟨b,rfl,hb⟩,hbw⟩;have HB7 := Lib.hid (HB6.out.trans (hbw.mono HB6.out.size));have HD7 := Lib.hid hb
   replace c0 := (hbw.cell (p := ⟨s,0,none⟩) (by show s < _;have := HB6.out.size;omega)).trans c0
   replace c8 := (hbw.cell (p := ⟨s,8,none⟩) (by show s < _;have := HB6.out.size;omega)).trans c8
   clear hb hbw
   cases b with
   | false =>
    go_wp2;go_ret;exact ⟨BQ.no,HB.out.trans (HB7.out.mono (by have := HB.out.size;omega))⟩
   | true =>
    go_wp2_with fail
    refine (H8.out V7 HB7.out).mono ?_;rintro x V8 ⟨⟨b,rfl,hb⟩,hbw⟩;have HB8 := Lib.hid (HB7.out.trans (hbw.mono HB7.out.size));have HD8 := Lib.hid hb;clear hb hbw
    cases b with
    | false =>
     go_wp2;go_ret;exact ⟨BQ.no,HB.out.trans (HB8.out.mono (by have := HB.out.size;omega))⟩
    | true =>
     go_wp2;go_ret;exact ⟨BQ.yes (HF.out ⟨by omega,by omega⟩ HTT.out ⟨by omega,by omega⟩ ⟨by omega,by omega⟩ e7 e8 e9 (HD6.out trivial) (HD7.out trivial) (HD8.out trivial)),HB.out.trans (HB8.out.mono (by have := HB.out.size;omega))⟩
theorem rfew_any (d : Doc) (w : World) (h : d.ok w w.heap.size) : Calls Tryz.prog 24 #[.agg d.cells.toArray] w fun r w' => BQ True r ∧ Below w.heap.size w w' := by
 obtain ⟨s,hs⟩ : ∃ s,w.heap.size = s := ⟨_,rfl⟩;have hb0 : Below s w (w.alloc (.cells d.cells.toArray 29)) := by rw [← hs];exact (Below.refl _ w).alloc (Nat.le_refl _) _
 have d6 : d.cells[6]? = some d.pa.cell := rfl;have d7 : d.cells[7]? = some d.re.cell := rfl;have d8 : d.cells[8]? = some d.ne.cell := rfl;obtain ⟨CS,hCS⟩ : ∃ CS,d.cells = CS := ⟨_,rfl⟩;rw [hCS] at hb0 d6 d7 d8 ⊢;unfold RI.cell at d6 d7 d8;generalize d.pa.d.length = pn at d6;generalize d.re.d.length = qn at d7;generalize d.ne.d.length = nn at d8;have HB := Lib.hid hb0;have HS := Lib.hid hs;clear h hb0 hCS hs;rw [HS.out]
 rcases (Decidable.em ((pn : Int) ≤ 20)).symm with e1 | e1
 ·have f1 : decide ((pn : Int) ≤ 20) = false := decide_eq_false e1
  go_enter Tryz.func24,Tryz.ntmps24;go_wp2;go_ret;exact ⟨BQ.of fun _ => trivial,HB.out⟩
 rcases (Decidable.em ((qn : Int) ≤ 20)).symm with e2 | e2
 ·have f2 : decide ((qn : Int) ≤ 20) = false := decide_eq_false e2
  go_enter Tryz.func24,Tryz.ntmps24;go_wp2;go_ret;exact ⟨BQ.of fun _ => trivial,HB.out⟩
 go_enter Tryz.func24,Tryz.ntmps24;go_wp2;go_ret;exact ⟨BQ.of fun _ => trivial,HB.out⟩
def EQ0 (P : Prop) (r : Ending) : Prop := ∃ n : Int,r = .returned (.int .i64 n) ∧ (n = 0 → P)
theorem EQ0.no {P : Prop} {n : Int} (h : n ≠ 0) : EQ0 P (.returned (.int .i64 n)) := ⟨n,rfl,fun e => absurd e h⟩
theorem EQ0.yes {P : Prop} (h : P) : EQ0 P (.returned (.int .i64 0)) := ⟨0,rfl,fun _ => h⟩
structure CkF (rs : List RI) (P : List Int) : Prop where
 len : rs.length ≤ 64
 cols : ∀ j,j < rs.length → (rs.getD j r0).d.length ≤ 64
 ow : rs.length = P.length
 row : ∀ j,j < rs.length → 1 ≤ (rs.getD j r0).d.length ∧ (rs.getD j r0).d.length = (rs.getD 0 r0).d.length ∧ (0 ≤ P.getD j 0 ∧ P.getD j 0 < 64) ∧ ∀ x ∈ (rs.getD j r0).d,0 ≤ x ∧ x < 1073741789
def Ncol (rs : List RI) : Nat := if rs.length = 0 then 1 else (rs.getD 0 r0).d.length
theorem rcheckp_any (RA : Option Addr) (rc : Nat) (rs : List RI) (ow : RI) (w : World) (h : RdM w w.heap.size RA rs) (ho : ow.ok w w.heap.size) :
  Calls Tryz.prog 69 #[.agg #[.slice RA rs.length rc,.slice ow.A ow.d.length ow.c]] w fun r w' => EQ0 (CkF rs ow.d) r ∧ Below w.heap.size w w' := by
 obtain ⟨s,hs⟩ : ∃ s,w.heap.size = s := ⟨_,rfl⟩;obtain ⟨w0,hw0⟩ : ∃ w0,w.alloc (.cells #[.slice RA rs.length rc,.slice ow.A ow.d.length ow.c] 25) = w0 := ⟨_,rfl⟩;have hb0 : Below s w w0 := by rw [← hw0,← hs];exact (Below.refl _ w).alloc (Nat.le_refl _) _
 have hr0 : Row w0 s 25 [.slice RA rs.length rc,.slice ow.A ow.d.length ow.c] := by rw [← hw0];exact Row.fresh' _ _ _ hs
 have hq0 : RdM w0 w0.heap.size RA rs := (h.below (by rw [hs];exact hb0)).more hb0.size;have ho0 : ow.ok w0 w0.heap.size := (ho.below (by rw [hs];exact hb0)).more' hb0.size
 have HA : Hid (0 < rs.length → ∃ b o,RA = some ⟨b,o,none⟩ ∧ ∀ k,k < rs.length → ∀ W,Below w0.heap.size w0 W → W.cell? ⟨b,o + k,none⟩ = some (.slice (rs.getD k r0).A (rs.getD k r0).d.length (rs.getD k r0).c)) := fun h0 => by
  obtain ⟨b,o,e,_,hc⟩ := hq0.at h0;exact ⟨b,o,e,hc⟩
 have HO : Hid (0 < ow.d.length → ∃ b o,ow.A = some ⟨b,o,none⟩ ∧ ∀ k,k < ow.d.length → ∀ W,Below w0.heap.size w0 W → W.cell? ⟨b,o + k,none⟩ = some (.int .i64 (ow.d.getD k 0))) := fun h0 => by
  obtain ⟨b,o,e,_,hc⟩ := RI.at ho0 h0;exact ⟨b,o,e,hc⟩
 have HR : Hid (∀ k,k < rs.length → 0 < (rs.getD k r0).d.length → ∃ b o,(rs.getD k r0).A = some ⟨b,o,none⟩ ∧ ∀ j,j < (rs.getD k r0).d.length → ∀ W,Below w0.heap.size w0 W → W.cell? ⟨b,o + j,none⟩ = some (.int .i64 ((rs.getD k r0).d.getD j 0))) := fun k hk h0 => by
  obtain ⟨b,o,e,_,hc⟩ := RI.at (hq0.rows _ (getD_mem' hk).1) h0;exact ⟨b,o,e,hc⟩
 have HCE : Hid (∀ W,Below w0.heap.size w0 W → W.cell? ⟨s,0,none⟩ = some (.slice RA rs.length rc) ∧ W.cell? ⟨s,1,none⟩ = some (.slice ow.A ow.d.length ow.c)) := fun W hW => ⟨(hr0.below hW hr0.lt).cell (i := 0) rfl,(hr0.below hW hr0.lt).cell (i := 1) rfl⟩;have HMK : Hid (rs.length ≤ 64 → (∀ j,j < rs.length → (rs.getD j r0).d.length ≤ 64) → rs.length = ow.d.length → (∀ j,j < rs.length → 1 ≤ (rs.getD j r0).d.length ∧ (rs.getD j r0).d.length = (rs.getD 0 r0).d.length ∧ (0 ≤ ow.d.getD j 0 ∧ ow.d.getD j 0 < 64) ∧ ∀ x ∈ (rs.getD j r0).d,0 ≤ x ∧ x < 1073741789) → CkF rs ow.d) := fun a b c d => ⟨a,b,c,d⟩;obtain ⟨CF,hCF⟩ : ∃ CF,CkF rs ow.d = CF := ⟨_,rfl⟩;rw [hCF] at HMK ⊢;obtain ⟨OA,oc,P⟩ := ow;dsimp only at HO HCE HMK hw0 ⊢;obtain ⟨n,hn⟩ : ∃ n,rs.length = n := ⟨_,rfl⟩;obtain ⟨m,hm⟩ : ∃ m,P.length = m := ⟨_,rfl⟩;rw [hn] at HA HR HCE HMK hw0 ⊢;rw [hm] at HO HCE HMK hw0 ⊢;have HE := Lib.hid hw0;have HS := Lib.hid hs;have HB := Lib.hid hb0;clear h ho hs hw0 hb0 hr0 hq0 ho0 hCF hn hm;rw [HS.out];have FIN : Hid (∀ W,Below w0.heap.size w0 W → Below s w W) := fun W hW => HB.out.trans (hW.mono (by have := HB.out.size;have := HS.out;omega))
 rcases (Decidable.em (n ≤ 64)).symm with h64 | h64
 ·have e64 : (64 : Int) < (n : Int) := by omega
  go_enter Tryz.func69,Tryz.ntmps69;go_wp2;go_ret;rw [HS.out,HE.out];exact ⟨EQ0.no (by decide),HB.out⟩
 have e64 : decide ((64 : Int) < (n : Int)) = false := decide_eq_false (by omega);go_enter Tryz.func69,Tryz.ntmps69;go_wp2;rw [HS.out,HE.out];obtain ⟨c0,c1⟩ := HCE.out w0 (Below.refl _ _)
 go_loopw [3] (fun i wr => w0 = wr ∧ ∃ k : Nat,k ≤ n ∧ i = .int .i64 k ∧ ∀ j,j < k → (rs.getD j r0).d.length ≤ 64) (fun i _ => n - (intOf i).toNat)
 case atStart => exact ⟨rfl,0,Nat.zero_le _,rfl,fun j hj => absurd hj (by omega)⟩
 case round =>
  obtain ⟨rfl,k,hk,rfl,hu⟩ := hrel;have HU := Lib.hid hu;clear hu
  by_cases hlt : k < n
  ·obtain ⟨b,o,hA,hcc⟩ := HA.out (by omega)
   subst hA;have q0 := hcc k hlt w0 (Below.refl _ _);have k1 : (k : Int) < (n : Int) := by omega
   have k0 : (0 : Int) ≤ (k : Int) := by omega
   obtain ⟨L,hL⟩ : ∃ L,(rs.getD k r0).d.length = L := ⟨_,rfl⟩;have HL := Lib.hid hL;rw [hL] at q0;clear hL hcc
   by_cases l64 : L ≤ 64
   ·have f1 : decide ((64 : Int) < (L : Int)) = false := decide_eq_false (by omega)
    have HW : Hid (∀ j,j < k + 1 → (rs.getD j r0).d.length ≤ 64) := fun j hj => by
     by_cases e : j = k
     ·subst e;rw [HL.out];exact l64
     ·exact HU.out j (by omega)
    go_wp2;go_roundw
    case rel => exact ⟨trivial,k + 1,by omega,by go_num,HW.out⟩
    case measure => simp [intOf];omega
   ·have f1 : (64 : Int) < (L : Int) := by omega
    go_wp2;go_ret;exact ⟨EQ0.no (by decide),HB.out⟩
  ·obtain rfl : k = n := by omega
   clear hlt
   by_cases hnm : k = m
   ·subst hnm
    go_wp2
    go_loopw [4,5] (fun i _ wr => Below w0.heap.size w0 wr ∧ ∃ q : Nat,q ≤ k ∧ i = .int .i64 q ∧ ∀ j,j < q → 1 ≤ (rs.getD j r0).d.length ∧ (rs.getD j r0).d.length = (rs.getD 0 r0).d.length ∧ (0 ≤ P.getD j 0 ∧ P.getD j 0 < 64) ∧ ∀ x ∈ (rs.getD j r0).d,0 ≤ x ∧ x < 1073741789) (fun i _ _ => k - (intOf i).toNat)
    case atStart => exact ⟨Below.refl _ _,0,Nat.zero_le _,rfl,fun j hj => absurd hj (by omega)⟩
    case round =>
     obtain ⟨hbw,q,hq,rfl,hv⟩ := hrel;have HV := Lib.hid hv;have HBW := Lib.hid hbw;obtain ⟨c0,c1⟩ := HCE.out _ hbw;clear hv hbw
     by_cases hlt : q < k
     ·obtain ⟨b,o,hA,hcc⟩ := HA.out (by omega)
      subst hA;obtain ⟨b2,o2,hA,hoo⟩ := HO.out (by omega);subst hA;have q0 := hcc q hlt wr HBW.out;have q00 := hcc 0 (by omega) wr HBW.out;rw [Nat.add_zero] at q00;have p0 := hoo q hlt wr HBW.out;have k1 : (q : Int) < (k : Int) := by omega
      have k0 : (0 : Int) ≤ (q : Int) := by omega
      have k3 : (0 : Int) < (k : Int) := by omega
      obtain ⟨L0,hL0⟩ : ∃ L,(rs.getD 0 r0).d.length = L := ⟨_,rfl⟩;have HL0 := Lib.hid hL0;rw [hL0] at q00;obtain ⟨L,hL⟩ : ∃ L,(rs.getD q r0).d.length = L := ⟨_,rfl⟩;have HL := Lib.hid hL;rw [hL] at q0;obtain ⟨O,hO⟩ : ∃ O,P.getD q 0 = O := ⟨_,rfl⟩;have HOO := Lib.hid hO;rw [hO] at p0;clear hL0 hL hO hcc hoo
      rcases (Decidable.em (1 ≤ L)).symm with e1 | e1
      ·have f1 : (L : Int) < 1 := by omega
       go_wp2
       go_quiet (fail)
       go_wp2;go_ret;exact ⟨EQ0.no (by decide),FIN.out _ (below_drewN HBW.out _)⟩
      have f1 : decide ((L : Int) < 1) = false := decide_eq_false (by omega)
      rcases (Decidable.em (L = L0)).symm with e2 | e2
      ·have f2 : ((L : Int) == (L0 : Int)) = false := beq_eq_false_iff_ne.2 (by omega)
       have f3 : ((L : Int) != (L0 : Int)) = true := by rw [bne,f2];rfl
       have f4 : ¬ ((L : Int) = (L0 : Int)) := by omega
       go_wp2
       go_quiet (fail)
       go_wp2;go_ret;exact ⟨EQ0.no (by decide),FIN.out _ (below_drewN HBW.out _)⟩
      subst e2
      by_cases e3 : O < 0
      ·go_wp2
       go_quiet (fail)
       go_wp2;go_ret;exact ⟨EQ0.no (by decide),FIN.out _ (below_drewN HBW.out _)⟩
      have f3 : decide (O < 0) = false := decide_eq_false e3
      by_cases e4 : 64 ≤ O
      ·go_wp2
       go_quiet (fail)
       go_wp2;go_ret;exact ⟨EQ0.no (by decide),FIN.out _ (below_drewN HBW.out _)⟩
      have f4 : decide (64 ≤ O) = false := decide_eq_false e4;go_wp2
      go_quiet (fail)
      have HBV : Hid (Below w0.heap.size w0 (wr.drewN nq)) := below_drewN HBW.out _;clear c0 c1 q0 q00 p0;generalize wr.drewN nq = w2 at HBV ⊢;go_wp2;have HLE : Hid (L ≤ 64) := by rw [← HL.out];exact HU.out q hlt
      go_loopw [5] (fun t wr2 => Below w0.heap.size w0 wr2 ∧ ∃ p : Nat,p ≤ L ∧ t = .int .i64 p ∧ ∀ j,j < p → 0 ≤ (rs.getD q r0).d.getD j 0 ∧ (rs.getD q r0).d.getD j 0 < 1073741789) (fun t _ => L - (intOf t).toNat)
      case atStart => exact ⟨HBV.out,0,Nat.zero_le _,rfl,fun j hj => absurd hj (by omega)⟩
      case round =>
       obtain ⟨hbw,p,hp,rfl,hx⟩ := hrel;have HX := Lib.hid hx;have HBX := Lib.hid hbw;obtain ⟨c0,c1⟩ := HCE.out _ hbw;obtain ⟨b,o,hA,hcc⟩ := HA.out (by omega)
       cases hA
       have q0 := hcc q hlt wr HBX.out;rw [HL.out] at q0;clear hx hbw hcc
       by_cases hlp : p < L
       ·obtain ⟨b3,o3,hA3,hxx⟩ := HR.out q hlt (by rw [HL.out];omega)
        rw [hA3] at q0;have r0' := hxx p (by rw [HL.out];exact hlp) wr HBX.out;have p1 : (p : Int) < (L : Int) := by omega
        have p0 : (0 : Int) ≤ (p : Int) := by omega
        obtain ⟨x,hxv⟩ : ∃ x,(rs.getD q r0).d.getD p 0 = x := ⟨_,rfl⟩;have HXV := Lib.hid hxv;rw [hxv] at r0';clear hxv hxx hA3
        by_cases e5 : x < 0
        ·go_wp2
         go_ret;exact ⟨EQ0.no (by decide),FIN.out _ HBX.out⟩
        have f5 : decide (x < 0) = false := decide_eq_false e5
        by_cases e6 : 1073741789 ≤ x
        ·go_wp2
         go_ret;exact ⟨EQ0.no (by decide),FIN.out _ HBX.out⟩
        have f6 : decide (1073741789 ≤ x) = false := decide_eq_false e6
        have HW : Hid (∀ j,j < p + 1 → 0 ≤ (rs.getD q r0).d.getD j 0 ∧ (rs.getD q r0).d.getD j 0 < 1073741789) := fun j hj => by
         by_cases e : j = p
         ·subst e;rw [HXV.out];omega
         ·exact HX.out j (by omega)
        have l64 := HLE.out;go_wp2;go_roundw
        case rel => exact ⟨HBX.out,p + 1,by omega,by go_num,HW.out⟩
        case measure => simp [intOf];omega
       ·obtain rfl : p = L := by omega
        have HALL : Hid (∀ j,j < q + 1 → 1 ≤ (rs.getD j r0).d.length ∧ (rs.getD j r0).d.length = (rs.getD 0 r0).d.length ∧ (0 ≤ P.getD j 0 ∧ P.getD j 0 < 64) ∧ ∀ x ∈ (rs.getD j r0).d,0 ≤ x ∧ x < 1073741789) := fun j hj => by
         by_cases e : j = q
         ·subst e
          exact ⟨by rw [HL.out];exact e1,by rw [HL.out,HL0.out],⟨by rw [HOO.out];omega,by rw [HOO.out];omega⟩,all_of fun i hi => HX.out i (by rw [← HL.out];exact hi)⟩
         ·exact HV.out j (by omega)
        go_wp2;go_roundw
        case rel => exact ⟨HBX.out,q + 1,by omega,by go_num,HALL.out⟩
        case measure => simp [intOf];omega
     ·obtain rfl : q = k := by omega
      go_wp2;go_ret;exact ⟨EQ0.yes (HMK.out h64 HU.out trivial HV.out),FIN.out _ HBW.out⟩
   ·have f2 : ((k : Int) == (m : Int)) = false := beq_eq_false_iff_ne.2 (by omega)
    have f3 : ((k : Int) != (m : Int)) = true := by rw [bne,f2];rfl
    have f4 : ¬ ((k : Int) = (m : Int)) := by omega
    go_wp2;go_ret;exact ⟨EQ0.no (by decide),HB.out⟩
theorem rcols_any (RA : Option Addr) (rc : Nat) (rs : List RI) (ow : RI) (w : World) (h : RdM w w.heap.size RA rs) :
  Calls Tryz.prog 20 #[.agg #[.slice RA rs.length rc,.slice ow.A ow.d.length ow.c]] w fun r w' => r = .returned (.int .i64 (Ncol rs)) ∧ Below w.heap.size w w' := by
 obtain ⟨N,hN⟩ : ∃ N,Ncol rs = N := ⟨_,rfl⟩;rw [hN];have hb := (Below.refl w.heap.size w).alloc (Nat.le_refl _) (.cells #[.slice RA rs.length rc,.slice ow.A ow.d.length ow.c] 25)
 by_cases h0 : rs.length = 0
 ·have e : N = 1 := by rw [← hN];exact if_pos h0
  subst e;rw [h0] at hb ⊢;go_enter Tryz.func20,Tryz.ntmps20;go_wp2;go_ret;exact ⟨rfl,hb⟩
 ·have e : (rs.getD 0 r0).d.length = N := by rw [← hN];exact (if_neg h0).symm
  obtain ⟨b,o,hA,hlb,hc⟩ := h.at (by omega);have q0 := hc 0 (by omega) w (Below.refl _ _);have q1 := hc 0 (by omega) _ hb;rw [Nat.add_zero,RI.cell_eq,e] at q1;rw [hA] at q1 ⊢;obtain ⟨n,hn⟩ : ∃ n,rs.length = n := ⟨_,rfl⟩;rw [hn] at q1 hb h0 ⊢;have k3 : (0 : Int) < (n : Int) := by omega
  have k4 : ((n : Int) == 0) = false := beq_eq_false_iff_ne.2 (by omega);rw [hA] at hb;clear q0 hc;go_enter Tryz.func20,Tryz.ntmps20;go_wp2;go_ret;exact ⟨rfl,hb⟩
theorem rsmall_any (RA : Option Addr) (rc : Nat) (rs : List RI) (ow : RI) (w : World) (h : RdM w w.heap.size RA rs) (ho : ow.ok w w.heap.size) :
  Calls Tryz.prog 19 #[.agg #[.slice RA rs.length rc,.slice ow.A ow.d.length ow.c]] w fun r w' => BQ (rs.length ≤ 16 ∧ CkF rs ow.d ∧ Ncol rs ≤ 16) r ∧ Below w.heap.size w w' := by
 obtain ⟨s,hs⟩ : ∃ s,w.heap.size = s := ⟨_,rfl⟩;obtain ⟨w0,hw0⟩ : ∃ w0,w.alloc (.cells #[.slice RA rs.length rc,.slice ow.A ow.d.length ow.c] 25) = w0 := ⟨_,rfl⟩;have hb0 : Below s w w0 := by rw [← hw0,← hs];exact (Below.refl _ w).alloc (Nat.le_refl _) _
 have hr0 : Row w0 s 25 [.slice RA rs.length rc,.slice ow.A ow.d.length ow.c] := by rw [← hw0];exact Row.fresh' _ _ _ hs
 have hq0 : RdM w0 w0.heap.size RA rs := (h.below (by rw [hs];exact hb0)).more hb0.size;have ho0 : ow.ok w0 w0.heap.size := (ho.below (by rw [hs];exact hb0)).more' hb0.size;have HC1 := Lib.hid (rcheckp_any RA rc rs ow w0 hq0 ho0);have HC2 : Hid (∀ W,Below w0.heap.size w0 W → Calls Tryz.prog 20 #[.agg #[.slice RA rs.length rc,.slice ow.A ow.d.length ow.c]] W fun r w' => r = .returned (.int .i64 (Ncol rs)) ∧ Below W.heap.size W w') := fun W hW => rcols_any RA rc rs ow W ((hq0.below hW).more hW.size);have HCE : Hid (∀ W,Below w0.heap.size w0 W → W.cell? ⟨s,0,none⟩ = some (.slice RA rs.length rc) ∧ W.cell? ⟨s,1,none⟩ = some (.slice ow.A ow.d.length ow.c)) := fun W hW => ⟨(hr0.below hW hr0.lt).cell (i := 0) rfl,(hr0.below hW hr0.lt).cell (i := 1) rfl⟩;generalize CkF rs ow.d = CF at HC1 ⊢;generalize Ncol rs = N at HC2 ⊢;generalize ow.A = OA at *;generalize ow.d.length = m at *;generalize ow.c = oc at *;generalize rs.length = n at *;have HE := Lib.hid hw0;have HS := Lib.hid hs;have HB := Lib.hid hb0;clear h ho hw0 hs hb0 hr0 hq0 ho0;rw [HS.out]
 rcases (Decidable.em ((n : Int) ≤ 16)).symm with e1 | e1
 ·have f1 : decide ((n : Int) ≤ 16) = false := decide_eq_false e1
  go_enter Tryz.func19,Tryz.ntmps19;go_wp2;go_ret;rw [HS.out,HE.out];exact ⟨BQ.no,HB.out⟩
 go_enter Tryz.func19,Tryz.ntmps19
 go_wp2_with fail
 rw [HS.out,HE.out];refine HC1.out.mono ?_;rintro r w1 ⟨⟨x,rfl,hx⟩,hb1⟩;have HX := Lib.hid hx;have HB1 := Lib.hid hb1;obtain ⟨c0,c1⟩ := HCE.out _ hb1;clear hx hb1
 by_cases e2 : x = 0
 ·subst e2
  go_wp2_with fail
  refine (HC2.out _ HB1.out).mono ?_;rintro r w2 ⟨rfl,hb2⟩;have HB2 := Lib.hid (HB1.out.trans (hb2.mono HB1.out.size));clear hb2;go_wp2;go_ret;exact ⟨BQ.of fun hd => ⟨by omega,HX.out trivial,by have := of_decide_eq_true hd;omega⟩,HB.out.trans (HB2.out.mono (by have := HB.out.size;have := HS.out;omega))⟩
 ·have f2 : (x == 0) = false := beq_eq_false_iff_ne.2 e2
  go_wp2;go_ret;exact ⟨BQ.no,HB.out.trans (HB1.out.mono (by have := HB.out.size;have := HS.out;omega))⟩
structure Sil where
 a : Int
 b : Int
 c : Int
def s0l : Sil := ⟨0,0,0⟩
def Sil.cells (s : Sil) : List Value := [.int .i64 s.a,.int .i64 s.b,.int .i64 s.c]
structure Inp where
 RA : Option Addr
 rc : Nat
 rs : List RI
 ow : RI
 x0 : Int
 R : RI
 L : RI
 sd : RI
 d0 : Doc
 d1 : Doc
 SA : Option Addr
 sc : Nat
 S : List Sil
structure Inp.ok (e : Inp) (W : World) (B : Nat) : Prop where
 rd : RdM W B e.RA e.rs
 ow : e.ow.ok W B
 R : e.R.ok W B
 L : e.L.ok W B
 sd : e.sd.ok W B
 d0 : e.d0.ok W B
 d1 : e.d1.ok W B
 s : Rd W B 3 e.SA e.S.length (e.S.flatMap Sil.cells)
theorem Inp.ok.below {e : Inp} {W W' : World} {B : Nat} (h : e.ok W B) (hb : Below B W W') : e.ok W' B := ⟨h.rd.below hb,h.ow.below hb,h.R.below hb,h.L.below hb,h.sd.below hb,h.d0.below hb,h.d1.below hb,h.s.below hb⟩
theorem Inp.ok.more {e : Inp} {W : World} {B B' : Nat} (h : e.ok W B) (hB : B ≤ B') : e.ok W B' := ⟨h.rd.more hB,h.ow.more' hB,h.R.more' hB,h.L.more' hB,h.sd.more' hB,h.d0.more hB,h.d1.more hB,h.s.more hB⟩
structure Inp.fit (e : Inp) : Prop where
 prg : e.rs.length ≤ 16 ∧ CkF e.rs e.ow.d ∧ Ncol e.rs ≤ 16
 x0 : 1 ≤ e.x0 ∧ e.x0 < 1073741789
 rl : e.R.d.length + 1 = Ncol e.rs
 rr : ∀ y ∈ e.R.d,0 ≤ y ∧ y < 1073741789
 ppl : Ppl e.L.d
 l0 : 1 ≤ e.L.d.length
 l6 : e.L.d.length ≤ 6
 sl : e.sd.d.length = e.L.d.length
 sn : e.S.length = e.L.d.length
 no : e.d0.no ≠ e.d1.no
 each : ∀ j,j < e.L.d.length → (0 ≤ e.sd.d.getD j 0 ∧ e.sd.d.getD j 0 ≤ 1099511627776) ∧ Du.right (e.S.getD j s0l).a (e.S.getD j s0l).b (e.S.getD j s0l).c = true
 r0 : e.d0.right
 r1 : e.d1.right
def Inp.docs (e : Inp) : List Value := e.d0.cells ++ e.d1.cells
def Inp.prog (e : Inp) : Value := .agg #[.slice e.RA e.rs.length e.rc,.slice e.ow.A e.ow.d.length e.ow.c]
theorem doc_cell {W : World} {g : Nat} {t : TypeId} {d d' : Doc} (h : Row W g t (d.cells ++ d'.cells)) (hl : d.cells.length = 41) : W.cell? ⟨g,0,none⟩ = some (.int .i64 d.no) ∧ W.cell? ⟨g,41,none⟩ = some (.int .i64 d'.no) := by
 refine ⟨h.cell (i := 0) ?_,h.cell (i := 41) ?_⟩
 ·rw [List.getElem?_append_left (by omega)];rfl
 ·rw [List.getElem?_append_right (by omega),hl];rfl
theorem flat_at3 : ∀ (S : List Sil) {k j : Nat} {s : Sil} {v : Value},S[k]? = some s → s.cells[j]? = some v → j < 3 → (S.flatMap Sil.cells)[k * 3 + j]? = some v
 | [],k,j,s,v,h,_,_ => by simp at h
 | y :: S,0,j,s,v,h,hv,hj => by
  obtain rfl : y = s := by simpa using h
  rw [List.flatMap_cons,Nat.zero_mul,Nat.zero_add,List.getElem?_append_left (by show j < 3;exact hj)];exact hv
 | y :: S,k + 1,j,s,v,h,hv,hj => by
  rw [List.flatMap_cons,List.getElem?_append_right (by show 3 ≤ _;omega)];show (S.flatMap Sil.cells)[(k + 1) * 3 + j - 3]? = _;rw [show (k + 1) * 3 + j - 3 = k * 3 + j by omega];exact flat_at3 S (by simpa using h) hv hj
theorem sil_at {W : World} {B : Nat} {A : Option Addr} {S : List Sil} (h : Rd W B 3 A S.length (S.flatMap Sil.cells)) (h0 : 0 < S.length) : ∃ b o,A = some ⟨b,o,none⟩ ∧ b < B ∧ ∀ k,k < S.length → ∀ V,Below B W V → V.cell? ⟨b,o + k * 3,none⟩ = some (.int .i64 (S.getD k s0l).a) ∧ V.cell? ⟨b,o + k * 3 + 1,none⟩ = some (.int .i64 (S.getD k s0l).b) ∧ V.cell? ⟨b,o + k * 3 + 2,none⟩ = some (.int .i64 (S.getD k s0l).c) := by
 obtain ⟨b,o,e,hb,hc⟩ := h.2 h0;refine ⟨b,o,e,hb,fun k hk V hV => ?_⟩;have hg : S[k]? = some (S.getD k s0l) := by rw [List.getD_eq_getElem?_getD,List.getElem?_eq_getElem hk];rfl
 have key : ∀ j v,(S.getD k s0l).cells[j]? = some v → j < 3 → V.cell? ⟨b,o + k * 3 + j,none⟩ = some v := fun j v hv hj => by
  have h1 := flat_at3 S hg hv hj;refine (hV.cell (p := ⟨b,o + k * 3 + j,none⟩) hb).trans ?_;have := hc (k * 3 + j) v h1
  rwa [← Nat.add_assoc] at this
 exact ⟨key 0 _ rfl (by omega),key 1 _ rfl (by omega),key 2 _ rfl (by omega)⟩
theorem fits47_any (e : Inp) (w : World) (h : e.ok w w.heap.size) :
  Calls Tryz.prog 5 #[e.prog,.int .i64 e.x0,e.R.cell,e.L.cell,e.sd.cell,.agg e.docs.toArray,.slice e.SA e.S.length e.sc] w fun r w' => BQ e.fit r ∧ Below w.heap.size w w' := by
 unfold Inp.prog;obtain ⟨s,hs⟩ : ∃ s,w.heap.size = s := ⟨_,rfl⟩;obtain ⟨w0,hw0⟩ : ∃ w0,((w.alloc (.cells #[.slice e.RA e.rs.length e.rc,.slice e.ow.A e.ow.d.length e.ow.c] 25)).alloc (.cells e.docs.toArray 30)) = w0 := ⟨_,rfl⟩;have hb0 : Below s w w0 := by rw [← hw0,← hs];exact ((Below.refl _ w).alloc (Nat.le_refl _) _).alloc (by simp) _
 have hr0 : Row w0 s 25 [.slice e.RA e.rs.length e.rc,.slice e.ow.A e.ow.d.length e.ow.c] := by rw [← hw0];exact (Row.fresh' _ _ _ hs).alloc _
 have hr1 : Row w0 (s + 1) 30 e.docs := by rw [← hw0];exact Row.fresh' _ _ _ (by simp [hs])
 have h0 := (h.below (by rw [hs];exact hb0)).more hb0.size;have HSM := Lib.hid (rsmall_any e.RA e.rc e.rs e.ow w0 h0.rd h0.ow);have HCO : Hid (∀ W,Below w0.heap.size w0 W → Calls Tryz.prog 20 #[.agg #[.slice e.RA e.rs.length e.rc,.slice e.ow.A e.ow.d.length e.ow.c]] W fun r w' => r = .returned (.int .i64 (Ncol e.rs)) ∧ Below W.heap.size W w') := fun W hW => rcols_any e.RA e.rc e.rs e.ow W ((h0.rd.below hW).more hW.size);have HNU : Hid (∀ W,Below w0.heap.size w0 W → Calls Tryz.prog 21 #[e.R.cell] W fun r w' => BQ (∀ y ∈ e.R.d,0 ≤ y ∧ y < 1073741789) r ∧ Below W.heap.size W w') := fun W hW => (rnumbers_any e.R W ((h0.R.below hW).more' hW.size)).mono fun r w' ⟨h1,h2⟩ => ⟨h1,by rw [← h2];exact Below.refl _ _⟩;have HPE : Hid (∀ W,Below w0.heap.size w0 W → Calls Tryz.prog 22 #[e.L.cell] W fun r w' => BQ (Ppl e.L.d) r ∧ Below W.heap.size W w') := fun W hW => rpeople_any e.L W ((h0.L.below hW).more' hW.size);have HF0 : Hid (∀ W,Below w0.heap.size w0 W → Calls Tryz.prog 24 #[.agg e.d0.cells.toArray] W fun r w' => BQ True r ∧ Below W.heap.size W w') := fun W hW => rfew_any e.d0 W ((h0.d0.below hW).more hW.size);have HF1 : Hid (∀ W,Below w0.heap.size w0 W → Calls Tryz.prog 24 #[.agg e.d1.cells.toArray] W fun r w' => BQ True r ∧ Below W.heap.size W w') := fun W hW => rfew_any e.d1 W ((h0.d1.below hW).more hW.size);have HR0 : Hid (∀ W,Below w0.heap.size w0 W → Calls Tryz.prog 25 #[.agg e.d0.cells.toArray] W fun r w' => BQ e.d0.right r ∧ Below W.heap.size W w') := fun W hW => rdoc_any e.d0 W ((h0.d0.below hW).more hW.size);have HR1 : Hid (∀ W,Below w0.heap.size w0 W → Calls Tryz.prog 25 #[.agg e.d1.cells.toArray] W fun r w' => BQ e.d1.right r ∧ Below W.heap.size W w') := fun W hW => rdoc_any e.d1 W ((h0.d1.below hW).more hW.size);have HRI : Hid (∀ a b c W,Calls Tryz.prog 23 #[.agg #[.int .i64 a,.int .i64 b,.int .i64 c]] W fun r w' => r = .returned (.bool (Du.right a b c)) ∧ Below W.heap.size W w') := fun a b c W => rright_any a b c W;have HCE : Hid (∀ W,Below w0.heap.size w0 W → (W.cell? ⟨s,0,none⟩ = some (.slice e.RA e.rs.length e.rc) ∧ W.cell? ⟨s,1,none⟩ = some (.slice e.ow.A e.ow.d.length e.ow.c)) ∧ W.cell? ⟨s + 1,0,none⟩ = some (.int .i64 e.d0.no) ∧ W.cell? ⟨s + 1,41,none⟩ = some (.int .i64 e.d1.no)) := fun W hW => ⟨⟨(hr0.below hW hr0.lt).cell (i := 0) rfl,(hr0.below hW hr0.lt).cell (i := 1) rfl⟩,doc_cell (hr1.below hW hr1.lt) (Doc.clen h.d0.tl)⟩;have HLD : Hid (∀ W,Below w0.heap.size w0 W → (∀ (j : Nat) (v : Value),e.d0.cells[j]? = some v → W.cell? ((⟨s + 1,0,none⟩ : Addr).add j) = some v) ∧ ∀ (j : Nat) (v : Value),e.d1.cells[j]? = some v → W.cell? ((⟨s + 1,41,none⟩ : Addr).add j) = some v) := fun W hW => ⟨(hr1.below hW hr1.lt).load 0 (by unfold Inp.docs;rw [List.drop_zero];exact List.take_left' rfl),(hr1.below hW hr1.lt).load 41 (by unfold Inp.docs;rw [List.drop_left' (Doc.clen h.d0.tl)];exact List.take_length)⟩;have HI0 : Hid ((Tryz.prog.info? 29).map (·.size) = some e.d0.cells.length) := by show _ = _;rw [Doc.clen h.d0.tl];kernel_rfl
 have HI1 : Hid ((Tryz.prog.info? 29).map (·.size) = some e.d1.cells.length) := by show _ = _;rw [Doc.clen h.d1.tl];kernel_rfl
 have HSD : Hid (0 < e.sd.d.length → ∃ b o,e.sd.A = some ⟨b,o,none⟩ ∧ ∀ k,k < e.sd.d.length → ∀ W,Below w0.heap.size w0 W → W.cell? ⟨b,o + k,none⟩ = some (.int .i64 (e.sd.d.getD k 0))) := fun hh => by
  obtain ⟨b,o,e,_,hc⟩ := RI.at h0.sd hh;exact ⟨b,o,e,hc⟩
 have HSS : Hid (0 < e.S.length → ∃ b o,e.SA = some ⟨b,o,none⟩ ∧ ∀ k,k < e.S.length → ∀ W,Below w0.heap.size w0 W → W.cell? ⟨b,o + k * 3,none⟩ = some (.int .i64 (e.S.getD k s0l).a) ∧ W.cell? ⟨b,o + k * 3 + 1,none⟩ = some (.int .i64 (e.S.getD k s0l).b) ∧ W.cell? ⟨b,o + k * 3 + 2,none⟩ = some (.int .i64 (e.S.getD k s0l).c)) := fun hh => by
  obtain ⟨b,o,e,_,hc⟩ := sil_at h0.s hh;exact ⟨b,o,e,hc⟩
 have HFIT : Hid ((e.rs.length ≤ 16 ∧ CkF e.rs e.ow.d ∧ Ncol e.rs ≤ 16) → (1 ≤ e.x0 ∧ e.x0 < 1073741789) → e.R.d.length + 1 = Ncol e.rs → (∀ y ∈ e.R.d,0 ≤ y ∧ y < 1073741789) → Ppl e.L.d → 1 ≤ e.L.d.length → e.L.d.length ≤ 6 → e.sd.d.length = e.L.d.length → e.S.length = e.L.d.length → e.d0.no ≠ e.d1.no → (∀ j,j < e.L.d.length → (0 ≤ e.sd.d.getD j 0 ∧ e.sd.d.getD j 0 ≤ 1099511627776) ∧ Du.right (e.S.getD j s0l).a (e.S.getD j s0l).b (e.S.getD j s0l).c = true) → e.d0.right → e.d1.right → e.fit) := fun a b c d e f g i j k l m n => ⟨a,b,c,d,e,f,g,i,j,k,l,m,n⟩;have HN16 : Hid ((e.rs.length ≤ 16 ∧ CkF e.rs e.ow.d ∧ Ncol e.rs ≤ 16) → Ncol e.rs ≤ 16) := fun h => h.2.2;obtain ⟨FIT,hF⟩ : ∃ F,e.fit = F := ⟨_,rfl⟩;obtain ⟨DD,hDD⟩ : ∃ D,e.docs = D := ⟨_,rfl⟩;rw [hF] at HFIT ⊢;rw [hDD] at hw0 ⊢;have HE := Lib.hid hw0;have HS := Lib.hid hs;have HB := Lib.hid hb0;clear h h0 hs hw0 hb0 hr0 hr1 hF hDD;obtain ⟨RA,rc,rs,⟨OA,oc,P⟩,x0,⟨xA,xc,X⟩,⟨LA,lc,L⟩,⟨SdA,sdc,sd⟩,d0,d1,SA,sc,S⟩ := e;unfold RI.cell at HNU HPE ⊢;dsimp only at HSM HCO HNU HPE HF0 HF1 HR0 HR1 HCE HLD HI0 HI1 HSD HSS HFIT HN16 HE ⊢;generalize (rs.length ≤ 16 ∧ CkF rs P ∧ Ncol rs ≤ 16) = P1 at HSM HFIT HN16;generalize Ncol rs = N at HCO HFIT HN16;generalize rs.length = nr at HSM HCO HCE HE ⊢;generalize P.length = np at HSM HCO HCE HE ⊢;generalize (∀ y ∈ X,0 ≤ y ∧ y < 1073741789) = PX at HNU HFIT;generalize X.length = rn at HNU HFIT ⊢;generalize Ppl L = PL at HPE HFIT;generalize L.length = n at HPE HFIT ⊢;generalize hsl : sd.length = m at HSD HFIT ⊢;generalize hSl : S.length = q at HSS HFIT ⊢;generalize d0.right = E0 at HR0 HFIT;generalize d1.right = E1 at HR1 HFIT;generalize d0.cells = C0 at HF0 HR0 HLD HI0;generalize d1.cells = C1 at HF1 HR1 HLD HI1;generalize d0.no = n0 at HCE HFIT;generalize d1.no = n1 at HCE HFIT;clear hsl hSl;rw [HS.out];have FIN : Hid (∀ W,Below w0.heap.size w0 W → Below s w W) := fun W hW => HB.out.trans (hW.mono (by have := HB.out.size;have := HS.out;omega));go_enter Tryz.func5,Tryz.ntmps5
 go_wp2_with fail
 rw [HS.out,HE.out];refine (HSM.out).mono ?_;rintro r W1 ⟨⟨b,rfl,hb⟩,hbw⟩;have HB1 := Lib.hid hbw;have HX1 := Lib.hid hb;obtain ⟨⟨c0,c1⟩,c2,c3⟩ := HCE.out _ HB1.out;clear hb hbw
 cases b with
 | false =>
  go_wp2;go_ret;exact ⟨BQ.no,FIN.out _ HB1.out⟩
 | true =>
  have N16 := HN16.out (HX1.out rfl)
  by_cases e1 : x0 < 1
  ·go_wp2
   go_ret;exact ⟨BQ.no,FIN.out _ HB1.out⟩
  have f1 : decide (x0 < 1) = false := decide_eq_false e1
  by_cases e2 : 1073741789 ≤ x0
  ·go_wp2
   go_ret;exact ⟨BQ.no,FIN.out _ HB1.out⟩
  have f2 : decide (1073741789 ≤ x0) = false := decide_eq_false e2;clear c2 c3
  go_wp2_with fail
  refine (HCO.out _ HB1.out).mono ?_;rintro r Wc ⟨rfl,hbw⟩;have HBc : Hid (Below w0.heap.size w0 Wc) := Lib.hid ((HB1.out).trans (hbw.mono (HB1.out).size));obtain ⟨⟨c0,c1⟩,c2,c3⟩ := HCE.out _ HBc.out;clear hbw
  rcases (Decidable.em (rn + 1 = N)).symm with e3 | e3
  ·have f3 : ((rn : Int) == (N : Int) - 1) = false := beq_eq_false_iff_ne.2 (by omega)
   have f4 : ((rn : Int) != (N : Int) - 1) = true := by rw [bne,f3];rfl
   have f5 : ¬ ((rn : Int) = (N : Int) - 1) := by omega
   go_wp2;go_ret;exact ⟨BQ.no,FIN.out _ HBc.out⟩
  have f3 : ((rn : Int) == (N : Int) - 1) = true := beq_iff_eq.2 (by omega);have f4 : ((rn : Int) != (N : Int) - 1) = false := by rw [bne,f3];rfl
  have f5 : ((rn : Int) = (N : Int) - 1) := by omega
  go_wp2_with fail
  refine (HNU.out _ HBc.out).mono ?_;rintro r W2 ⟨⟨b,rfl,hb⟩,hbw⟩;have HB2 : Hid (Below w0.heap.size w0 W2) := Lib.hid ((HBc.out).trans (hbw.mono (HBc.out).size));have HX2 := Lib.hid hb;obtain ⟨⟨c0,c1⟩,c2,c3⟩ := HCE.out _ HB2.out;clear hb hbw
  cases b with
  | false =>
   go_wp2;go_ret;exact ⟨BQ.no,FIN.out _ HB2.out⟩
  | true =>
   go_wp2_with fail
   refine (HPE.out _ HB2.out).mono ?_;rintro r W3 ⟨⟨b,rfl,hb⟩,hbw⟩;have HB3 : Hid (Below w0.heap.size w0 W3) := Lib.hid ((HB2.out).trans (hbw.mono (HB2.out).size));have HX3 := Lib.hid hb;obtain ⟨⟨c0,c1⟩,c2,c3⟩ := HCE.out _ HB3.out;clear hb hbw
   cases b with
   | false =>
    go_wp2;go_ret;exact ⟨BQ.no,FIN.out _ HB3.out⟩
   | true =>
    clear f3 f4 f5
    by_cases e4 : n = 0
    ·subst e4
     go_wp2;go_ret;exact ⟨BQ.no,FIN.out _ HB3.out⟩
    have g4 : ((n : Int) == 0) = false := beq_eq_false_iff_ne.2 (by omega)
    by_cases e5 : (6 : Int) < (n : Int)
    ·go_wp2
     go_ret;exact ⟨BQ.no,FIN.out _ HB3.out⟩
    have f5 : decide ((6 : Int) < (n : Int)) = false := decide_eq_false e5
    rcases (Decidable.em (m = n)).symm with e6 | e6
    ·have g6 : ((m : Int) == (n : Int)) = false := beq_eq_false_iff_ne.2 (by omega)
     have g7 : ((m : Int) != (n : Int)) = true := by rw [bne,g6];rfl
     have g8 : ¬ ((m : Int) = (n : Int)) := by omega
     go_wp2;go_ret;exact ⟨BQ.no,FIN.out _ HB3.out⟩
    subst e6
    rcases (Decidable.em (q = m)).symm with e6 | e6
    ·have g6 : ((q : Int) == (m : Int)) = false := beq_eq_false_iff_ne.2 (by omega)
     have g7 : ((q : Int) != (m : Int)) = true := by rw [bne,g6];rfl
     have g8 : ¬ ((q : Int) = (m : Int)) := by omega
     go_wp2;go_ret;exact ⟨BQ.no,FIN.out _ HB3.out⟩
    subst e6
    by_cases e7 : n0 = n1
    ·subst e7
     go_wp2;go_ret;exact ⟨BQ.no,FIN.out _ HB3.out⟩
    have g9 : (n0 == n1) = false := beq_eq_false_iff_ne.2 e7;go_wp2;clear c0 c1 c2 c3
    go_loopw [15,78] (fun _ i wr => Below w0.heap.size w0 wr ∧ ∃ k : Nat,k ≤ q ∧ i = .int .i64 k ∧ ∀ j,j < k → (0 ≤ sd.getD j 0 ∧ sd.getD j 0 ≤ 1099511627776) ∧ Du.right (S.getD j s0l).a (S.getD j s0l).b (S.getD j s0l).c = true) (fun _ i _ => q - (intOf i).toNat)
    case atStart => exact ⟨HB3.out,0,Nat.zero_le _,rfl,fun j hj => absurd hj (by omega)⟩
    case round =>
     obtain ⟨hbw,k,hk,rfl,hu⟩ := hrel;have HU := Lib.hid hu;have HBW := Lib.hid hbw;obtain ⟨⟨c0,c1⟩,c2,c3⟩ := HCE.out _ hbw;clear hu hbw
     by_cases hlt : k < q
     ·obtain ⟨b,o,hA,hcc⟩ := HSD.out (by omega)
      subst hA;obtain ⟨b2,o2,hA,hss⟩ := HSS.out (by omega);subst hA;have q0 := hcc k hlt wr HBW.out;obtain ⟨t0,t1,t2⟩ := hss k hlt wr HBW.out;have k1 : (k : Int) < (q : Int) := by omega
      have k0 : (0 : Int) ≤ (k : Int) := by omega
      have HV : Hid (∀ v,sd.getD k 0 = v → 0 ≤ v → v ≤ 1099511627776 → Du.right (S.getD k s0l).a (S.getD k s0l).b (S.getD k s0l).c = true → (∀ j,j < k + 1 → (0 ≤ sd.getD j 0 ∧ sd.getD j 0 ≤ 1099511627776) ∧ Du.right (S.getD j s0l).a (S.getD j s0l).b (S.getD j s0l).c = true)) := fun v e h1 h2 h3 j hj => by
       by_cases e' : j = k
       ·subst e';rw [e];exact ⟨⟨h1,h2⟩,h3⟩
       ·exact HU.out j (by omega)
      obtain ⟨v,hv⟩ : ∃ v,sd.getD k 0 = v := ⟨_,rfl⟩
      replace HV : Hid (0 ≤ v → v ≤ 1099511627776 → Du.right (S.getD k s0l).a (S.getD k s0l).b (S.getD k s0l).c = true → (∀ j,j < k + 1 → (0 ≤ sd.getD j 0 ∧ sd.getD j 0 ≤ 1099511627776) ∧ Du.right (S.getD j s0l).a (S.getD j s0l).b (S.getD j s0l).c = true)) := HV.out v hv
      rw [hv] at q0;generalize hsk : S.getD k s0l = sk at t0 t1 t2 HV;obtain ⟨a,b',c⟩ := sk;dsimp only at t0 t1 t2 HV;clear hv hsk hcc hss
      by_cases e8 : v < 0
      ·go_wp2
       go_ret;exact ⟨BQ.no,FIN.out _ HBW.out⟩
      have f8 : decide (v < 0) = false := decide_eq_false e8
      by_cases e9 : 1099511627776 < v
      ·go_wp2
       go_ret;exact ⟨BQ.no,FIN.out _ HBW.out⟩
      have f9 : decide (1099511627776 < v) = false := decide_eq_false e9
      go_wp2_with fail
      have HRK := Lib.hid (HRI.out a b' c wr);generalize Du.right a b' c = RB at HRK HV;refine HRK.out.mono ?_;rintro r W9 ⟨rfl,hbw⟩;have HB9 : Hid (Below w0.heap.size w0 W9) := Lib.hid (HBW.out.trans (hbw.mono HBW.out.size));clear hbw HRK
      cases RB with
      | false =>
       go_wp2;go_ret;exact ⟨BQ.no,FIN.out _ HB9.out⟩
      | true =>
       go_wp2;go_roundw
       case rel => exact ⟨HB9.out,k + 1,by omega,by go_num,HV.out (by omega) (by omega) trivial⟩
       case measure => simp [intOf];omega
     ·obtain rfl : k = q := by omega
      clear c0 c1 c2 c3
      go_wp2_with (first | (refine wpList_exec_val (.agg C0.toArray) (by rfl) (run_load_exec 29 (.tmp 102) rfl ⟨s + 1,0,none⟩ (by rfl) C0 _ (HLD.out _ HBW.out).1 Tryz.underlying29 (by rfl) HI0.out) ?_) | fail)
      refine (HF0.out _ HBW.out).mono ?_;rintro r W4 ⟨⟨b,rfl,hb⟩,hbw⟩;have HB4 : Hid (Below w0.heap.size w0 W4) := Lib.hid ((HBW.out).trans (hbw.mono (HBW.out).size));have HY1 := Lib.hid hb;obtain ⟨⟨c0,c1⟩,c2,c3⟩ := HCE.out _ HB4.out;clear hb hbw
      cases b with
      | false =>
       go_wp2;go_ret;exact ⟨BQ.no,FIN.out _ HB4.out⟩
      | true =>
       clear c0 c1 c2 c3
       go_wp2_with (first | (refine wpList_exec_val (.agg C1.toArray) (by rfl) (run_load_exec 29 (.tmp 106) rfl ⟨s + 1,41,none⟩ (by rfl) C1 _ (HLD.out _ HB4.out).2 Tryz.underlying29 (by rfl) HI1.out) ?_) | fail)
       refine (HF1.out _ HB4.out).mono ?_;rintro r W5 ⟨⟨b,rfl,hb⟩,hbw⟩;have HB5 : Hid (Below w0.heap.size w0 W5) := Lib.hid ((HB4.out).trans (hbw.mono (HB4.out).size));have HY2 := Lib.hid hb;obtain ⟨⟨c0,c1⟩,c2,c3⟩ := HCE.out _ HB5.out;clear hb hbw
       cases b with
       | false =>
        go_wp2;go_ret;exact ⟨BQ.no,FIN.out _ HB5.out⟩
       | true =>
        clear c0 c1 c2 c3
        go_wp2_with (first | (refine wpList_exec_val (.agg C0.toArray) (by rfl) (run_load_exec 29 (.tmp 111) rfl ⟨s + 1,0,none⟩ (by rfl) C0 _ (HLD.out _ HB5.out).1 Tryz.underlying29 (by rfl) HI0.out) ?_) | fail)
        refine (HR0.out _ HB5.out).mono ?_;rintro r W6 ⟨⟨b,rfl,hb⟩,hbw⟩;have HB6 : Hid (Below w0.heap.size w0 W6) := Lib.hid ((HB5.out).trans (hbw.mono (HB5.out).size));have HY3 := Lib.hid hb;obtain ⟨⟨c0,c1⟩,c2,c3⟩ := HCE.out _ HB6.out;clear hb hbw
        cases b with
        | false =>
         go_wp2;go_ret;exact ⟨BQ.no,FIN.out _ HB6.out⟩
        | true =>
         clear c0 c1 c2 c3
         go_wp2_with (first | (refine wpList_exec_val (.agg C1.toArray) (by rfl) (run_load_exec 29 (.tmp 116) rfl ⟨s + 1,41,none⟩ (by rfl) C1 _ (HLD.out _ HB6.out).2 Tryz.underlying29 (by rfl) HI1.out) ?_) | fail)
         refine (HR1.out _ HB6.out).mono ?_;rintro r W7 ⟨⟨b,rfl,hb⟩,hbw⟩;have HB7 : Hid (Below w0.heap.size w0 W7) := Lib.hid ((HB6.out).trans (hbw.mono (HB6.out).size));have HY4 := Lib.hid hb;obtain ⟨⟨c0,c1⟩,c2,c3⟩ := HCE.out _ HB7.out;clear hb hbw
         cases b with
         | false =>
          go_wp2;go_ret;exact ⟨BQ.no,FIN.out _ HB7.out⟩
         | true =>
          clear c0 c1 c2 c3;go_wp2;go_ret;exact ⟨BQ.yes (HFIT.out (HX1.out trivial) ⟨by omega,by omega⟩ e3 (HX2.out trivial) (HX3.out trivial) (by omega) (by omega) trivial trivial e7 HU.out (HY3.out trivial) (HY4.out trivial)),FIN.out _ HB7.out⟩
end Go.Proofs.YtifejdpffkeniaaGreatDoor
