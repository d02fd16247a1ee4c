/- The reference's digest: Sum. -/
import Derived.Test.YtpjggokaolnbcaaDoorRefSumMath
import Derived.StillTailTactics
namespace Go.Proofs.YtpjggokaolnbcaaDoor
open Go.RowKit
set_option linter.unusedVariables false
theorem info73 : (Tryd.prog.info? 35).map (·.size) = some 32 := by kernel_rfl
def zer32 : List Int := List.replicate 32 0
theorem zer32_length : zer32.length = 32 := by kernel_rfl
theorem rbuilt32 : Tryd.prog.built 35 [] = some (zer32.map (Value.int .u8)).toArray := by kernel_rfl
theorem ne_kind {w : World} {B b o n G : Nat} {l st : List Int} {t : TypeId} (h : Rd w B 1 (some ⟨b, o, none⟩) n (l.map (Value.int .u8))) (hn : 0 < n) (hS : Ints w G t .u32 st) : b ≠ G := by
  intro e
  subst e
  have h1 := bytes_at h (j := 0) hn
  rw [hS.cell? (o + 0)] at h1
  cases hq : st[o + 0]? with
  | none => rw [hq] at h1; cases h1
  | some y =>
    rw [hq] at h1
    injection h1 with h1
    injection h1 with h1 h2
    cases h1
set_option maxRecDepth 100000 in
set_option maxHeartbeats 4000000 in
theorem rsum_any (K : Sh.Cst) (A : Option Addr) (n cap : Nat) (bs : List Int) (w : World) (hr : Rd w w.heap.size 1 A n (bs.map (Value.int .u8))) (hbb : ∀ x ∈ bs, 0 ≤ x ∧ x < 256)
    (hn : n ≤ 1000000) (hnc : n ≤ cap) (hcap : cap ≤ maxLen) :
    Calls Tryd.prog 44 #[.slice A n cap] w fun e w' => e = .returned (.agg ((Sh.sum K bs).map (Value.int .u8)).toArray) ∧ Below w.heap.size w w' := by
  unfold maxLen at hcap
  have hlen : bs.length = n := by simpa using hr.1
  have hD := (Ints.new w 35 .u8 zer32).alloc (.cells (Sh.Hs.map (Value.int .u32)).toArray 71)
  have hS := Ints.new (w.alloc (.cells (zer32.map (Value.int .u8)).toArray 35)) 71 .u32 Sh.Hs
  have hB := ((Below.refl w.heap.size w).alloc (Nat.le_refl _) (.cells (zer32.map (Value.int .u8)).toArray 35)).alloc (by simp) (.cells (Sh.Hs.map (Value.int .u32)).toArray 71)
  have hR := (hr.below hB).more (B' := ((w.alloc (.cells (zer32.map (Value.int .u8)).toArray 35)).alloc (.cells (Sh.Hs.map (Value.int .u32)).toArray 71)).heap.size) hB.size
  rw [World.size_alloc] at hS
  have hP := rpadded_any A n cap bs _ hR hn hnc
  have hPl := Sh.padR_length bs
  rw [hlen] at hPl
  have hPn : Sh.padN n ≤ 63 := by unfold Sh.padN; omega
  have HF := Lib.hid (And.intro hD (And.intro hS (And.intro hB hP)))
  have hPm := Sh.padR_mod bs
  have hPb := Sh.padR_bytes hbb
  have hPl2 : (Sh.padR bs).length ≤ 1000100 := by omega
  obtain ⟨k32, hk32⟩ : ∃ k : Nat, k = 32 := ⟨_, rfl⟩
  have HJ : Hid (Sh.outR (Sh.sb K (Sh.padR bs) ((Sh.padR bs).length / 64)) k32 = Sh.sum K bs) := by show _ = _; rw [hk32]; exact Sh.sum_join K bs
  have HK32 := Lib.hid hk32
  clear hk32
  obtain ⟨P, hPe⟩ : ∃ P, Sh.padR bs = P := ⟨_, rfl⟩
  rw [hPe] at hPm hPb hPl2 hPl HJ
  obtain ⟨m, hm⟩ : ∃ m, P.length = m := ⟨_, rfl⟩
  rw [hm] at hPm hPl2 hPl HJ
  have hm0 : 0 < m := by omega
  have HPe := Lib.hid (And.intro hPe hm)
  have HPm := Lib.hid hPm
  have HPb := Lib.hid hPb
  clear hlen hD hS hB hR hr hP hPl hPn hPe hPm hPb hm
  have hmi : (m : Int) ≤ 1000100 := by omega
  go_enter Tryd.func44, Tryd.ntmps44
  go_wp2_with fail
  obtain ⟨hD0, hS0, hB0, hP0⟩ := HF.out
  refine hP0.mono ?_
  rintro e w1 ⟨A1, c1, rfl, hR1, hl1, hc1, hb1⟩
  have hD := hD0.below hb1 hD0.lt
  have hS := hS0.below hb1 hS0.lt
  have hB := hB0.trans (hb1.mono hB0.size)
  clear HF hD0 hS0 hB0 hP0 hb1
  obtain ⟨hPe, hm⟩ := HPe.out
  rw [hPe, hm] at hR1
  rw [hPe, hm] at hl1
  rw [hPe, hm]
  unfold maxLen at hc1
  have h1m := hR1
  obtain ⟨b, o, rfl, hblt, _⟩ := hR1.2 hm0
  have hne : b ≠ w.heap.size + 1 := ne_kind hR1 hm0 hS
  have HNE := Lib.hid hne
  have HR1 := Lib.hid hR1
  clear hPe hm hne hR1 h1m HPe
  have hc1' : (c1 : Int) ≤ 9223372036854775807 := by omega
  have hl1' : (m : Int) ≤ c1 := by omega
  have hg := World.grownBy.refl w1 (some (w.heap.size + 1))
  have hGl := hS.lt
  go_wp2
  go_loopw [5] (fun i wr => ∃ (j p : Nat), 64 * j = p ∧ p ≤ m ∧ i = .int .i64 p ∧ Ints wr (w.heap.size + 1) 71 .u32 (Sh.sb K P j) ∧ w1.grownBy wr (some (w.heap.size + 1))) (fun i _ => m - (intOf i).toNat)
  case atStart => exact ⟨0, 0, rfl, by omega, rfl, hS, hg⟩
  case round =>
    clear hS hg
    obtain ⟨j, p, hp, hpm, rfl, hS, hg⟩ := hrel
    have HP := Lib.hid hp
    by_cases hlt : p < m
    · have p64 : p + 64 ≤ m := by have := HPm.out; omega
      have hl := Sh.sb_length K P j
      have HQ : Hid (Sh.sb K P (j + 1) = Sh.block K (Sh.sb K P j) ((P.drop p).take 64)) := by
        show _ = _
        rw [Sh.sb, hp]
      have hRr := hb_of_grown HR1.out hg HNE.out
      have hRp := (hRr.cut (k := p) (by omega) hl1).take (k := 64) (by omega)
      rw [if_neg (by omega), Nat.mul_one, Nat.mul_one] at hRp
      simp only [Option.map_some, Addr.add_flat] at hRp
      rw [← List.map_drop, ← List.map_take] at hRp
      have hPbb : ∀ x ∈ (P.drop p).take 64, 0 ≤ x ∧ x < 256 := fun x hx => HPb.out x (List.mem_of_mem_drop (List.mem_of_mem_take hx))
      obtain ⟨ST, hST⟩ : ∃ ST, Sh.sb K P j = ST := ⟨_, rfl⟩
      rw [hST] at hS hl HQ
      obtain ⟨BL, hBL⟩ : ∃ BL, (P.drop p).take 64 = BL := ⟨_, rfl⟩
      rw [hBL] at hRp hPbb HQ
      obtain ⟨s0, s1, s2, s3, s4, s5, s6, s7, rfl⟩ := eight hl
      have hblk : ∀ W, Rd W W.heap.size 1 (some ⟨b, o + p, none⟩) 64 (BL.map (Value.int .u8)) → Calls Tryd.prog 57 #[.agg #[.int .u32 s0, .int .u32 s1, .int .u32 s2, .int .u32 s3, .int .u32 s4, .int .u32 s5, .int .u32 s6, .int .u32 s7], .slice (some ⟨b, o + p, none⟩) 64 (c1 - p)] W fun e w' => e = .returned (.agg ((Sh.block K [s0, s1, s2, s3, s4, s5, s6, s7] BL).map (Value.int .u32)).toArray) ∧ Below W.heap.size W w' :=
        fun W h => rblock_any K b (o + p) (c1 - p) [s0, s1, s2, s3, s4, s5, s6, s7] BL W rfl h hPbb (by omega) (by unfold maxLen; omega)
      have HBLK := Lib.hid hblk
      have HRp := Lib.hid hRp
      have hBlen := Sh.block_length K [s0, s1, s2, s3, s4, s5, s6, s7] BL
      have hBlen : (Sh.block K [s0, s1, s2, s3, s4, s5, s6, s7] BL).length = 8 := hBlen
      obtain ⟨NB, hNB⟩ : ∃ NB, Sh.block K [s0, s1, s2, s3, s4, s5, s6, s7] BL = NB := ⟨_, rfl⟩
      rw [hNB] at HQ hBlen HBLK
      have hst9 : (Tryd.prog.info? 71).map (·.size) = some ((NB.map (Value.int .u32)).toArray.size) := by
        rw [show (NB.map (Value.int .u32)).toArray.size = 8 by simp [hBlen]]
        exact info8u
      have HX := Lib.hid (And.intro hBlen hst9)
      obtain ⟨p', hp'⟩ : ∃ p', p + 64 = p' := ⟨_, rfl⟩
      have HP' := Lib.hid hp'
      have g0 : _ = some (Value.int .u32 s0) := hS.cell? 0
      have g1 : _ = some (Value.int .u32 s1) := hS.cell? 1
      have g2 : _ = some (Value.int .u32 s2) := hS.cell? 2
      have g3 : _ = some (Value.int .u32 s3) := hS.cell? 3
      have g4 : _ = some (Value.int .u32 s4) := hS.cell? 4
      have g5 : _ = some (Value.int .u32 s5) := hS.cell? 5
      have g6 : _ = some (Value.int .u32 s6) := hS.cell? 6
      have g7 : _ = some (Value.int .u32 s7) := hS.cell? 7
      have k1 : (p : Int) < m := by omega
      have k2 : (p' : Int) ≤ c1 := by omega
      have k3 : ¬ c1 = p := by omega
      have k4 : (p : Int) ≤ c1 := by omega
      have k5 : (p : Int) ≤ p' := by omega
      have e1 : IntKind.i64.wrap ((p : Int) + 64) = (p' : Int) := by rw [IntWalk.i64_in _ (by omega)]; omega
      have e2 : p' - p = 64 := by omega
      clear hblk hRp hl hst9 hBlen hNB hST hBL hPbb hRr hp hp'
      go_wp2
      go_still_tail 6, (by kernel_rfl)
      change wpList _ _ _ _ _ wr.drew
      have hS := hS.drew
      have hg := grown_drew hg
      have HRp : Hid (Rd wr.drew wr.drew.heap.size 1 (some ⟨b, o + p, none⟩) 64 (BL.map (Value.int .u8))) := HRp
      clear g0 g1 g2 g3 g4 g5 g6 g7
      generalize wr.drew = wy at hS hg HRp ⊢
      have g0 : _ = some (Value.int .u32 s0) := hS.cell? 0
      have g1 : _ = some (Value.int .u32 s1) := hS.cell? 1
      have g2 : _ = some (Value.int .u32 s2) := hS.cell? 2
      have g3 : _ = some (Value.int .u32 s3) := hS.cell? 3
      have g4 : _ = some (Value.int .u32 s4) := hS.cell? 4
      have g5 : _ = some (Value.int .u32 s5) := hS.cell? 5
      have g6 : _ = some (Value.int .u32 s6) := hS.cell? 6
      have g7 : _ = some (Value.int .u32 s7) := hS.cell? 7
      go_wp2_with fail
      refine (HBLK.out _ HRp.out).mono ?_
      rintro e w2 ⟨rfl, hb2⟩
      have hS2 := hS.below hb2 hS.lt
      have hg2 := grown_then hg (grown_below hb2) (fun _ h => by cases h)
      clear hS hg g0 g1 g2 g3 g4 g5 g6 g7
      go_wp2_with (refine wpList_store_ints rfl 71 (.tmp 3) (.tmp 23) rfl (w.heap.size + 1) .u32 NB (by rfl) (by rfl) 71 _ hS2 (by rw [HX.out.1]; rfl) (by rw [HX.out.1]; exact info8u) ?_; intro w3 hS3 hg3)
      go_roundw
      case rel => exact ⟨j + 1, p', by have := HP.out; have := HP'.out; omega, by have := HP'.out; omega, by have := HP'.out; first | rfl | (congr 1; omega), by rw [HQ.out]; exact hS3, grown_then hg2 hg3 (fun k e => by injection e with e; right; rw [e])⟩
      case measure => simp [intOf]; omega
    · have hpe : p = m := by omega
      have hj : j = m / 64 := by omega
      have hSl := Sh.sb_length K P j
      have HJ2 : Hid (Sh.outR (Sh.sb K P j) k32 = Sh.sum K bs) := by show _ = _; rw [hj]; exact HJ.out
      obtain ⟨SS, hSS⟩ : ∃ SS, Sh.sb K P j = SS := ⟨_, rfl⟩
      rw [hSS] at hS hSl HJ2
      have HSl := Lib.hid hSl
      have hDg := hD.grown hg (by simp)
      have hBg : Below w.heap.size w wr := hB.grown hg hB.size (fun k e => by injection e with e; omega)
      have hlt2 := hS.lt
      have k9 : (m : Int) ≤ p := by omega
      clear hSS hj hSl hp hpe hD hB hg HJ hlt
      have hD6 := Ints.new wr 35 .u8 zer32
      have HD6 := Lib.hid hD6
      clear hD6
      go_wp2_with (first | (refine Great.wpList_buildTo rfl 35 #[] rfl (some 24) rfl (zer32.map (Value.int .u8)).toArray (by exact rbuilt32) ?_) | (refine wpList_store_ints rfl 35 (.tmp 6) (.tmp 24) rfl wr.heap.size .u8 zer32 (by rfl) (by rfl) 35 zer32 HD6.out rfl (by rw [zer32_length]; exact info73) ?_; intro w5 hD5 hg5))
      have hq5 := hD5.lt
      have hw5 : wr.heap.size < w5.heap.size := hq5
      have hS5 := (hS.alloc _).grown hg5 (by simp; omega)
      have hDd := (hDg.alloc _).grown hg5 (by have := hDg.lt; simp; omega)
      have hB5 := (hBg.alloc hBg.size _).grown hg5 (by simp; have := hBg.size; omega) (fun k e => by injection e with e; have := hBg.size; omega)
      clear hg5 HD6 hDg hBg hS
      obtain ⟨D6, hD6e⟩ : ∃ D6, wr.heap.size = D6 := ⟨_, rfl⟩
      rw [hD6e] at hD5 hw5 hq5 hlt2 ⊢
      clear hD6e
      have hE5 := Below.refl D6 w5
      go_loopw [7] (fun i wx => ∃ k : Nat, k ≤ 32 ∧ i = .int .i64 k ∧ Ints wx D6 35 .u8 (Sh.outR SS k) ∧ Below D6 w5 wx) (fun i _ => 32 - (intOf i).toNat)
      case atStart => exact ⟨0, by omega, rfl, hD5, hE5⟩
      case round =>
        clear hD5 hE5
        obtain ⟨k, hk, rfl, hD, hE⟩ := hrel
        by_cases hlt : k < 32
        · obtain ⟨q, hq⟩ : ∃ q, k / 4 = q := ⟨_, rfl⟩
          obtain ⟨r, hr⟩ : ∃ r, k % 4 = r := ⟨_, rfl⟩
          obtain ⟨s, hs⟩ : ∃ s, 24 - 8 * r = s := ⟨_, rfl⟩
          have HQ : Hid (Sh.outR SS (k + 1) = (Sh.outR SS k).set k (IntKind.u8.wrap (SS.getD q 0 / 2 ^ s))) := by
            show _ = _
            rw [Sh.outR, Sh.rbyte, hq, hr, hs]
          have hq8 : (q : Int) < 8 := by omega
          have hr4 : (r : Int) < 4 := by omega
          have hr0 : (0 : Int) ≤ r := by omega
          have hq0 : (0 : Int) ≤ q := by omega
          have hs1 : (s : Int) < 32 := by omega
          have e1 : (k : Int) / 4 = (q : Int) := by omega
          have e2 : (k : Int) % 4 = (r : Int) := by omega
          have e3 : (24 : Int) - 8 * (r : Int) = (s : Int) := by omega
          have c0 := (hS5.below hE (by omega)).cell (i := q) (by rw [HSl.out]; omega)
          have f0 := hD.frozen k
          have c1 := hD.cell (i := k) (by rw [Sh.outR_length]; exact hlt)
          have k1 : (k : Int) < 32 := by omega
          generalize SS.getD q 0 = xq at *
          clear hq hr hs
          go_wp2
          go_roundw
          case rel => exact ⟨k + 1, by omega, by go_num, by rw [HQ.out]; exact hD.set_ k _, hE.setCell (Nat.le_refl _) _⟩
          case measure => simp [intOf]; omega
        · have hk32 : k = k32 := by have := HK32.out; omega
          rw [hk32] at hD
          have hL32 := Sh.outR_length SS k32
          rw [HJ2.out] at hD hL32
          obtain ⟨U, hU⟩ : ∃ U, Sh.sum K bs = U := ⟨_, rfl⟩
          rw [hU] at hD hL32
          have HU := Lib.hid hU
          have HL32 := Lib.hid hL32
          have hDx := hDd.below hE (by omega)
          have hBx := hB5.trans (hE.mono (by omega))
          clear hk32 hL32 hU HJ2
          go_wp2_with (first | (refine wpList_load_row rfl 35 (.tmp 6) rfl D6 (by rfl) 35 _ (0, 0) _ hD Tryd.underlying35 (by rfl) (by simpa [HL32.out] using info73) ?_) | (refine wpList_store_ints rfl 35 (.tmp 2) (.tmp 41) rfl w.heap.size .u8 U (by rfl) (by rfl) 35 _ hDx (by rw [HL32.out]; exact zer32_length) (by rw [HL32.out]; exact info73) ?_; intro w9 hD9 hg9))
          refine bodyPost_ret (results_cell_row rfl _ _ w.heap.size 35 _ (0, 0) _ (by rfl) hD9 Tryd.underlying35 (by rfl) (by simpa [HL32.out] using info73)) rfl ?_
          exact ⟨by rw [HU.out], hBx.grown hg9 hBx.size (fun k e => by injection e with e; omega)⟩
end Go.Proofs.YtpjggokaolnbcaaDoor
