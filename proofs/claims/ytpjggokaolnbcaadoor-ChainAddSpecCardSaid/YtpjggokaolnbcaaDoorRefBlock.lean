/- The reference's digest: a block is added to the state. -/
import Derived.Test.YtpjggokaolnbcaaDoorRefNumbers
namespace Go.Proofs.YtpjggokaolnbcaaDoor
open Go.RowKit
set_option linter.unusedVariables false
theorem built64 : Tryd.prog.built 84 [] = some (zer64.map (Value.int .u32)).toArray := by kernel_rfl
namespace Sh
theorem ch_join (e f g : Int) : bits .xor .u32 (bits .and .u32 e f) (bits .and .u32 (bits .xor .u32 (if IntKind.u32.signed = true then -1 else IntKind.u32.max) e) g) = bits .xor .u32 g (bits .and .u32 e (bits .xor .u32 f g)) := by
  have h0 : (if IntKind.u32.signed = true then -1 else IntKind.u32.max) = 4294967295 := by decide
  have h1 : U 4294967295 = BitVec.allOnes 32 := by decide
  rw [h0]
  simp only [xor_U, and_U, U_nat, h1]
  rw [show BitVec.allOnes 32 ^^^ U e = ~~~ U e from (BitVec.not_def).symm ▸ rfl, ch_bv]
theorem maj_join (a b c : Int) : bits .xor .u32 (bits .xor .u32 (bits .and .u32 a b) (bits .and .u32 a c)) (bits .and .u32 b c) = bits .or .u32 (bits .and .u32 a b) (bits .and .u32 c (bits .or .u32 a b)) := by
  simp only [xor_U, and_U, or_U, U_nat]
  rw [maj_bv]
theorem rstep_eq (x0 x1 x2 x3 x4 x5 x6 x7 kt wt : Int) : rstep [x0, x1, x2, x3, x4, x5, x6, x7] kt wt =
    [((x7 + bits .xor .u32 (bits .xor .u32 (rl x4 26) (rl x4 21)) (rl x4 7) + bits .xor .u32 (bits .and .u32 x4 x5) (bits .and .u32 (bits .xor .u32 (if IntKind.u32.signed = true then -1 else IntKind.u32.max) x4) x6) + kt + wt) % 4294967296 +
        (bits .xor .u32 (bits .xor .u32 (rl x0 30) (rl x0 19)) (rl x0 10) + bits .xor .u32 (bits .xor .u32 (bits .and .u32 x0 x1) (bits .and .u32 x0 x2)) (bits .and .u32 x1 x2)) % 4294967296) % 4294967296,
      x0, x1, x2,
      (x3 + (x7 + bits .xor .u32 (bits .xor .u32 (rl x4 26) (rl x4 21)) (rl x4 7) + bits .xor .u32 (bits .and .u32 x4 x5) (bits .and .u32 (bits .xor .u32 (if IntKind.u32.signed = true then -1 else IntKind.u32.max) x4) x6) + kt + wt) % 4294967296) % 4294967296,
      x4, x5, x6] := by
  rw [ch_join, maj_join]
  unfold rstep rot
  simp only [List.cons.injEq, and_true, true_and]
  constructor <;> omega
end Sh
theorem grown_drw {a w w' : World} {row : Option Nat} (h : a.grownBy w row) (hd : Drw w w') : a.grownBy w' row := by
  obtain ⟨m, rfl⟩ := hd; exact grown_drewN h m
theorem Ints.drw {w w' : World} {g : Nat} {t : TypeId} {k : IntKind} {l : List Int} (h : Ints w g t k l) (hd : Drw w w') : Ints w' g t k l := by
  obtain ⟨m, rfl⟩ := hd; exact h
set_option maxRecDepth 100000 in
set_option maxHeartbeats 4000000 in
theorem rblock_any (K : Sh.Cst) (b o cap : Nat) (st bl : List Int) (w : World) (hl : st.length = 8)
    (hb : Rd w w.heap.size 1 (some ⟨b, o, none⟩) 64 (bl.map (Value.int .u8))) (hbb : ∀ x ∈ bl, 0 ≤ x ∧ x < 256) (hcap : 64 ≤ cap) (hcap2 : cap ≤ maxLen) :
    Calls Tryd.prog 57 #[.agg (st.map (Value.int .u32)).toArray, .slice (some ⟨b, o, none⟩) 64 cap] w fun e w' => e = .returned (.agg ((Sh.block K st bl).map (Value.int .u32)).toArray) ∧ Below w.heap.size w w' := by
  unfold maxLen at hcap2
  have hKa := Lib.hid K.ha
  have hKb := Lib.hid K.hb
  have hKd := Lib.hid K.hd
  obtain ⟨s0, s1, s2, s3, s4, s5, s6, s7, rfl⟩ := eight hl
  obtain ⟨W0, hW0⟩ : ∃ W0, (w.alloc (.cells #[.int .u32 s0, .int .u32 s1, .int .u32 s2, .int .u32 s3, .int .u32 s4, .int .u32 s5, .int .u32 s6, .int .u32 s7] 71)).alloc (.cells ((List.replicate 8 (0 : Int)).map (Value.int .u32)).toArray 71) = W0 := ⟨_, rfl⟩
  have hS : Ints W0 w.heap.size 71 .u32 [s0, s1, s2, s3, s4, s5, s6, s7] := by rw [← hW0]; exact (Ints.new w _ _ [s0, s1, s2, s3, s4, s5, s6, s7]).alloc _
  have hD : Ints W0 (w.heap.size + 1) 71 .u32 (List.replicate 8 0) := by
    rw [← hW0]
    have h := Ints.new (w.alloc (.cells #[.int .u32 s0, .int .u32 s1, .int .u32 s2, .int .u32 s3, .int .u32 s4, .int .u32 s5, .int .u32 s6, .int .u32 s7] 71)) 71 .u32 (List.replicate 8 0)
    rw [World.size_alloc] at h
    exact h
  have hB : Below w.heap.size w W0 := by rw [← hW0]; exact ((Below.refl _ _).alloc (Nat.le_refl _) _).alloc (by simp) _
  have hR := (hb.below hB).more (B' := W0.heap.size) hB.size
  have hz : W0.heap.size = w.heap.size + 1 + 1 := by rw [← hW0]; simp
  have HA := Lib.hid hW0
  clear hW0
  go_enter Tryd.func57, Tryd.ntmps57
  have hI1 := Ints.new W0 84 .u32 zer64
  rw [hz] at hI1
  have HI1 := Lib.hid (And.intro HA.out hI1)
  clear hI1 HA
  go_wp2_with (first | (refine Great.wpList_buildTo rfl 84 #[] rfl (some 22) rfl (zer64.map (Value.int .u32)).toArray (by exact built64) ?_) | (obtain ⟨hA0, hI1⟩ := HI1.out; refine wpList_store_ints rfl 84 (.tmp 5) (.tmp 22) rfl (w.heap.size + 1 + 1) .u32 zer64 (by rfl) (by rfl) 84 zer64 (by rw [← hA0] at hI1; exact hI1) rfl (by rw [zer64_length]; exact info64) ?_; intro W2 hI2 hg2))
  subst hA0
  have hg2' := hg2
  have hS2 : Ints W2 w.heap.size 71 .u32 [s0, s1, s2, s3, s4, s5, s6, s7] := (hS.alloc _).grown hg2 (by simp; omega)
  have hD2 : Ints W2 (w.heap.size + 1) 71 .u32 (List.replicate 8 0) := (hD.alloc _).grown hg2 (by simp)
  have hB2 : Below w.heap.size w W2 := (hB.alloc (Nat.le_trans (by simp) hB.size) _).grown hg2 (by simp; omega) (fun k e => by injection e with e; omega)
  have hz2 : w.heap.size + 1 + 1 < W2.heap.size := hI2.lt
  clear hg2 hg2' hI1 hS hD hB hR hz HI1
  have hE := Below.refl (w.heap.size + 1 + 1) W2
  obtain ⟨N, hN⟩ : ∃ N, w.heap.size + 1 + 1 = N := ⟨_, rfl⟩
  rw [hN] at hI2 hz2 hE ⊢
  have HN := Lib.hid hN
  have HS2 := Lib.hid (And.intro hS2 hD2)
  clear hN hS2 hD2
  go_loopw [6] (fun i wr => ∃ k : Nat, k ≤ 16 ∧ i = .int .i64 k ∧ Ints wr N 84 .u32 (Sh.ws1 bl k) ∧ Below N W2 wr) (fun i _ => 16 - (intOf i).toNat)
  case atStart => exact ⟨0, by omega, rfl, hI2, hE⟩
  case round =>
    clear hI2 hE
    obtain ⟨k, hk, rfl, hI, hE⟩ := hrel
    by_cases hlt : k < 16
    · have k1 : (k : Int) < 16 := by omega
      have k2 : (4 * (k : Int) + 4) ≤ (cap : Int) := by omega
      have k3 : ¬ cap = 4 * k := by omega
      have k4 : (4 * (k : Int)) ≤ 64 := by omega
      have k5 : (4 * (k : Int)) ≤ (cap : Int) := by omega
      have hR := hb.below (hB2.trans (hE.mono (by have := HN.out; omega)))
      have hlen : bl.length = 64 := by simpa using hb.1
      have c0 := bytes_at hR (j := 4 * k) (by omega)
      have c1 := bytes_at hR (j := 4 * k + 1) (by omega)
      have c2 := bytes_at hR (j := 4 * k + 2) (by omega)
      have c3 := bytes_at hR (j := 4 * k + 3) (by omega)
      have b0 := getD_bd hbb (j := 4 * k) (by omega)
      have b1 := getD_bd hbb (j := 4 * k + 1) (by omega)
      have b2 := getD_bd hbb (j := 4 * k + 2) (by omega)
      have b3 := getD_bd hbb (j := 4 * k + 3) (by omega)
      have HW : Hid (Sh.ws1 bl (k + 1) = (Sh.ws1 bl k).set k (Sh.word (bl.getD (4 * k) 0) (bl.getD (4 * k + 1) 0) (bl.getD (4 * k + 2) 0) (bl.getD (4 * k + 3) 0))) := rfl
      have hc := hI.cell (i := k) (by rw [Sh.ws1_length]; omega)
      have hf := hI.frozen k
      rw [← Nat.add_assoc] at c1 c2 c3
      generalize bl.getD (4 * k) 0 = x0 at *
      generalize bl.getD (4 * k + 1) 0 = x1 at *
      generalize bl.getD (4 * k + 2) 0 = x2 at *
      generalize bl.getD (4 * k + 3) 0 = x3 at *
      clear hlen hR
      go_wp2_with (go_at_call 62; (with_reducible refine (rword_any _ _ _ _ x0 x1 x2 x3 _ c0 c1 c2 c3 b0 b1 b2 b3 (by omega) (by omega)).mono ?_); rintro e w' ⟨rfl, m, rfl⟩)
      go_roundw
      case rel => exact ⟨k + 1, by omega, by go_num, by rw [HW.out]; exact (hI.drewN m).set_ _ _, (below_drewN hE m).setCell (Nat.le_refl _) _⟩
      case measure => simp [intOf]; omega
    · have hk16 : k = 16 := by omega
      rw [hk16] at hI
      clear hk16
      go_wp2
      go_loopw [7] (fun i wr => ∃ j : Nat, j ≤ 48 ∧ i = .int .i64 ((16 + j : Nat) : Int) ∧ Ints wr N 84 .u32 (Sh.ws2 bl j) ∧ Below N W2 wr) (fun i _ => 64 - (intOf i).toNat)
      case atStart => exact ⟨0, by omega, rfl, hI, hE⟩
      case round =>
        clear hI hE
        obtain ⟨j, hj, rfl, hI, hE⟩ := hrel
        have hlen := Sh.ws2_length bl j
        by_cases hlt : j < 48
        · have HW : Hid (Sh.ws2 bl (j + 1) = (Sh.ws2 bl j).set (16 + j) (Sh.wnext ((Sh.ws2 bl j).getD j 0) ((Sh.ws2 bl j).getD (j + 1) 0) ((Sh.ws2 bl j).getD (j + 9) 0) ((Sh.ws2 bl j).getD (j + 14) 0))) := rfl
          obtain ⟨t, ht⟩ : ∃ t, 16 + j = t := ⟨_, rfl⟩
          obtain ⟨j1, hj1⟩ : ∃ t, j + 1 = t := ⟨_, rfl⟩
          obtain ⟨j9, hj9⟩ : ∃ t, j + 9 = t := ⟨_, rfl⟩
          obtain ⟨j14, hj14⟩ : ∃ t, j + 14 = t := ⟨_, rfl⟩
          rw [ht, hj1, hj9, hj14] at HW
          have q0 := hI.cell (i := j) (by omega)
          have q1 := hI.cell (i := j1) (by omega)
          have q9 := hI.cell (i := j9) (by omega)
          have q14 := hI.cell (i := j14) (by omega)
          have qt := hI.cell (i := t) (by omega)
          have qf := hI.frozen t
          generalize (Sh.ws2 bl j).getD j 0 = x0 at *
          generalize (Sh.ws2 bl j).getD j1 0 = x1 at *
          generalize (Sh.ws2 bl j).getD j9 0 = x9 at *
          generalize (Sh.ws2 bl j).getD j14 0 = x14 at *
          have e15 : IntKind.i64.wrap ((t : Int) - 15) = (j1 : Int) := by rw [IntWalk.i64_in _ (by omega)]; omega
          have e2 : IntKind.i64.wrap ((t : Int) - 2) = (j14 : Int) := by rw [IntWalk.i64_in _ (by omega)]; omega
          have e16 : IntKind.i64.wrap ((t : Int) - 16) = (j : Int) := by rw [IntWalk.i64_in _ (by omega)]; omega
          have e7 : IntKind.i64.wrap ((t : Int) - 7) = (j9 : Int) := by rw [IntWalk.i64_in _ (by omega)]; omega
          have t1 : (t : Int) < 64 := by omega
          have t2 : (j : Int) < 64 := by omega
          have t3 : (j1 : Int) < 64 := by omega
          have t4 : (j9 : Int) < 64 := by omega
          have t5 : (j14 : Int) < 64 := by omega
          have s2 : (0 : Int) ≤ (j : Int) := by omega
          have s3 : (0 : Int) ≤ (j1 : Int) := by omega
          have s4 : (0 : Int) ≤ (j9 : Int) := by omega
          have s5 : (0 : Int) ≤ (j14 : Int) := by omega
          have s6 : (0 : Int) ≤ (t : Int) := by omega
          have HT := Lib.hid ht
          have HT9 : Hid (t ≠ j9) := by show t ≠ j9; omega
          have HJ1 := Lib.hid hj1
          clear ht hj1 hj9 hj14 hlen
          rw [HT.out]
          go_wp2
          go_region_held3 (fun w' => w'.cell? ⟨N, j, none⟩ = some (.int .u32 x0) ∧ w'.cell? ⟨N, j9, none⟩ = some (.int .u32 x9))
            (first
              | go_keep
              | exact ⟨(World.cell?_setCell_other _ _ _ _ (by simp; have := HT.out; omega)).trans q0, (World.cell?_setCell_other _ _ _ _ (by simp; have := HT9.out; omega)).trans q9⟩)
            ((first | (go_at_call 63; (with_reducible refine (ror_7 _ _).mono ?_); rintro e w' ⟨rfl, m, rfl⟩) | (go_at_call 63; (with_reducible refine (ror_18 _ _).mono ?_); rintro e w' ⟨rfl, m, rfl⟩) | (go_at_call 63; (with_reducible refine (ror_17 _ _).mono ?_); rintro e w' ⟨rfl, m, rfl⟩) | (go_at_call 63; (with_reducible refine (ror_19 _ _).mono ?_); rintro e w' ⟨rfl, m, rfl⟩)))
          go_wp2
          go_roundw
          case rel => exact ⟨j1, by have h2 := HJ1.out; omega, by have h1 := HT.out; have h2 := HJ1.out; rw [← h1, ← h2]; go_num, by rw [HW.out]; exact (hI.drewN _).set_ _ _, (below_drewN hE _).setCell (Nat.le_refl _) _⟩
          case measure => simp [intOf]; omega
        · have hj48 : j = K.a := by have := hKa.out; omega
          rw [hj48] at hI hlen
          have HLn := Lib.hid hlen
          obtain ⟨t, ht⟩ : ∃ t, 16 + j = t := ⟨_, rfl⟩
          have t64 : 64 ≤ t := by omega
          rw [ht]
          clear hlen hj48 ht
          generalize hW : Sh.ws2 bl K.a = W at *
          have HWe := Lib.hid hW
          clear hW
          have hnum := rnumbers_any
          obtain ⟨KS, hKS⟩ : ∃ KS, Sh.Ks = KS := ⟨_, rfl⟩
          rw [hKS] at hnum
          have HKS := Lib.hid hKS
          have HKl : Hid (KS.length = 64) := by show _ = _; rw [← hKS]; exact Ks_length
          clear hKS
          go_wp2_with fail
          refine (hnum _).mono ?_
          rintro e w1 ⟨rfl, hb1⟩
          have hI := hI.below hb1 hI.lt
          have hE := hE.trans (hb1.mono (Nat.le_trans (Nat.le_of_lt hz2) hE.size))
          clear hb1
          have hN1 := Ints.new w1 84 .u32 zer64
          have HN1 := Lib.hid hN1
          clear hN1
          go_wp2_with (refine wpList_store_ints rfl 84 (.tmp 10) (.tmp 78) rfl w1.heap.size .u32 KS (by rfl) (by rfl) 84 zer64 HN1.out (by rw [zer64_length, HKl.out]) (by rw [HKl.out]; exact info64) ?_; intro w3 hK3 hg3)
          have hlt := hI.lt
          have hI := (hI.alloc _).grown hg3 (by simp; omega)
          have hE := (hE.alloc (by omega) _).grown hg3 (by simp; omega) (fun k e => by injection e with e; omega)
          clear hg3 HN1
          obtain ⟨M, hM⟩ : ∃ M, w1.heap.size = M := ⟨_, rfl⟩
          rw [hM] at hK3 hlt ⊢
          clear hM
          obtain ⟨hS2, hD2⟩ := HS2.out
          have hS := hS2.below hE (by have := HN.out; omega)
          have hD := hD2.below hE (by have := HN.out; omega)
          have HSD := Lib.hid (And.intro hS hD)
          have p0 : _ = some (Value.int .u32 s0) := hS.cell? 0
          have p1 : _ = some (Value.int .u32 s1) := hS.cell? 1
          have p2 : _ = some (Value.int .u32 s2) := hS.cell? 2
          have p3 : _ = some (Value.int .u32 s3) := hS.cell? 3
          have p4 : _ = some (Value.int .u32 s4) := hS.cell? 4
          have p5 : _ = some (Value.int .u32 s5) := hS.cell? 5
          have p6 : _ = some (Value.int .u32 s6) := hS.cell? 6
          have p7 : _ = some (Value.int .u32 s7) := hS.cell? 7
          clear hS hD hS2 hD2
          go_wp2
          go_quiet (fail)
          go_wp2
          clear p0 p1 p2 p3 p4 p5 p6 p7
          have hdr : Drw w3 (w3.drewN nq) := (Drw.refl w3).drewN nq
          generalize w3.drewN nq = w4 at hdr ⊢
          go_loopw [11, 12, 13, 14, 15, 16, 17, 18, 19, 20, 21] (fun va vb vc vd ve vf vg vh i _ _ wx => ∃ r : Nat, r ≤ 64 ∧ i = .int .i64 r ∧ Drw w3 wx ∧ ∃ x0 x1 x2 x3 x4 x5 x6 x7, Sh.rs W [s0, s1, s2, s3, s4, s5, s6, s7] r = [x0, x1, x2, x3, x4, x5, x6, x7] ∧ va = .int .u32 x0 ∧ vb = .int .u32 x1 ∧ vc = .int .u32 x2 ∧ vd = .int .u32 x3 ∧ ve = .int .u32 x4 ∧ vf = .int .u32 x5 ∧ vg = .int .u32 x6 ∧ vh = .int .u32 x7) (fun _ _ _ _ _ _ _ _ i _ _ _ => 64 - (intOf i).toNat)
          case atStart => exact ⟨0, by omega, rfl, hdr, _, _, _, _, _, _, _, _, rfl, rfl, rfl, rfl, rfl, rfl, rfl, rfl, rfl⟩
          case round =>
            clear hdr
            obtain ⟨r, hr, rfl, hdr, x0, x1, x2, x3, x4, x5, x6, x7, hrs, rfl, rfl, rfl, rfl, rfl, rfl, rfl, rfl⟩ := hrel
            by_cases hlt : r < 64
            · have HR : Hid (Sh.rs W [s0, s1, s2, s3, s4, s5, s6, s7] (r + 1) = Sh.rstep [x0, x1, x2, x3, x4, x5, x6, x7] (Sh.K r) (W.getD r 0)) := by
                show _ = _
                rw [Sh.rs, hrs]
              clear hrs
              have qk := (hK3.drw hdr).cell (i := r) (by rw [HKl.out]; exact hlt)
              have HQ : Hid (Sh.K r = KS.getD r 0) := by show _ = _; rw [← HKS.out]; rfl
              have qw := (hI.drw hdr).cell (i := r) (by rw [HLn.out]; exact hlt)
              generalize W.getD r 0 = xw at *
              generalize KS.getD r 0 = xk at *
              have r0 : (0 : Int) ≤ (r : Int) := by omega
              have r1 : (r : Int) < 64 := by omega
              go_wp2
              go_quiet ((first | (go_at_call 63; have h6 := fun n => quiet_dr (ror_6 x4 (wr.drewN n)); with_reducible exact h6 _) | (go_at_call 63; have h6 := fun n => quiet_dr (ror_11 x4 (wr.drewN n)); with_reducible exact h6 _) | (go_at_call 63; have h6 := fun n => quiet_dr (ror_25 x4 (wr.drewN n)); with_reducible exact h6 _)))
              clear qk qw
              go_wp2_with (first | (go_at_call 63; (with_reducible refine (ror_2 _ _).mono ?_); rintro e w' ⟨rfl, m, rfl⟩) | (go_at_call 63; (with_reducible refine (ror_13 _ _).mono ?_); rintro e w' ⟨rfl, m, rfl⟩) | (go_at_call 63; (with_reducible refine (ror_22 _ _).mono ?_); rintro e w' ⟨rfl, m, rfl⟩))
              go_roundw
              case rel => exact ⟨r + 1, by omega, by go_num, hdr.drewN _, _, _, _, _, _, _, _, _, by rw [HR.out, HQ.out]; exact Sh.rstep_eq _ _ _ _ _ _ _ _ _ _, rfl, rfl, rfl, rfl, rfl, rfl, rfl, rfl⟩
              case measure => simp [intOf]; omega
            · have hr64 : r = K.b := by have := hKb.out; omega
              rw [hr64] at hrs
              have HRS := Lib.hid hrs
              have HDR := Lib.hid hdr
              obtain ⟨hS, hD⟩ := HSD.out
              have hS := hS.drw hdr
              have hD := hD.drw hdr
              have p0 : _ = some (Value.int .u32 s0) := hS.cell? 0
              have p1 : _ = some (Value.int .u32 s1) := hS.cell? 1
              have p2 : _ = some (Value.int .u32 s2) := hS.cell? 2
              have p3 : _ = some (Value.int .u32 s3) := hS.cell? 3
              have p4 : _ = some (Value.int .u32 s4) := hS.cell? 4
              have p5 : _ = some (Value.int .u32 s5) := hS.cell? 5
              have p6 : _ = some (Value.int .u32 s6) := hS.cell? 6
              have p7 : _ = some (Value.int .u32 s7) := hS.cell? 7
              have HD := Lib.hid hD
              clear hr64 hrs hdr hS hD
              go_wp2_with (refine wpList_store_ints rfl 71 (.tmp 4) (.tmp 190) rfl (w.heap.size + 1) .u32 [(s0 + x0) % 4294967296, (s1 + x1) % 4294967296, (s2 + x2) % 4294967296, (s3 + x3) % 4294967296, (s4 + x4) % 4294967296, (s5 + x5) % 4294967296, (s6 + x6) % 4294967296, (s7 + x7) % 4294967296] (by rfl) (by rfl) 71 _ HD.out rfl info8u ?_; intro w9 hD9 hg9)
              have hBB : Below w.heap.size w wr := (hB2.trans (hE.mono (by have := HN.out; omega))).trans (HDR.out.below _)
              refine bodyPost_ret (results_cell_row rfl _ _ (w.heap.size + 1) 71 _ (0, 0) _ (by rfl) hD9 Tryd.underlying71 (by rfl) info8u) rfl ?_
              refine ⟨?_, hBB.grown hg9 hBB.size (fun k e => by injection e with e; omega)⟩
              have h1 := HRS.out
              have h2 := HWe.out
              have h3 := hKa.out
              rw [Sh.block, h2, h1, hKd.out]
              rfl
end Go.Proofs.YtpjggokaolnbcaaDoor
