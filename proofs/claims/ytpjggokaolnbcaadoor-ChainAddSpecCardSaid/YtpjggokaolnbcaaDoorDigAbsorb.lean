/- SHA-256: a block is added to the state. -/
import Derived.Test.YtpjggokaolnbcaaDoorDigWalks
import Derived.Deep.QuietTactic
import Derived.BigQuiet
import Derived.Deep.RegionHeld3
import Derived.Deep.AppendLies
namespace Go.Proofs.YtpjggokaolnbcaaDoor
theorem wp_at {P : Program} {o : Oper} {a : Act} {ops : Array Oper} {w : World} {K : Act → World → Prop} {Q : Exit → Act → World → Prop} {E : Prop} (hgd : o.guard = none) (h : Oper.wp P o a w K Q) :
    if Region.wanted o (yielded ops a.tmps) = true then Oper.wp P o a w K Q else E := by
  have hw : Region.wanted o (yielded ops a.tmps) = true := by simp [Region.wanted, hgd]
  rw [if_pos hw]
  exact h
open Go.RowKit
set_option linter.unusedVariables false
namespace Sh
/-- numbers, kept as letters, so that nothing reckons with them -/
structure Cst where
  a : Nat
  b : Nat
  d : Nat
  ha : a = 48
  hb : b = 64
  hd : d = 8
def wordAt (bl : List Int) (k : Nat) : Int := word (bl.getD (4 * k) 0) (bl.getD (4 * k + 1) 0) (bl.getD (4 * k + 2) 0) (bl.getD (4 * k + 3) 0)
/-- the first words of a block -/
def ws1 (bl : List Int) : Nat → List Int
  | 0 => List.replicate 64 0
  | k + 1 => (ws1 bl k).set k (wordAt bl k)
theorem ws1_length (bl : List Int) : ∀ k, (ws1 bl k).length = 64
  | 0 => by rw [ws1, List.length_replicate]
  | k + 1 => by rw [ws1, List.length_set, ws1_length bl k]
def add (a b : Int) : Int := (a + b) % 4294967296
def sg0 (x : Int) : Int := bits .xor .u32 (bits .xor .u32 (rl x 25) (rl x 14)) (x / 8)
def sg1 (x : Int) : Int := bits .xor .u32 (bits .xor .u32 (rl x 15) (rl x 13)) (x / 1024)
def wnext (a x b y : Int) : Int := add (add (add a (sg0 x)) b) (sg1 y)
/-- the further words -/
def ws2 (bl : List Int) : Nat → List Int
  | 0 => ws1 bl 16
  | j + 1 => (ws2 bl j).set (16 + j) (wnext ((ws2 bl j).getD j 0) ((ws2 bl j).getD (j + 1) 0) ((ws2 bl j).getD (j + 9) 0) ((ws2 bl j).getD (j + 14) 0))
theorem ws2_length (bl : List Int) : ∀ k, (ws2 bl k).length = 64
  | 0 => ws1_length bl 16
  | k + 1 => by rw [ws2, List.length_set, ws2_length bl k]
/-- a round -/
def rstep (v : List Int) (kt wt : Int) : List Int :=
  match v with
  | [a, b, c, d, e, f, g, h] =>
    let p := h + rot e 26 21 7 + bits .xor .u32 g (bits .and .u32 e (bits .xor .u32 f g)) + kt + wt
    let q := rot a 30 19 10 + bits .or .u32 (bits .and .u32 a b) (bits .and .u32 c (bits .or .u32 a b))
    [(p + q) % 4294967296, a, b, c, (d + p) % 4294967296, e, f, g]
  | v => v
def Ks : List Int := [1116352408, 1899447441, 3049323471, 3921009573, 961987163, 1508970993, 2453635748, 2870763221, 3624381080, 310598401, 607225278, 1426881987, 1925078388, 2162078206, 2614888103, 3248222580, 3835390401, 4022224774, 264347078, 604807628, 770255983, 1249150122, 1555081692, 1996064986, 2554220882, 2821834349, 2952996808, 3210313671, 3336571891, 3584528711, 113926993, 338241895, 666307205, 773529912, 1294757372, 1396182291, 1695183700, 1986661051, 2177026350, 2456956037, 2730485921, 2820302411, 3259730800, 3345764771, 3516065817, 3600352804, 4094571909, 275423344, 430227734, 506948616, 659060556, 883997877, 958139571, 1322822218, 1537002063, 1747873779, 1955562222, 2024104815, 2227730452, 2361852424, 2428436474, 2756734187, 3204031479, 3329325298]
def Hs : List Int := [1779033703, 3144134277, 1013904242, 2773480762, 1359893119, 2600822924, 528734635, 1541459225]
def K (k : Nat) : Int := Ks.getD k 0
def rs (W st : List Int) : Nat → List Int
  | 0 => st
  | k + 1 => rstep (rs W st k) (K k) (W.getD k 0)
theorem rstep_length {v : List Int} (h : v.length = 8) (kt wt : Int) : (rstep v kt wt).length = 8 := by
  match v, h with
  | [a, b, c, d, e, f, g, i], _ => rfl
theorem rs_length {W st : List Int} (h : st.length = 8) : ∀ k, (rs W st k).length = 8
  | 0 => h
  | k + 1 => rstep_length (rs_length h k) _ _
def fin (st V : List Int) : Nat → List Int
  | 0 => st
  | q + 1 => (fin st V q).set q (((fin st V q).getD q 0 + V.getD q 0) % 4294967296)
theorem fin_length (st V : List Int) : ∀ q, (fin st V q).length = st.length
  | 0 => rfl
  | q + 1 => by rw [fin, List.length_set, fin_length st V q]
def block (c : Cst) (st bl : List Int) : List Int := fin st (rs (ws2 bl c.a) st c.b) c.d
theorem block_length (c : Cst) (st bl : List Int) : (block c st bl).length = st.length := fin_length _ _ _
end Sh
/-- what the package's tables hold -/
structure Laid (w : World) : Prop where
  start : ∀ i, i < 8 → w.cell? ⟨0, i, none⟩ = some (.int .u32 (Sh.Hs.getD i 0))
  nums : ∀ i, i < 64 → w.cell? ⟨1, i, none⟩ = some (.int .u32 (Sh.K i))
  size : 2 ≤ w.heap.size
theorem Laid.below {w w' : World} {B : Nat} (h : Laid w) (hb : Below B w w') (hB : 2 ≤ B) : Laid w' :=
  ⟨fun i hi => (hb.cell (p := ⟨0, i, none⟩) (by show 0 < B; omega)).trans (h.start i hi), fun i hi => (hb.cell (p := ⟨1, i, none⟩) (by show 1 < B; omega)).trans (h.nums i hi), Nat.le_trans h.size hb.size⟩
theorem Laid.grown {w w' : World} {g : Option Nat} (h : Laid w) (hb : w.grownBy w' g) (hg : ∀ k, g = some k → 2 ≤ k) : Laid w' :=
  ⟨fun i hi => hb.cell (h.start i hi) (fun e => by have h2 : 2 ≤ 0 := hg _ e.symm; omega), fun i hi => hb.cell (h.nums i hi) (fun e => by have h2 : 2 ≤ 1 := hg _ e.symm; omega), Nat.le_trans h.size hb.size⟩
theorem copy_src {w : World} {g : Nat} {t : TypeId} {a b c d e f g' h : Int} (hv : Ints w g t .u32 [a, b, c, d, e, f, g', h]) {j : Nat} {v : Int} (hj : [a, b, c, d, e, f, g'][j]? = some v) : w.drew.cell? ⟨g, j, none⟩ = some (.int .u32 v) := by
  rw [hv.drew.cell? j]
  match j, hj with
  | 0, hj => simp at hj; subst hj; rfl
  | 1, hj => simp at hj; subst hj; rfl
  | 2, hj => simp at hj; subst hj; rfl
  | 3, hj => simp at hj; subst hj; rfl
  | 4, hj => simp at hj; subst hj; rfl
  | 5, hj => simp at hj; subst hj; rfl
  | 6, hj => simp at hj; subst hj; rfl
theorem eight {l : List Int} (h : l.length = 8) : ∃ a b c d e f g i, l = [a, b, c, d, e, f, g, i] := by
  match l, h with
  | [a, b, c, d, e, f, g, i], _ => exact ⟨a, b, c, d, e, f, g, i, rfl⟩
set_option maxRecDepth 100000 in
set_option maxHeartbeats 4000000 in
theorem absorb_any (K : Sh.Cst) (gs b o cap : Nat) (ts : TypeId) (st bl : List Int) (w : World) (hs : Ints w gs ts .u32 st) (hl : st.length = 8)
    (hb : Rd w w.heap.size 1 (some ⟨b, o, none⟩) 64 (bl.map (Value.int .u8))) (hbb : ∀ x ∈ bl, 0 ≤ x ∧ x < 256) (hcap : 64 ≤ cap) (hcap2 : cap ≤ maxLen) (hne : b ≠ gs) (hL : Laid w) :
    Calls Tryd.prog 41 #[.pointer (some ⟨gs, 0, none⟩), .slice (some ⟨b, o, none⟩) 64 cap] w fun e w' => e = .returned (.tuple #[]) ∧ Ints w' gs ts .u32 (Sh.block K st bl) ∧ w.grownBy w' (some gs) := by
  unfold maxLen at hcap2
  have hgs0 := hs.lt
  have hKa := Lib.hid K.ha
  have hKb := Lib.hid K.hb
  have hKd := Lib.hid K.hd
  go_enter Tryd.func41, Tryd.ntmps41
  go_wp2
  go_loopw [14] (fun i wr => ∃ k : Nat, k ≤ 16 ∧ i = .int .i64 k ∧ Ints wr w.heap.size 84 .u32 (Sh.ws1 bl k) ∧ w.grownBy wr none) (fun i _ => 16 - (intOf i).toNat)
  case atStart => exact ⟨0, by omega, rfl, Ints.new w 84 .u32 (List.replicate 64 0), World.grownBy_alloc _ _ _⟩
  case round =>
    obtain ⟨k, hk, rfl, hI, hg⟩ := hrel
    by_cases hlt : k < 16
    · have k1 : (k : Int) < 16 := by omega
      have k2 : (4 * (k : Int)) ≤ (cap : Int) := by omega
      have k3 : ¬ cap = 4 * k := by omega
      have k4 : (4 * (k : Int)) ≤ 64 := by omega
      have hR := hb.grown hg (Nat.le_refl _) (fun _ h => by cases h)
      have hlen : bl.length = 64 := by simpa using hb.1
      have c0 := bytes_at hR (j := 4 * k) (by omega)
      have c1 := bytes_at hR (j := 4 * k + 1) (by omega)
      have c2 := bytes_at hR (j := 4 * k + 2) (by omega)
      have c3 := bytes_at hR (j := 4 * k + 3) (by omega)
      have b0 := getD_bd hbb (j := 4 * k) (by omega)
      have b1 := getD_bd hbb (j := 4 * k + 1) (by omega)
      have b2 := getD_bd hbb (j := 4 * k + 2) (by omega)
      have b3 := getD_bd hbb (j := 4 * k + 3) (by omega)
      have HW : Hid (Sh.ws1 bl (k + 1) = (Sh.ws1 bl k).set k (Sh.word (bl.getD (4 * k) 0) (bl.getD (4 * k + 1) 0) (bl.getD (4 * k + 2) 0) (bl.getD (4 * k + 3) 0))) := rfl
      have hc := hI.cell (i := k) (by rw [Sh.ws1_length]; omega)
      have hf := hI.frozen k
      rw [← Nat.add_assoc] at c1 c2 c3
      generalize bl.getD (4 * k) 0 = x0 at *
      generalize bl.getD (4 * k + 1) 0 = x1 at *
      generalize bl.getD (4 * k + 2) 0 = x2 at *
      generalize bl.getD (4 * k + 3) 0 = x3 at *
      clear hlen hR
      go_wp2_with (go_at_call 53; (with_reducible refine (word_any _ _ _ _ x0 x1 x2 x3 _ c0 c1 c2 c3 b0 b1 b2 b3 (by omega) (by omega)).mono ?_); rintro e w' ⟨rfl, rfl⟩)
      go_roundw
      case rel => exact ⟨k + 1, by omega, by go_num, by rw [HW.out]; exact hI.set_ _ _, grown_setNew hg (Nat.le_refl _) _⟩
      case measure => simp [intOf]; omega
    · have hk16 : k = 16 := by omega
      rw [hk16] at hI
      clear hk16
      go_wp2
      go_loopw [6] (fun i wr => ∃ j : Nat, j ≤ 48 ∧ i = .int .i64 ((16 + j : Nat) : Int) ∧ Ints wr w.heap.size 84 .u32 (Sh.ws2 bl j) ∧ w.grownBy wr none) (fun i _ => 64 - (intOf i).toNat)
      case atStart => exact ⟨0, by omega, rfl, hI, hg⟩
      case round =>
        clear hI hg
        obtain ⟨j, hj, rfl, hI, hg⟩ := hrel
        have hlen := Sh.ws2_length bl j
        by_cases hlt : j < 48
        · have HW : Hid (Sh.ws2 bl (j + 1) = (Sh.ws2 bl j).set (16 + j) (Sh.wnext ((Sh.ws2 bl j).getD j 0) ((Sh.ws2 bl j).getD (j + 1) 0) ((Sh.ws2 bl j).getD (j + 9) 0) ((Sh.ws2 bl j).getD (j + 14) 0))) := rfl
          obtain ⟨t, ht⟩ : ∃ t, 16 + j = t := ⟨_, rfl⟩
          obtain ⟨j1, hj1⟩ : ∃ t, j + 1 = t := ⟨_, rfl⟩
          obtain ⟨j9, hj9⟩ : ∃ t, j + 9 = t := ⟨_, rfl⟩
          obtain ⟨j14, hj14⟩ : ∃ t, j + 14 = t := ⟨_, rfl⟩
          rw [ht, hj1, hj9, hj14] at HW
          have q0 := hI.cell (i := j) (by omega)
          have q1 := hI.cell (i := j1) (by omega)
          have q9 := hI.cell (i := j9) (by omega)
          have q14 := hI.cell (i := j14) (by omega)
          have qt := hI.cell (i := t) (by omega)
          have qf := hI.frozen t
          generalize (Sh.ws2 bl j).getD j 0 = x0 at *
          generalize (Sh.ws2 bl j).getD j1 0 = x1 at *
          generalize (Sh.ws2 bl j).getD j9 0 = x9 at *
          generalize (Sh.ws2 bl j).getD j14 0 = x14 at *
          have e15 : IntKind.i64.wrap ((t : Int) - 15) = (j1 : Int) := by rw [IntWalk.i64_in _ (by omega)]; omega
          have e2 : IntKind.i64.wrap ((t : Int) - 2) = (j14 : Int) := by rw [IntWalk.i64_in _ (by omega)]; omega
          have e16 : IntKind.i64.wrap ((t : Int) - 16) = (j : Int) := by rw [IntWalk.i64_in _ (by omega)]; omega
          have e7 : IntKind.i64.wrap ((t : Int) - 7) = (j9 : Int) := by rw [IntWalk.i64_in _ (by omega)]; omega
          have t1 : (t : Int) < 64 := by omega
          have t2 : (j : Int) < 64 := by omega
          have t3 : (j1 : Int) < 64 := by omega
          have t4 : (j9 : Int) < 64 := by omega
          have t5 : (j14 : Int) < 64 := by omega
          have s2 : (0 : Int) ≤ (j : Int) := by omega
          have s3 : (0 : Int) ≤ (j1 : Int) := by omega
          have s4 : (0 : Int) ≤ (j9 : Int) := by omega
          have s5 : (0 : Int) ≤ (j14 : Int) := by omega
          have s6 : (0 : Int) ≤ (t : Int) := by omega
          have HT := Lib.hid ht
          have HT9 : Hid (t ≠ j9) := by show t ≠ j9; omega
          have HJ1 := Lib.hid hj1
          clear ht hj1 hj9 hj14 hlen
          rw [HT.out]
          go_wp2
          go_quiet (fail)
          go_wp2
          have qf : (wr.drewN nq).frozen? ⟨w.heap.size, t, none⟩ = false := qf
          go_region_held3 (fun w' => w'.cell? ⟨w.heap.size, j, none⟩ = some (.int .u32 x0) ∧ w'.cell? ⟨w.heap.size, j9, none⟩ = some (.int .u32 x9))
            (first
              | go_keep
              | exact ⟨(World.cell?_setCell_other _ _ _ _ (by simp; have := HT.out; omega)).trans q0, (World.cell?_setCell_other _ _ _ _ (by simp; have := HT9.out; omega)).trans q9⟩)
            ((first | (go_at_call 54; (with_reducible refine (rot_any _ (-7) 25 (by decide) (by decide) _).mono ?_); rintro e w' ⟨rfl, rfl⟩) | (go_at_call 54; (with_reducible refine (rot_any _ (-18) 14 (by decide) (by decide) _).mono ?_); rintro e w' ⟨rfl, rfl⟩) | (go_at_call 54; (with_reducible refine (rot_any _ (-17) 15 (by decide) (by decide) _).mono ?_); rintro e w' ⟨rfl, rfl⟩) | (go_at_call 54; (with_reducible refine (rot_any _ (-19) 13 (by decide) (by decide) _).mono ?_); rintro e w' ⟨rfl, rfl⟩)))
          go_wp2
          go_roundw
          case rel => exact ⟨j1, by have h2 := HJ1.out; omega, by have h1 := HT.out; have h2 := HJ1.out; rw [← h1, ← h2]; go_num, by rw [HW.out]; exact (hI.drewN _).set_ _ _, grown_setNew (grown_drewN hg _) (Nat.le_refl _) _⟩
          case measure => simp [intOf]; omega
        · have hj48 : j = K.a := by have := hKa.out; omega
          rw [hj48] at hI hlen
          have HLn := Lib.hid hlen
          obtain ⟨t, ht⟩ : ∃ t, 16 + j = t := ⟨_, rfl⟩
          have t64 : 64 ≤ t := by omega
          rw [ht]
          clear hlen hj48 ht
          generalize hW : Sh.ws2 bl K.a = W at *
          have HWe := Lib.hid hW
          clear hW
          obtain ⟨s0, s1, s2, s3, s4, s5, s6, s7, rfl⟩ := eight hl
          have hs1 := hs.grown hg (by simp)
          go_wp2_with (refine wpList_load_row rfl 72 (.tmp 67) rfl gs (by rfl) ts _ (0, 0) _ hs1 Tryd.underlying72 (by rfl) (by kernel_rfl) ?_)
          have hv := Ints.new wr 72 .u32 [s0, s1, s2, s3, s4, s5, s6, s7]
          obtain ⟨g9, hg9⟩ : ∃ g, wr.heap.size = g := ⟨_, rfl⟩
          rw [hg9] at hv
          have hwg : w.heap.size < g9 := by have := hI.lt; omega
          have hI := hI.alloc (.cells #[.int .u32 s0, .int .u32 s1, .int .u32 s2, .int .u32 s3, .int .u32 s4, .int .u32 s5, .int .u32 s6, .int .u32 s7] 72)
          have hg := grown_alloc hg (.cells #[.int .u32 s0, .int .u32 s1, .int .u32 s2, .int .u32 s3, .int .u32 s4, .int .u32 s5, .int .u32 s6, .int .u32 s7] 72)
          rw [hg9]
          clear hg9 hs1
          go_loopw [69] (fun i wx => ∃ r : Nat, r ≤ 64 ∧ i = .int .i64 r ∧ Ints wx g9 72 .u32 (Sh.rs W [s0, s1, s2, s3, s4, s5, s6, s7] r) ∧ Ints wx w.heap.size 84 .u32 W ∧ w.grownBy wx none) (fun i _ => 64 - (intOf i).toNat)
          case atStart => exact ⟨0, by omega, rfl, hv, hI, hg⟩
          case round =>
            clear hI hg hv
            obtain ⟨r, hr, rfl, hv, hI, hg⟩ := hrel
            by_cases hlt : r < 64
            · obtain ⟨v0, v1, v2, v3, v4, v5, v6, v7, hvv⟩ := eight (Sh.rs_length (W := W) (st := [s0, s1, s2, s3, s4, s5, s6, s7]) hl r)
              have HR : Hid (Sh.rs W [s0, s1, s2, s3, s4, s5, s6, s7] (r + 1) = Sh.rstep [v0, v1, v2, v3, v4, v5, v6, v7] (Sh.K r) (W.getD r 0)) := by
                show _ = _
                rw [Sh.rs, hvv]
              rw [hvv] at hv
              clear hvv
              have q0 : _ = some (Value.int .u32 v0) := hv.cell? 0
              have q1 : _ = some (Value.int .u32 v1) := hv.cell? 1
              have q2 : _ = some (Value.int .u32 v2) := hv.cell? 2
              have q3 : _ = some (Value.int .u32 v3) := hv.cell? 3
              have q4 : _ = some (Value.int .u32 v4) := hv.cell? 4
              have q5 : _ = some (Value.int .u32 v5) := hv.cell? 5
              have q6 : _ = some (Value.int .u32 v6) := hv.cell? 6
              have q7 : _ = some (Value.int .u32 v7) := hv.cell? 7
              have qk := (hL.grown hg (fun _ h => by cases h)).nums r hlt
              have qw := hI.cell (i := r) (by have := HLn.out; omega)
              generalize W.getD r 0 = xw at *
              generalize Sh.K r = xk at *
              have r0 : (0 : Int) ≤ (r : Int) := by omega
              have r1 : (r : Int) < 64 := by omega
              go_wp2
              go_quiet ((go_at_call 55; exact quiet_eq (rotated_6 _ _)))
              go_wp2
              have hv := hv.drewN nq
              have hI := hI.drewN nq
              have hg := grown_drewN hg nq
              clear q0 q1 q2 q3 q4 q5 q6 q7 qk qw
              generalize wr.drewN nq = wy at hv hI hg ⊢
              have q0 : _ = some (Value.int .u32 v0) := hv.cell? 0
              have q1 : _ = some (Value.int .u32 v1) := hv.cell? 1
              have q2 : _ = some (Value.int .u32 v2) := hv.cell? 2
              go_quiet ((go_at_call 55; exact quiet_eq (rotated_2 _ _)))
              go_wp2
              have hv := hv.drewN nq
              have hI := hI.drewN nq
              have hg := grown_drewN hg nq
              clear q0 q1 q2
              generalize wy.drewN nq = wz at hv hI hg ⊢
              go_region_held3 (fun w' => True) (trivial)
                ((refine wp_at (by rfl) (wp_copy_ints (.tmp 116) (.tmp 117) 89 89 (by rfl) 70 Tryd.underlying89 (by kernel_rfl) g9 1 7 7 g9 0 7 8 (by rfl) (by rfl) hv.drew [v0, v1, v2, v3, v4, v5, v6] (by rfl) (fun j v h => by rw [Nat.zero_add]; exact copy_src hv h) (by simp) ?_); intro wc hvc hgc))
              have hvc : Ints wc g9 72 .u32 [v0, v0, v1, v2, v3, v4, v5, v6] := hvc
              have hI := hI.drew.grown hgc (by simp; omega)
              have hg := grown_then (grown_drew hg) hgc (fun i e => by injection e with e; omega)
              clear hv hgc
              have q4 : _ = some (Value.int .u32 v3) := hvc.cell? 4
              have q0 : _ = some (Value.int .u32 v0) := hvc.cell? 0
              have f4 := hvc.frozen 4
              have f0 := hvc.frozen 0
              go_wp2
              go_roundw
              case rel => exact ⟨r + 1, by omega, by go_num, by rw [HR.out]; exact (hvc.set_ 4 _).set_ 0 _, (hI.far (by simp; omega) _).far (by simp; omega) _, grown_setNew (grown_setNew hg (by simp; omega) _) (by simp; omega) _⟩
              case measure => simp [intOf]; omega
            · have hr64 : r = K.b := by have := hKb.out; omega
              rw [hr64] at hv
              have HRL := Lib.hid (Sh.rs_length (W := W) (st := [s0, s1, s2, s3, s4, s5, s6, s7]) hl K.b)
              generalize hV : Sh.rs W [s0, s1, s2, s3, s4, s5, s6, s7] K.b = V at *
              have HV := Lib.hid hV
              clear hV hr64
              have hs := hs.grown hg (by simp)
              clear hI
              obtain ⟨r64, hr64⟩ : ∃ x, r = x := ⟨_, rfl⟩
              have hg := hg.but (some gs)
              obtain ⟨ss, hss⟩ : ∃ ss, [s0, s1, s2, s3, s4, s5, s6, s7] = ss := ⟨_, rfl⟩
              have hsl : ss.length = 8 := by rw [← hss]; exact hl
              go_wp2
              rw [hss] at hs
              rw [hss] at HV
              have HSL := Lib.hid hsl
              have HSS := Lib.hid hss
              clear hss hsl hr64
              go_loopw [129] (fun i wx => ∃ q : Nat, q ≤ 8 ∧ i = .int .i64 q ∧ Ints wx gs ts .u32 (Sh.fin ss V q) ∧ Ints wx g9 72 .u32 V ∧ w.grownBy wx (some gs)) (fun i _ => 8 - (intOf i).toNat)
              case atStart => exact ⟨0, by omega, rfl, hs, hv, hg⟩
              case round =>
                clear hs hv hg
                obtain ⟨q, hq, rfl, hs, hv, hg⟩ := hrel
                by_cases hlt : q < 8
                · have HQ : Hid (Sh.fin ss V (q + 1) = (Sh.fin ss V q).set q (((Sh.fin ss V q).getD q 0 + V.getD q 0) % 4294967296)) := rfl
                  have q0 := hs.cell (i := q) (by rw [Sh.fin_length, HSL.out]; exact hlt)
                  have q1 := hv.cell (i := q) (by rw [HRL.out]; exact hlt)
                  have f0 := hs.frozen q
                  generalize (Sh.fin ss V q).getD q 0 = x0 at *
                  generalize V.getD q 0 = x1 at *
                  have r0 : (0 : Int) ≤ (q : Int) := by omega
                  have r1 : (q : Int) < 8 := by omega
                  go_wp2
                  go_region
                  go_wp2
                  go_roundw
                  case rel => exact ⟨q + 1, by omega, by go_num, by rw [HQ.out]; exact hs.drew.set_ q _, hv.drew.far (by simp; omega) _, grown_set (grown_drew hg) _ _⟩
                  case measure => simp [intOf]; omega
                · have hq8 : q = K.d := by have := hKd.out; omega
                  rw [hq8] at hs
                  rw [← HV.out, ← HWe.out] at hs
                  go_wp2
                  go_end0
                  have hss := HSS.out
                  subst hss
                  exact ⟨rfl, hs, hg⟩
end Go.Proofs.YtpjggokaolnbcaaDoor
