/- The reference's group Hash: a number out of a digest. -/
import Derived.Test.YtllabahapaeedaaDoorRefTag
import Derived.Test.YtllabahapaeedaaDoorGroupHash
namespace Go.Proofs.YtllabahapaeedaaDoor
open Go.RowKit
set_option linter.unusedVariables false
namespace Sh
/-- the first bytes as a number, the reference's way -/
def numR (D : List Int) : Nat → Int
  | 0 => D.getD 0 0 % 128
  | k + 1 => numR D k * 256 + D.getD (k + 1) 0
theorem numR_bd {D : List Int} (h : ∀ x ∈ D, Byt x) (hl : D.length = 32) : ∀ k, k ≤ 7 → 0 ≤ numR D k ∧ numR D k < ((128 * 256 ^ k : Nat) : Int)
  | 0, _ => by rw [numR]; omega
  | k + 1, hk => by
    have ih := numR_bd h hl k (by omega)
    have hb := getD_bd h (j := k + 1) (by omega)
    unfold Byt at hb
    rw [numR, Nat.pow_succ, ← Nat.mul_assoc]
    generalize 128 * 256 ^ k = B at *
    omega
theorem and127_mod (x : Int) (h : 0 ≤ x ∧ x < 256) : bits .and .u8 x 127 = x % 128 := by
  have h0 : ∀ y : Fin 256, bits .and .u8 ((y.val : Nat) : Int) 127 = ((y.val : Nat) : Int) % 128 := by decide +kernel
  have e := h0 ⟨x.toNat, by omega⟩
  rw [show ((x.toNat : Nat) : Int) = x by omega] at e
  exact e
theorem or_low (a c : Int) (ha : 0 ≤ a ∧ a < 36028797018963968) (hc : 0 ≤ c ∧ c < 256) : bits .or .i64 (wrap64 (a * 256)) c = a * 256 + c := by
  have e1 : wrap64 (a * 256) = a * 256 := by
    unfold wrap64
    omega
  obtain ⟨n, rfl⟩ : ∃ n : Nat, a = n := ⟨a.toNat, by omega⟩
  obtain ⟨m, rfl⟩ : ∃ m : Nat, c = m := ⟨c.toNat, by omega⟩
  rw [e1]
  have e2 : bits .or .i64 ((n : Int) * 256) (m : Int) = IntKind.i64.wrap ((BitVec.ofInt 64 ((n : Int) * 256) ||| BitVec.ofInt 64 (m : Int)).toNat : Nat) := rfl
  rw [e2, show ((n : Int) * 256) = ((n * 256 : Nat) : Int) by simp, BitVec.ofInt_natCast, BitVec.ofInt_natCast, BitVec.toNat_or, BitVec.toNat_ofNat, BitVec.toNat_ofNat, Nat.mod_eq_of_lt (by omega), Nat.mod_eq_of_lt (by omega)]
  have e3 : n * 256 ||| m = n * 256 + m := by
    have h := Nat.shiftLeft_add_eq_or_of_lt (i := 8) (b := m) (by omega) n
    rw [Nat.shiftLeft_eq, show (2 : Nat) ^ 8 = 256 from rfl] at h
    omega
  rw [e3]
  rw [IntWalk.i64_in _ (by omega)]
  omega
theorem num_join {D : List Int} (h : ∀ x ∈ D, Byt x) (hl : D.length = 32) : ∀ k, k ≤ 7 → num (cut7 D) (k + 1) = numR D k
  | 0, _ => by
    rw [num, num, numR]
    have hb := getD_bd h (j := 0) (by omega)
    unfold Byt at hb
    have e : (cut7 D).getD 0 0 = D.getD 0 0 % 128 := by
      rw [cut7, g_set, if_pos ⟨rfl, by omega⟩, and127_mod _ hb]
    rw [e, or_low 0 _ (by omega) (by omega)]
    omega
  | k + 1, hk => by
    have hb := getD_bd h (j := k + 1) (by omega)
    unfold Byt at hb
    have hbd := numR_bd h hl k (by omega)
    rw [num, num_join h hl k (by omega), numR]
    have e : (cut7 D).getD (k + 1) 0 = D.getD (k + 1) 0 := by rw [cut7, g_set, if_neg (by omega)]
    have hp : (256 : Nat) ^ k ≤ 281474976710656 := Nat.pow_le_pow_right (n := 256) (j := 6) (by decide) (by omega)
    rw [e, or_low _ _ (by omega) hb]
/-- the number of the reference's Hash -/
theorem hash_join (c : Cst) (t bs : List Int) (k : Nat) (hk : k = 7) : numR (tagged c t bs) k % 1073741789 = hash c t bs := by
  subst hk
  have h := num_join (tagged_bytes c t bs) (tagged_length c t bs) 7 (Nat.le_refl _)
  have hb := numR_bd (tagged_bytes c t bs) (tagged_length c t bs) 7 (Nat.le_refl _)
  rw [hash, c.hd, h, Int.tmod_eq_emod_of_nonneg hb.1]
end Sh
set_option maxRecDepth 100000 in
set_option maxHeartbeats 1000000 in
theorem rghash_any (K : Sh.Cst) (s : ByteArray) (A : Option Addr) (n cap : Nat) (bs : List Int) (w : World) (hs : s.size ≤ 1000) (hr : Rd w w.heap.size 1 A n (bs.map (Value.int .u8))) (hbb : ∀ x ∈ bs, 0 ≤ x ∧ x < 256)
    (hn : n ≤ 100000) (hnc : n ≤ cap) (hcap : cap ≤ maxLen) :
    Calls Tryd.prog 38 #[.string s, .slice A n cap] w fun e w' => e = .returned (.int .i64 (Sh.hash K (strInts s) bs)) ∧ Below w.heap.size w w' := by
  obtain ⟨k7, hk7⟩ : ∃ k : Nat, k = 7 := ⟨_, rfl⟩
  have HJ := Lib.hid (Sh.hash_join K (strInts s) bs k7 hk7)
  have HK7 := Lib.hid hk7
  have HR := Lib.hid hr
  have HB := Lib.hid hbb
  have hT := Sh.tagged_length K (strInts s) bs
  have hTb := Sh.tagged_bytes K (strInts s) bs
  have hbd := Sh.numR_bd hTb hT
  have hca := rtagged_any K s A n cap bs w hs hr hbb hn hnc hcap
  obtain ⟨T, hTe⟩ : ∃ T, Sh.tagged K (strInts s) bs = T := ⟨_, rfl⟩
  rw [hTe] at hT hTb hbd hca HJ
  have HT := Lib.hid hT
  have HTB := Lib.hid hTb
  have HBD := Lib.hid hbd
  have hi73 : (Tryd.prog.info? 73).map (·.size) = some T.length := by rw [hT]; exact info73
  have HI := Lib.hid hi73
  have HC := Lib.hid hca
  clear hk7 hr hbb hT hTb hbd hTe hi73 hca
  go_enter Tryd.func38, Tryd.ntmps38
  go_wp2_with fail
  refine HC.out.mono ?_
  rintro e w1 ⟨rfl, hb1⟩
  have hN := Ints.new w1 73 .u8 (List.replicate 32 0)
  have HN := Lib.hid hN
  clear hN HC
  obtain ⟨d0, hd0⟩ : ∃ d, T.getD 0 0 = d := ⟨_, rfl⟩
  have hd0b := getD_bd HTB.out (j := 0) (by rw [HT.out]; omega)
  unfold Sh.Byt at hd0b
  rw [hd0] at hd0b
  obtain ⟨d00, d01⟩ := hd0b
  have HD0 := Lib.hid hd0
  clear hd0
  go_wp2_with (refine wpList_store_ints rfl 73 (.tmp 5) (.tmp 10) rfl w1.heap.size .u8 T (by rfl) (by rfl) 73 _ HN.out (by rw [HT.out]; rfl) HI.out ?_; intro w2 hN2 hg2; have q0 := hN2.cell (i := 0) (by rw [HT.out]; omega); rw [HD0.out] at q0)
  have hB := (hb1.alloc hb1.size _).grown hg2 (by simp; have := hb1.size; omega) (fun g e => by injection e with e; have := hb1.size; omega)
  clear q0 hg2 HN
  go_loopw [6, 7] (fun v i wx => ∃ k : Nat, k ≤ 7 ∧ i = .int .i64 (((k + 1 : Nat)) : Int) ∧ v = .int .i64 (Sh.numR T k) ∧ w2 = wx) (fun _ i _ => 8 - (intOf i).toNat)
  case atStart => exact ⟨0, by omega, rfl, by rw [Sh.numR, HD0.out], rfl⟩
  case round =>
    obtain ⟨k, hk, rfl, rfl, rfl⟩ := hrel
    by_cases hlt : k < 7
    · obtain ⟨k1, hk1⟩ : ∃ k1, k + 1 = k1 := ⟨_, rfl⟩
      have HQ : Hid (Sh.numR T k1 = Sh.numR T k * 256 + T.getD k1 0) := by show _ = _; rw [← hk1]; rfl
      have hb := HBD.out k (by omega)
      have hp : (256 : Nat) ^ k ≤ 281474976710656 := Nat.pow_le_pow_right (n := 256) (j := 6) (by decide) (by omega)
      have hx := getD_bd HTB.out (j := k1) (by rw [HT.out]; omega)
      unfold Sh.Byt at hx
      have q := hN2.cell (i := k1) (by rw [HT.out]; omega)
      rw [hk1]
      generalize T.getD k1 0 = x at *
      generalize Sh.numR T k = m at *
      have m1 : m < 36028797018963968 := by omega
      obtain ⟨m0, _⟩ := hb
      obtain ⟨x0, x1⟩ := hx
      have n1 : (k1 : Int) < 8 := by omega
      have n2 : (0 : Int) ≤ k1 := by omega
      have HK1 := Lib.hid hk1
      clear hp hk1
      go_wp2
      go_roundw
      case rel => exact ⟨k + 1, by omega, by have := HK1.out; rw [this]; go_num, by have := HK1.out; rw [this, HQ.out], trivial⟩
      case measure => simp [intOf]; omega
    · have h7 : k = k7 := by have := HK7.out; omega
      rw [h7]
      have hb := HBD.out k7 (by have := HK7.out; omega)
      obtain ⟨k8, hk8⟩ : ∃ k8, k7 + 1 = k8 := ⟨_, rfl⟩
      have hk8' : (8 : Int) ≤ k8 := by have := HK7.out; omega
      rw [hk8]
      obtain ⟨m0, _⟩ := hb
      clear h7 hk8
      generalize Sh.numR T k7 = m at *
      go_wp2
      go_ret
      exact ⟨ret_int HJ.out, hB⟩
end Go.Proofs.YtllabahapaeedaaDoor
