/- group.Hash: a number out of a digest. -/
import Derived.Test.YtllabahapaeedaaDoorDigTag
namespace Go.Proofs.YtllabahapaeedaaDoor
open Go.RowKit
set_option linter.unusedVariables false
namespace Sh
def cut7 (D : List Int) : List Int := D.set 0 (bits .and .u8 (D.getD 0 0) 127)
/-- the first k bytes as a number -/
def num (D : List Int) : Nat → Int
  | 0 => 0
  | k + 1 => bits .or .i64 (wrap64 (num D k * 256)) (D.getD k 0)
def hash (c : Cst) (t bs : List Int) : Int := (num (cut7 (tagged c t bs)) c.d).tmod 1073741789
theorem wrap8 (n : Int) : Byt (IntKind.u8.wrap n) := by
  rw [show IntKind.u8.wrap n = n % 256 by simp [IntKind.wrap, IntKind.bits, IntKind.signed]]
  exact ⟨by omega, by omega⟩
theorem and127 (x : Int) : Byt (bits .and .u8 x 127) := wrap8 _
theorem cut7_bytes {D : List Int} (h : ∀ x ∈ D, Byt x) : ∀ x ∈ cut7 D, Byt x := fun x hx => by
  rcases List.mem_or_eq_of_mem_set hx with h1 | h1
  · exact h x h1
  · subst h1; exact and127 _
theorem tagged_bytes (c : Cst) (t bs : List Int) : ∀ x ∈ tagged c t bs, Byt x := sum_bytes _ _
end Sh
set_option maxRecDepth 100000 in
set_option maxHeartbeats 2000000 in
theorem ghash_any (K : Sh.Cst) (s : ByteArray) (A : Option Addr) (n cap : Nat) (bs : List Int) (w : World) (hs : s.size ≤ 1000) (hr : Rd w w.heap.size 1 A n (bs.map (Value.int .u8))) (hbb : ∀ x ∈ bs, 0 ≤ x ∧ x < 256)
    (hn : n ≤ 100000) (hnc : n ≤ cap) (hcap : cap ≤ maxLen) (hL : Laid w) :
    Calls Tryd.prog 30 #[.string s, .slice A n cap] w fun e w' => e = .returned (.int .i64 (Sh.hash K (strInts s) bs)) ∧ Below w.heap.size w w' := by
  have HKd := Lib.hid K.hd
  have HR := Lib.hid hr
  clear hr
  go_enter Tryd.func30, Tryd.ntmps30
  go_wp2_with fail
  refine (tagged_any K s A n cap bs w hs HR.out hbb hn hnc hcap hL).mono ?_
  rintro e w1 ⟨rfl, hb1⟩
  have hT := Sh.tagged_length K (strInts s) bs
  have hTb := Sh.tagged_bytes K (strInts s) bs
  obtain ⟨T, hTe⟩ : ∃ T, Sh.tagged K (strInts s) bs = T := ⟨_, rfl⟩
  rw [hTe] at hT hTb ⊢
  have HTE := Lib.hid hTe
  have hi73 : (Tryd.prog.info? 73).map (·.size) = some T.length := by rw [hT]; kernel_rfl
  have HT := Lib.hid hT
  have HTB := Lib.hid hTb
  clear hTe hT hTb
  have hN := Ints.new w1 73 .u8 (List.replicate 32 0)
  go_wp2_with (refine wpList_store_ints rfl 73 (.tmp 5) (.tmp 9) rfl w1.heap.size .u8 T (by rfl) (by rfl) 73 _ hN (by rw [HT.out]; rfl) hi73 ?_; intro w2 hN2 hg2; obtain ⟨x0, hx0⟩ : ∃ x, T.getD 0 0 = x := ⟨_, rfl⟩; have q0 := hN2.cell (i := 0) (by rw [HT.out]; omega); have f0 := hN2.frozen 0; rw [hx0] at q0; have HX0 := Lib.hid hx0; clear hx0)
  have hC : Ints (w2.setCell ⟨w1.heap.size, 0, none⟩ (.int .u8 (bits .and .u8 x0 127))) w1.heap.size 73 .u8 (Sh.cut7 T) := by
    unfold Sh.cut7
    rw [HX0.out]
    exact hN2.set_ 0 _
  have hB := (((hb1.alloc hb1.size _).grown hg2 (by simp; have := hb1.size; omega) (fun g e => by injection e with e; have := hb1.size; omega)).setCell (p := ⟨w1.heap.size, 0, none⟩) hb1.size (.int .u8 (bits .and .u8 x0 127)))
  clear q0 f0 hN2 hg2 hN HX0
  generalize w2.setCell ⟨w1.heap.size, 0, none⟩ (.int .u8 (bits .and .u8 x0 127)) = w3 at hC hB ⊢
  have HCB := Lib.hid (Sh.cut7_bytes HTB.out)
  have HCL : Hid ((Sh.cut7 T).length = 32) := by show _ = _; rw [Sh.cut7, List.length_set]; exact HT.out
  have HC2 : Hid (Sh.hash K (strInts s) bs = (Sh.num (Sh.cut7 T) K.d).tmod 1073741789) := by
    show _ = _
    rw [Sh.hash, HTE.out]
  generalize Sh.cut7 T = C at *
  go_loopw [4, 14] (fun n i wx => ∃ k : Nat, k ≤ 8 ∧ i = .int .i64 k ∧ n = .int .i64 (Sh.num C k) ∧ w3 = wx) (fun _ i _ => 8 - (intOf i).toNat)
  case atStart => exact ⟨0, by omega, rfl, rfl, rfl⟩
  case round =>
    obtain ⟨k, hk, rfl, rfl, rfl⟩ := hrel
    by_cases hlt : k < 8
    · have q := hC.cell (i := k) (by rw [HCL.out]; omega)
      have HQ : Hid (Sh.num C (k + 1) = bits .or .i64 (wrap64 (Sh.num C k * 256)) (C.getD k 0)) := rfl
      obtain ⟨b1, b2⟩ := getD_bd HCB.out (j := k) (by rw [HCL.out]; omega)
      generalize C.getD k 0 = x at *
      generalize Sh.num C k = m at *
      have k1 : (k : Int) < 8 := by omega
      go_wp2
      go_roundw
      case rel => exact ⟨k + 1, by omega, by go_num, by rw [HQ.out], trivial⟩
      case measure => simp [intOf]; omega
    · have h8 : k = K.d := by have := HKd.out; omega
      rw [← h8] at HC2
      clear h8
      generalize Sh.num C k = m at *
      go_wp2
      go_ret
      exact ⟨ret_int HC2.out.symm, hB⟩
end Go.Proofs.YtllabahapaeedaaDoor
