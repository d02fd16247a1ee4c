/- The reference's Hash of an occasion answers the hash: what the walks of DuressSpec and DuressEitherSpec were given. -/
import Derived.Test.YtllabahapaeedaaDoorRefEnc2
import Derived.Test.YtllabahapaeedaaDoorRefHash
namespace Go.Proofs.YtllabahapaeedaaDoor
open Go.RowKit
set_option linter.unusedVariables false
set_option maxRecDepth 100000 in
set_option maxHeartbeats 1000000 in
theorem rocchash (K : Sh.Cst) (d n : Nat) (w : World) (hd : d < 4096) (hn : n ≤ 1048576) :
    Calls Tryd.prog 25 #[.int .i64 d, .int .i64 n] w fun e w' => e = .returned (.int .i64 (Du.ho K d n)) ∧ Below w.heap.size w w' := by
  have h1 := rint_any (d : Int)
  have h2 := rint_any (n : Int)
  have h3 := rlist_any
  have henc := fun g c w h => rEncode_two g c d n (by omega) (by omega) w h
  have HH : Hid (Du.ho K d n = Sh.hash K (strInts tagS) (enc2 d n)) := rfl
  have hl := enc2_length d n (by omega) (by omega)
  have hbb := enc2_bytes d n
  generalize Du.ho K d n = ans at *
  have hgh := fun A ln c w hr h1 h2 h3 => rghash_any K tagS A ln c (enc2 d n) w (by decide) hr hbb h1 h2 h3
  have HE := Lib.hid henc
  have HL := Lib.hid hl
  have HG := Lib.hid hgh
  clear henc hl hbb hgh
  unfold intV at h1 h2
  unfold listV at h3
  go_enter Tryd.func25, Tryd.ntmps25
  go_wp2_with fail
  refine (h1 _).mono ?_
  rintro e w1 ⟨rfl, hb1⟩
  go_wp2_with fail
  refine (h2 _).mono ?_
  rintro e w2 ⟨rfl, hb2⟩
  have hB2 := hb1.trans (hb2.mono hb1.size)
  clear hb1 hb2 h1 h2
  go_wp2_with fail
  refine (h3 _ _ _ _).mono ?_
  rintro e w3 ⟨rfl, hb3⟩
  have hR3 := (rd_two w2 d n 58).below (hb3.mono (by simp))
  have hB3 := (hB2.alloc hB2.size _).trans (hb3.mono (by have := hB2.size; simp; omega))
  have hs3 : w2.heap.size + 1 ≤ w3.heap.size := by have := hb3.size; simpa using this
  have HR3 := Lib.hid (hR3.more hs3)
  clear hb3 hR3 h3
  go_wp2_with fail
  refine (HE.out _ _ _ HR3.out).mono ?_
  rintro e w4 ⟨A, c4, rfl, hR4, hl4, hc4, hb4⟩
  have hB4 := hB3.trans (hb4.mono hB3.size)
  have HF := Lib.hid (And.intro hR4 (And.intro hl4 hc4))
  clear hR4 hl4 hc4 hb4 hB3 hB2
  go_wp2_with fail
  refine (HG.out _ _ _ _ HF.out.1 (by have := HL.out; omega) HF.out.2.1 HF.out.2.2).mono ?_
  rintro e w5 ⟨rfl, hb5⟩
  have hB5 := hB4.trans (hb5.mono hB4.size)
  have h9 := HH.out
  clear hB4 hb5
  go_wp2
  go_ret
  exact ⟨ret_int h9.symm, hB5⟩
theorem rhash_all (K : Sh.Cst) : RHash K := fun d n w hp => by
  have h := Du.poss_iff.1 hp
  obtain ⟨d', rfl⟩ : ∃ d' : Nat, d = d' := ⟨d.toNat, by omega⟩
  obtain ⟨n', rfl⟩ : ∃ n' : Nat, n = n' := ⟨n.toNat, by omega⟩
  exact rocchash K d' n' w (by omega) (by omega)
end Go.Proofs.YtllabahapaeedaaDoor
