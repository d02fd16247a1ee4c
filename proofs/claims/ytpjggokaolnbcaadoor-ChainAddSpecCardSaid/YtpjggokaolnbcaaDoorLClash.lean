/- clash of the chain laws (written by gen_lclash.py). -/
import Derived.Test.YtpjggokaolnbcaaDoorLRefText
import Derived.Test.YtpjggokaolnbcaaDoorLInj
import Derived.Test.YtpjggokaolnbcaaDoorLSaneLaw
namespace Go.Proofs.YtpjggokaolnbcaaDoor
open Go.RowKit
attribute [local go_sem] Oper.semAt_some
set_option linter.unusedVariables false
set_option maxRecDepth 100000 in
set_option maxHeartbeats 4000000 in
theorem clash_any (K : Sh.Cst) (A A' : Option Addr) (k c c' : Nat) (L M : List LkV) (w : World) (hL : Lks w w.heap.size A (k + 1) L) (hM : Lks w w.heap.size A' (k + 1) M) (hk : k ≤ 1000) (hkc : k + 1 ≤ c) (hkc' : k + 1 ≤ c') (hf : ∀ x ∈ L, Ch.fit x) (hf' : ∀ x ∈ M, Ch.fit x) (hLd : Laid w) :
    Calls Tryd.prog 17 #[.slice A (k + 1) c, .slice A' (k + 1) c'] w fun e w' => e = .returned (.bool (decide (Ch.text (Ch.gk L k) ≠ Ch.text (Ch.gk M k) ∧ Ch.head K L = Ch.head K M))) ∧ Below w.heap.size w w' := by
  have gL := Ch.gk_mem (L := L) (k := k) (by rw [hL.len]; omega)
  have gM := Ch.gk_mem (L := M) (k := k) (by rw [hM.len]; omega)
  obtain ⟨b, o, rfl, hb, hcL⟩ := hL.at gL.2
  obtain ⟨b', o', rfl, hb', hcM⟩ := hM.at gM.2
  have hT1 := rtext_link (Ch.gk L k) b o (k + 1) k c w rfl (by omega) hcL (hL.all _ gL.1) (hf _ gL.1)
  have hT2 : ∀ W, Below w.heap.size w W → _ := fun W hW => rtext_link (Ch.gk M k) b' o' (k + 1) k c' W rfl (by omega) (fun i v hv => (hW.cell (p := ⟨b', o' + k * 35 + i, none⟩) hb').trans (hcM i v hv)) (((hM.all _ gM.1).below hW).more hW.size) (hf' _ gM.1)
  have hH1 : ∀ W, Below w.heap.size w W → _ := fun W hW => head_any K (some ⟨b, o, none⟩) (k + 1) c L W ((hL.below hW).more hW.size) (by omega) (fun x hx => hf x (List.mem_of_getLast? hx)) (hLd.below hW hLd.size)
  have hH2 : ∀ W, Below w.heap.size w W → _ := fun W hW => head_any K (some ⟨b', o', none⟩) (k + 1) c' M W ((hM.below hW).more hW.size) (by omega) (fun x hx => hf' x (List.mem_of_getLast? hx)) (hLd.below hW hLd.size)
  have hl1 := head_len K L
  have hl2 := head_len K M
  have hb1 := Ch.text_bytes (Ch.gk L k)
  have hb2 := Ch.text_bytes (Ch.gk M k)
  have hinj := toBA_inj hb1 hb2
  obtain ⟨T, hT⟩ : ∃ T, Ch.text (Ch.gk L k) = T := ⟨_, rfl⟩
  obtain ⟨T', hT'⟩ : ∃ T, Ch.text (Ch.gk M k) = T := ⟨_, rfl⟩
  obtain ⟨H, hH⟩ : ∃ H, Ch.head K L = H := ⟨_, rfl⟩
  obtain ⟨H', hH'⟩ : ∃ H, Ch.head K M = H := ⟨_, rfl⟩
  rw [hT] at hT1 hb1 hinj ⊢
  rw [hT'] at hT2 hb2 hinj ⊢
  rw [hH] at hH1 hl1 ⊢
  rw [hH'] at hH2 hl2 ⊢
  have heq := fun w => equal_digest w H H' hl1 hl2
  have HT1 := Lib.hid hT1
  have HT2 := Lib.hid hT2
  have HH1 := Lib.hid hH1
  have HH2 := Lib.hid hH2
  have hcv1 := fun (W : World) (A : Option Addr) (c : Nat) (hr : Rd W W.heap.size 1 A T.length (T.map (Value.int .u8))) => conv_text (P := Tryd.prog) (c := c) W 23 9 5 Tryd.underlying23 Tryd.underlying5 Tryd.underlying9 hr
  have hcv2 := fun (W : World) (A : Option Addr) (c : Nat) (hr : Rd W W.heap.size 1 A T'.length (T'.map (Value.int .u8))) => conv_text (P := Tryd.prog) (c := c) W 23 9 5 Tryd.underlying23 Tryd.underlying5 Tryd.underlying9 hr
  obtain ⟨S, hS⟩ : ∃ S, toBA T = S := ⟨_, rfl⟩
  obtain ⟨S', hS'⟩ : ∃ S, toBA T' = S := ⟨_, rfl⟩
  rw [hS] at hcv1 hinj
  rw [hS'] at hcv2 hinj
  obtain ⟨m, hm⟩ : ∃ m, T.length = m := ⟨_, rfl⟩
  obtain ⟨m', hm'⟩ : ∃ m, T'.length = m := ⟨_, rfl⟩
  rw [hm] at HT1 hcv1
  rw [hm'] at HT2 hcv2
  have HV1 := Lib.hid hcv1
  have HV2 := Lib.hid hcv2
  clear hT1 hT2 hH1 hH2 hL hM hf hf' hLd gL gM hcL hcM hcv1 hcv2 hb1 hb2 hS hS' hT hT' hH hH' hm hm' hl1 hl2
  by_cases h1 : T = T'
  · have h2 := hinj.2 h1
    subst h2
    have h3 : decide (T ≠ T' ∧ H = H') = false := decide_eq_false fun h => h.1 h1
    rw [h3]
    have HI := Lib.hid h1
    clear hinj h1 h3 heq
    go_enter Tryd.func17, Tryd.ntmps17
    go_wp2_with fail
    refine HT1.out.mono ?_
    rintro e w1 ⟨A1, c1, rfl, hR1, hc1, hm1, hb1⟩
    have HR1 := Lib.hid hR1
    clear hR1
    go_wp2_with fail
    refine (HT2.out _ hb1).mono ?_
    rintro e w2 ⟨A2, c2, rfl, hR2, hc2, hm2, hb2⟩
    have v1 := HV1.out w2 A1 c1 ((HR1.out.below hb2).more hb2.size)
    have v2 := HV2.out w2 A2 c2 hR2
    have hb2 := hb1.trans (hb2.mono hb1.size)
    clear hR2
    go_wp2
    go_ret
    exact ⟨rfl, hb2⟩
  · have h2 : S ≠ S' := fun h => h1 (hinj.1 h)
    have h6 : (S.toList == S'.toList) = false := beq_eq_false_iff_ne.2 (fun h => h2 (by rw [ByteArray.toList_eq, ByteArray.toList_eq] at h; exact ByteArray.ext (Array.toList_inj.1 h)))
    by_cases h4 : H = H'
    · have h3 : decide (T ≠ T' ∧ H = H') = true := decide_eq_true ⟨h1, h4⟩
      rw [h3]
      rw [decide_eq_true h4] at heq
      have HI := Lib.hid (And.intro h1 h4)
      clear hinj h1 h3 h4
      go_enter Tryd.func17, Tryd.ntmps17
      go_wp2_with fail
      refine HT1.out.mono ?_
      rintro e w1 ⟨A1, c1, rfl, hR1, hc1, hm1, hb1⟩
      have HR1 := Lib.hid hR1
      clear hR1
      go_wp2_with fail
      refine (HT2.out _ hb1).mono ?_
      rintro e w2 ⟨A2, c2, rfl, hR2, hc2, hm2, hb2⟩
      have v1 := HV1.out w2 A1 c1 ((HR1.out.below hb2).more hb2.size)
      have v2 := HV2.out w2 A2 c2 hR2
      have hb2 := hb1.trans (hb2.mono hb1.size)
      clear hR2
      go_wp2_with fail
      refine (HH1.out _ hb2).mono ?_
      rintro e w3 ⟨rfl, hb3⟩
      have hb3 := hb2.trans (hb3.mono hb2.size)
      go_wp2_with fail
      refine (HH2.out _ hb3).mono ?_
      rintro e w4 ⟨rfl, hb4⟩
      have hb4 := hb3.trans (hb4.mono hb3.size)
      go_wp2
      go_ret
      exact ⟨rfl, hb4⟩
    · have h3 : decide (T ≠ T' ∧ H = H') = false := decide_eq_false fun h => h4 h.2
      rw [h3]
      rw [decide_eq_false h4] at heq
      have HI := Lib.hid (And.intro h1 h4)
      clear hinj h1 h3 h4
      go_enter Tryd.func17, Tryd.ntmps17
      go_wp2_with fail
      refine HT1.out.mono ?_
      rintro e w1 ⟨A1, c1, rfl, hR1, hc1, hm1, hb1⟩
      have HR1 := Lib.hid hR1
      clear hR1
      go_wp2_with fail
      refine (HT2.out _ hb1).mono ?_
      rintro e w2 ⟨A2, c2, rfl, hR2, hc2, hm2, hb2⟩
      have v1 := HV1.out w2 A1 c1 ((HR1.out.below hb2).more hb2.size)
      have v2 := HV2.out w2 A2 c2 hR2
      have hb2 := hb1.trans (hb2.mono hb1.size)
      clear hR2
      go_wp2_with fail
      refine (HH1.out _ hb2).mono ?_
      rintro e w3 ⟨rfl, hb3⟩
      have hb3 := hb2.trans (hb3.mono hb2.size)
      go_wp2_with fail
      refine (HH2.out _ hb3).mono ?_
      rintro e w4 ⟨rfl, hb4⟩
      have hb4 := hb3.trans (hb4.mono hb3.size)
      go_wp2
      go_ret
      exact ⟨rfl, hb4⟩
end Go.Proofs.YtpjggokaolnbcaaDoor
