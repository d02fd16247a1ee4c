/- ChainEqual: the walk (written by gen_lequal.py). -/
import Derived.Test.YtpjggokaolnbcaaDoorLPartsWalk
import Derived.Test.YtpjggokaolnbcaaDoorLClash
namespace Go.Proofs.YtpjggokaolnbcaaDoor
open Go.RowKit
attribute [local go_sem] Oper.semAt_some
set_option linter.unusedVariables false
theorem lks_byts {w : World} {B n : Nat} {A : Option Addr} {L : List LkV} (h : Lks w B A n L) : Ch.byts L := fun x hx => ⟨(h.all x hx).pbyt, (h.all x hx).dbyt⟩
theorem chk_not {K : Sh.Cst} {L : List LkV} (h : Ch.allB K L = false) : Ch.chk K L = 80 := by unfold Ch.chk; rw [if_neg (by rw [h]; simp)]
set_option maxRecDepth 100000 in
set_option maxHeartbeats 4000000 in
theorem equal_few1' (K : Sh.Cst) (A A' : Option Addr) (n n' c c' : Nat) (L M : List LkV) (w : World) (hL : Lks w w.heap.size A n L) (hLd : Laid w) (h1 : Ch.few L = false) :
    Calls Tryd.prog 5 #[.slice A n c, .slice A' n' c'] w fun e w' => e = .returned (.bool true) ∧ Below w.heap.size w w' := by
  have HS := Lib.hid (sane_any K w hLd)
  have HL := Lib.hid hL
  have HLd := Lib.hid hLd
  clear hL hLd
  go_enter Tryd.func5, Tryd.ntmps5
  go_wp2_with fail
  refine HS.out.mono ?_
  rintro e w1 ⟨rfl, hb1⟩
  have H1 := few_any A n c L w1 ((HL.out.below hb1).more hb1.size)
  rw [h1] at H1
  have H1 := Lib.hid H1
  go_wp2_with fail
  refine H1.out.mono ?_
  rintro e w2 ⟨rfl, rfl⟩
  have hb2 := hb1
  go_wp2
  go_ret
  exact ⟨rfl, hb2⟩
set_option maxRecDepth 100000 in
set_option maxHeartbeats 4000000 in
theorem equal_few2' (K : Sh.Cst) (A A' : Option Addr) (n n' c c' : Nat) (L M : List LkV) (w : World) (hL : Lks w w.heap.size A n L) (hM : Lks w w.heap.size A' n' M) (hLd : Laid w) (h1 : Ch.few L = true) (h2 : Ch.few M = false) :
    Calls Tryd.prog 5 #[.slice A n c, .slice A' n' c'] w fun e w' => e = .returned (.bool true) ∧ Below w.heap.size w w' := by
  have HS := Lib.hid (sane_any K w hLd)
  have HL := Lib.hid hL
  have HM := Lib.hid hM
  have HLd := Lib.hid hLd
  clear hL hM hLd
  go_enter Tryd.func5, Tryd.ntmps5
  go_wp2_with fail
  refine HS.out.mono ?_
  rintro e w1 ⟨rfl, hb1⟩
  have H1 := few_any A n c L w1 ((HL.out.below hb1).more hb1.size)
  rw [h1] at H1
  have H1 := Lib.hid H1
  go_wp2_with fail
  refine H1.out.mono ?_
  rintro e w2 ⟨rfl, rfl⟩
  have hb2 := hb1
  have H2 := few_any A' n' c' M w2 ((HM.out.below hb2).more hb2.size)
  rw [h2] at H2
  have H2 := Lib.hid H2
  go_wp2_with fail
  refine H2.out.mono ?_
  rintro e w3 ⟨rfl, rfl⟩
  have hb3 := hb2
  go_wp2
  go_ret
  exact ⟨rfl, hb3⟩
set_option maxRecDepth 100000 in
set_option maxHeartbeats 4000000 in
theorem equal_chk1 (K : Sh.Cst) (A A' : Option Addr) (n n' c c' : Nat) (L M : List LkV) (w : World) (hL : Lks w w.heap.size A n L) (hM : Lks w w.heap.size A' n' M) (hnc : n ≤ c) (hnc' : n' ≤ c') (hf : ∀ x ∈ L, Ch.fit x) (hf' : ∀ x ∈ M, Ch.fit x) (hLd : Laid w) (h1 : Ch.few L = true) (h2 : Ch.few M = true) (h3 : Ch.allB K L = false) :
    Calls Tryd.prog 5 #[.slice A n c, .slice A' n' c'] w fun e w' => e = .returned (.bool true) ∧ Below w.heap.size w w' := by
  have hl1 := (Ch.few_le h1).1
  have hl2 := (Ch.few_le h2).1
  have HS := Lib.hid (sane_any K w hLd)
  have HL := Lib.hid hL
  have HM := Lib.hid hM
  have HLd := Lib.hid hLd
  have HF := Lib.hid (And.intro hf hf')
  clear hL hM hf hf' hLd
  go_enter Tryd.func5, Tryd.ntmps5
  go_wp2_with fail
  refine HS.out.mono ?_
  rintro e w1 ⟨rfl, hb1⟩
  have H1 := few_any A n c L w1 ((HL.out.below hb1).more hb1.size)
  rw [h1] at H1
  have H1 := Lib.hid H1
  go_wp2_with fail
  refine H1.out.mono ?_
  rintro e w2 ⟨rfl, rfl⟩
  have hb2 := hb1
  have H2 := few_any A' n' c' M w2 ((HM.out.below hb2).more hb2.size)
  rw [h2] at H2
  have H2 := Lib.hid H2
  go_wp2_with fail
  refine H2.out.mono ?_
  rintro e w3 ⟨rfl, rfl⟩
  have hb3 := hb2
  have H3 := check_any K A n c L w3 ((HL.out.below hb3).more hb3.size) (by have := HL.out.len; omega) hnc HF.out.1 (HLd.out.below hb3 HLd.out.size)
  rw [chk_not h3] at H3
  have H3 := Lib.hid H3
  go_wp2_with fail
  refine H3.out.mono ?_
  rintro e w4 ⟨rfl, hbx⟩
  have hb4 := hb3.trans (hbx.mono hb3.size)
  clear hbx
  go_wp2
  go_ret
  exact ⟨rfl, hb4⟩
set_option maxRecDepth 100000 in
set_option maxHeartbeats 4000000 in
theorem equal_chk2 (K : Sh.Cst) (A A' : Option Addr) (n n' c c' : Nat) (L M : List LkV) (w : World) (hL : Lks w w.heap.size A n L) (hM : Lks w w.heap.size A' n' M) (hnc : n ≤ c) (hnc' : n' ≤ c') (hf : ∀ x ∈ L, Ch.fit x) (hf' : ∀ x ∈ M, Ch.fit x) (hLd : Laid w) (h1 : Ch.few L = true) (h2 : Ch.few M = true) (h3 : Ch.allB K L = true) (h4 : Ch.allB K M = false) :
    Calls Tryd.prog 5 #[.slice A n c, .slice A' n' c'] w fun e w' => e = .returned (.bool true) ∧ Below w.heap.size w w' := by
  have hl1 := (Ch.few_le h1).1
  have hl2 := (Ch.few_le h2).1
  have HS := Lib.hid (sane_any K w hLd)
  have HL := Lib.hid hL
  have HM := Lib.hid hM
  have HLd := Lib.hid hLd
  have HF := Lib.hid (And.intro hf hf')
  clear hL hM hf hf' hLd
  go_enter Tryd.func5, Tryd.ntmps5
  go_wp2_with fail
  refine HS.out.mono ?_
  rintro e w1 ⟨rfl, hb1⟩
  have H1 := few_any A n c L w1 ((HL.out.below hb1).more hb1.size)
  rw [h1] at H1
  have H1 := Lib.hid H1
  go_wp2_with fail
  refine H1.out.mono ?_
  rintro e w2 ⟨rfl, rfl⟩
  have hb2 := hb1
  have H2 := few_any A' n' c' M w2 ((HM.out.below hb2).more hb2.size)
  rw [h2] at H2
  have H2 := Lib.hid H2
  go_wp2_with fail
  refine H2.out.mono ?_
  rintro e w3 ⟨rfl, rfl⟩
  have hb3 := hb2
  have H3 := check_any K A n c L w3 ((HL.out.below hb3).more hb3.size) (by have := HL.out.len; omega) hnc HF.out.1 (HLd.out.below hb3 HLd.out.size)
  rw [Ch.chk_of h3] at H3
  have H3 := Lib.hid H3
  go_wp2_with fail
  refine H3.out.mono ?_
  rintro e w4 ⟨rfl, hbx⟩
  have hb4 := hb3.trans (hbx.mono hb3.size)
  clear hbx
  have H4 := check_any K A' n' c' M w4 ((HM.out.below hb4).more hb4.size) (by have := HM.out.len; omega) hnc' HF.out.2 (HLd.out.below hb4 HLd.out.size)
  rw [chk_not h4] at H4
  have H4 := Lib.hid H4
  go_wp2_with fail
  refine H4.out.mono ?_
  rintro e w5 ⟨rfl, hbx⟩
  have hb5 := hb4.trans (hbx.mono hb4.size)
  clear hbx
  go_wp2
  go_ret
  exact ⟨rfl, hb5⟩
set_option maxRecDepth 100000 in
set_option maxHeartbeats 4000000 in
theorem equal_len (K : Sh.Cst) (A A' : Option Addr) (n n' c c' : Nat) (L M : List LkV) (w : World) (hL : Lks w w.heap.size A n L) (hM : Lks w w.heap.size A' n' M) (hnc : n ≤ c) (hnc' : n' ≤ c') (hf : ∀ x ∈ L, Ch.fit x) (hf' : ∀ x ∈ M, Ch.fit x) (hLd : Laid w) (h1 : Ch.few L = true) (h2 : Ch.few M = true) (h3 : Ch.allB K L = true) (h4 : Ch.allB K M = true) (h5 : n ≠ n') :
    Calls Tryd.prog 5 #[.slice A n c, .slice A' n' c'] w fun e w' => e = .returned (.bool true) ∧ Below w.heap.size w w' := by
  have hl1 := (Ch.few_le h1).1
  have hl2 := (Ch.few_le h2).1
  have g5 : ¬ (n : Int) = (n' : Int) := by omega
  have g6 : ((n : Int) != (n' : Int)) = true := by simpa using g5
  have g7 : ((n : Int) == (n' : Int)) = false := by simpa using g5
  have HS := Lib.hid (sane_any K w hLd)
  have HL := Lib.hid hL
  have HM := Lib.hid hM
  have HLd := Lib.hid hLd
  have HF := Lib.hid (And.intro hf hf')
  clear hL hM hf hf' hLd
  go_enter Tryd.func5, Tryd.ntmps5
  go_wp2_with fail
  refine HS.out.mono ?_
  rintro e w1 ⟨rfl, hb1⟩
  have H1 := few_any A n c L w1 ((HL.out.below hb1).more hb1.size)
  rw [h1] at H1
  have H1 := Lib.hid H1
  go_wp2_with fail
  refine H1.out.mono ?_
  rintro e w2 ⟨rfl, rfl⟩
  have hb2 := hb1
  have H2 := few_any A' n' c' M w2 ((HM.out.below hb2).more hb2.size)
  rw [h2] at H2
  have H2 := Lib.hid H2
  go_wp2_with fail
  refine H2.out.mono ?_
  rintro e w3 ⟨rfl, rfl⟩
  have hb3 := hb2
  have H3 := check_any K A n c L w3 ((HL.out.below hb3).more hb3.size) (by have := HL.out.len; omega) hnc HF.out.1 (HLd.out.below hb3 HLd.out.size)
  rw [Ch.chk_of h3] at H3
  have H3 := Lib.hid H3
  go_wp2_with fail
  refine H3.out.mono ?_
  rintro e w4 ⟨rfl, hbx⟩
  have hb4 := hb3.trans (hbx.mono hb3.size)
  clear hbx
  have H4 := check_any K A' n' c' M w4 ((HM.out.below hb4).more hb4.size) (by have := HM.out.len; omega) hnc' HF.out.2 (HLd.out.below hb4 HLd.out.size)
  rw [Ch.chk_of h4] at H4
  have H4 := Lib.hid H4
  go_wp2_with fail
  refine H4.out.mono ?_
  rintro e w5 ⟨rfl, hbx⟩
  have hb5 := hb4.trans (hbx.mono hb4.size)
  clear hbx
  go_wp2
  go_ret
  exact ⟨rfl, hb5⟩
set_option maxRecDepth 100000 in
set_option maxHeartbeats 4000000 in
theorem equal_head (K : Sh.Cst) (A A' : Option Addr) (n c c' : Nat) (L M : List LkV) (w : World) (hL : Lks w w.heap.size A n L) (hM : Lks w w.heap.size A' n M) (hnc : n ≤ c) (hnc' : n ≤ c') (hf : ∀ x ∈ L, Ch.fit x) (hf' : ∀ x ∈ M, Ch.fit x) (hLd : Laid w) (h1 : Ch.few L = true) (h2 : Ch.few M = true) (h3 : Ch.allB K L = true) (h4 : Ch.allB K M = true) (h6 : Ch.head K L ≠ Ch.head K M) :
    Calls Tryd.prog 5 #[.slice A n c, .slice A' n c'] w fun e w' => e = .returned (.bool true) ∧ Below w.heap.size w w' := by
  have hl1 := (Ch.few_le h1).1
  have hl2 := (Ch.few_le h2).1
  have hl3 := head_len K L
  have hl4 := head_len K M
  obtain ⟨H, hH⟩ : ∃ H, Ch.head K L = H := ⟨_, rfl⟩
  obtain ⟨H', hH'⟩ : ∃ H, Ch.head K M = H := ⟨_, rfl⟩
  rw [hH] at hl3 h6
  rw [hH'] at hl4 h6
  have heq := fun w => equal_digest w H H' hl3 hl4
  rw [decide_eq_false h6] at heq
  have HS := Lib.hid (sane_any K w hLd)
  have HL := Lib.hid hL
  have HM := Lib.hid hM
  have HLd := Lib.hid hLd
  have HF := Lib.hid (And.intro hf hf')
  clear hL hM hf hf' hLd
  go_enter Tryd.func5, Tryd.ntmps5
  go_wp2_with fail
  refine HS.out.mono ?_
  rintro e w1 ⟨rfl, hb1⟩
  have H1 := few_any A n c L w1 ((HL.out.below hb1).more hb1.size)
  rw [h1] at H1
  have H1 := Lib.hid H1
  go_wp2_with fail
  refine H1.out.mono ?_
  rintro e w2 ⟨rfl, rfl⟩
  have hb2 := hb1
  have H2 := few_any A' n c' M w2 ((HM.out.below hb2).more hb2.size)
  rw [h2] at H2
  have H2 := Lib.hid H2
  go_wp2_with fail
  refine H2.out.mono ?_
  rintro e w3 ⟨rfl, rfl⟩
  have hb3 := hb2
  have H3 := check_any K A n c L w3 ((HL.out.below hb3).more hb3.size) (by have := HL.out.len; omega) hnc HF.out.1 (HLd.out.below hb3 HLd.out.size)
  rw [Ch.chk_of h3] at H3
  have H3 := Lib.hid H3
  go_wp2_with fail
  refine H3.out.mono ?_
  rintro e w4 ⟨rfl, hbx⟩
  have hb4 := hb3.trans (hbx.mono hb3.size)
  clear hbx
  have H4 := check_any K A' n c' M w4 ((HM.out.below hb4).more hb4.size) (by have := HM.out.len; omega) hnc' HF.out.2 (HLd.out.below hb4 HLd.out.size)
  rw [Ch.chk_of h4] at H4
  have H4 := Lib.hid H4
  go_wp2_with fail
  refine H4.out.mono ?_
  rintro e w5 ⟨rfl, hbx⟩
  have hb5 := hb4.trans (hbx.mono hb4.size)
  clear hbx
  have H5 := head_any K A n c L w5 ((HL.out.below hb5).more hb5.size) (by have := HL.out.len; omega) (fun x hx => HF.out.1 x (List.mem_of_getLast? hx)) (HLd.out.below hb5 HLd.out.size)
  rw [hH] at H5
  have H5 := Lib.hid H5
  go_wp2_with fail
  refine H5.out.mono ?_
  rintro e w6 ⟨rfl, hbx⟩
  have hb6 := hb5.trans (hbx.mono hb5.size)
  clear hbx
  have H6 := head_any K A' n c' M w6 ((HM.out.below hb6).more hb6.size) (by have := HM.out.len; omega) (fun x hx => HF.out.2 x (List.mem_of_getLast? hx)) (HLd.out.below hb6 HLd.out.size)
  rw [hH'] at H6
  have H6 := Lib.hid H6
  go_wp2_with fail
  refine H6.out.mono ?_
  rintro e w7 ⟨rfl, hbx⟩
  have hb7 := hb6.trans (hbx.mono hb6.size)
  clear hbx
  go_wp2
  go_ret
  exact ⟨rfl, hb7⟩
set_option maxRecDepth 100000 in
set_option maxHeartbeats 4000000 in
theorem equal_same (K : Sh.Cst) (A A' : Option Addr) (n c c' : Nat) (L M : List LkV) (w : World) (hL : Lks w w.heap.size A n L) (hM : Lks w w.heap.size A' n M) (hnc : n ≤ c) (hnc' : n ≤ c') (hf : ∀ x ∈ L, Ch.fit x) (hf' : ∀ x ∈ M, Ch.fit x) (hLd : Laid w) (h1 : Ch.few L = true) (h2 : Ch.few M = true) (h3 : Ch.allB K L = true) (h4 : Ch.allB K M = true) (h6 : Ch.head K L = Ch.head K M) (h7 : Ch.sameL L M = true) :
    Calls Tryd.prog 5 #[.slice A n c, .slice A' n c'] w fun e w' => e = .returned (.bool true) ∧ Below w.heap.size w w' := by
  have hl1 := (Ch.few_le h1).1
  have hl2 := (Ch.few_le h2).1
  have h66 := h6
  have hl3 := head_len K L
  have hl4 := head_len K M
  obtain ⟨H, hH⟩ : ∃ H, Ch.head K L = H := ⟨_, rfl⟩
  obtain ⟨H', hH'⟩ : ∃ H, Ch.head K M = H := ⟨_, rfl⟩
  rw [hH] at hl3 h6
  rw [hH'] at hl4 h6
  have heq := fun w => equal_digest w H H' hl3 hl4
  rw [decide_eq_true h6] at heq
  clear h6
  have HS := Lib.hid (sane_any K w hLd)
  have HL := Lib.hid hL
  have HM := Lib.hid hM
  have HLd := Lib.hid hLd
  have HF := Lib.hid (And.intro hf hf')
  clear hL hM hf hf' hLd
  go_enter Tryd.func5, Tryd.ntmps5
  go_wp2_with fail
  refine HS.out.mono ?_
  rintro e w1 ⟨rfl, hb1⟩
  have H1 := few_any A n c L w1 ((HL.out.below hb1).more hb1.size)
  rw [h1] at H1
  have H1 := Lib.hid H1
  go_wp2_with fail
  refine H1.out.mono ?_
  rintro e w2 ⟨rfl, rfl⟩
  have hb2 := hb1
  have H2 := few_any A' n c' M w2 ((HM.out.below hb2).more hb2.size)
  rw [h2] at H2
  have H2 := Lib.hid H2
  go_wp2_with fail
  refine H2.out.mono ?_
  rintro e w3 ⟨rfl, rfl⟩
  have hb3 := hb2
  have H3 := check_any K A n c L w3 ((HL.out.below hb3).more hb3.size) (by have := HL.out.len; omega) hnc HF.out.1 (HLd.out.below hb3 HLd.out.size)
  rw [Ch.chk_of h3] at H3
  have H3 := Lib.hid H3
  go_wp2_with fail
  refine H3.out.mono ?_
  rintro e w4 ⟨rfl, hbx⟩
  have hb4 := hb3.trans (hbx.mono hb3.size)
  clear hbx
  have H4 := check_any K A' n c' M w4 ((HM.out.below hb4).more hb4.size) (by have := HM.out.len; omega) hnc' HF.out.2 (HLd.out.below hb4 HLd.out.size)
  rw [Ch.chk_of h4] at H4
  have H4 := Lib.hid H4
  go_wp2_with fail
  refine H4.out.mono ?_
  rintro e w5 ⟨rfl, hbx⟩
  have hb5 := hb4.trans (hbx.mono hb4.size)
  clear hbx
  have H5 := head_any K A n c L w5 ((HL.out.below hb5).more hb5.size) (by have := HL.out.len; omega) (fun x hx => HF.out.1 x (List.mem_of_getLast? hx)) (HLd.out.below hb5 HLd.out.size)
  rw [hH] at H5
  have H5 := Lib.hid H5
  go_wp2_with fail
  refine H5.out.mono ?_
  rintro e w6 ⟨rfl, hbx⟩
  have hb6 := hb5.trans (hbx.mono hb5.size)
  clear hbx
  have H6 := head_any K A' n c' M w6 ((HM.out.below hb6).more hb6.size) (by have := HM.out.len; omega) (fun x hx => HF.out.2 x (List.mem_of_getLast? hx)) (HLd.out.below hb6 HLd.out.size)
  rw [hH'] at H6
  have H6 := Lib.hid H6
  go_wp2_with fail
  refine H6.out.mono ?_
  rintro e w7 ⟨rfl, hbx⟩
  have hb7 := hb6.trans (hbx.mono hb6.size)
  clear hbx
  have H7 := same_any A A' n n c c' L M w7 ((HL.out.below hb7).more hb7.size) ((HM.out.below hb7).more hb7.size) (by have := HL.out.len; omega)
  rw [h7] at H7
  have H7 := Lib.hid H7
  go_wp2_with fail
  refine H7.out.mono ?_
  rintro e w8 ⟨rfl, hbx⟩
  have hb8 := hb7.trans (hbx.mono hb7.size)
  clear hbx
  go_wp2
  go_ret
  exact ⟨rfl, hb8⟩
set_option maxRecDepth 100000 in
set_option maxHeartbeats 4000000 in
theorem equal_loop (K : Sh.Cst) (A A' : Option Addr) (n c c' : Nat) (L M : List LkV) (w : World) (hL : Lks w w.heap.size A n L) (hM : Lks w w.heap.size A' n M) (hnc : n ≤ c) (hnc' : n ≤ c') (hf : ∀ x ∈ L, Ch.fit x) (hf' : ∀ x ∈ M, Ch.fit x) (hLd : Laid w) (h1 : Ch.few L = true) (h2 : Ch.few M = true) (h3 : Ch.allB K L = true) (h4 : Ch.allB K M = true) (h6 : Ch.head K L = Ch.head K M) (h7 : Ch.sameL L M = false) (hA : A = none → c = 0) (hA' : A' = none → c' = 0) :
    Calls Tryd.prog 5 #[.slice A n c, .slice A' n c'] w fun e w' => e = .returned (.bool true) ∧ Below w.heap.size w w' := by
  have hl1 := (Ch.few_le h1).1
  have hl2 := (Ch.few_le h2).1
  have h66 := h6
  have hl3 := head_len K L
  have hl4 := head_len K M
  obtain ⟨H, hH⟩ : ∃ H, Ch.head K L = H := ⟨_, rfl⟩
  obtain ⟨H', hH'⟩ : ∃ H, Ch.head K M = H := ⟨_, rfl⟩
  rw [hH] at hl3 h6
  rw [hH'] at hl4 h6
  have heq := fun w => equal_digest w H H' hl3 hl4
  rw [decide_eq_true h6] at heq
  clear h6
  have HS := Lib.hid (sane_any K w hLd)
  have HL := Lib.hid hL
  have HM := Lib.hid hM
  have HLd := Lib.hid hLd
  have HF := Lib.hid (And.intro hf hf')
  clear hL hM hf hf' hLd
  go_enter Tryd.func5, Tryd.ntmps5
  go_wp2_with fail
  refine HS.out.mono ?_
  rintro e w1 ⟨rfl, hb1⟩
  have H1 := few_any A n c L w1 ((HL.out.below hb1).more hb1.size)
  rw [h1] at H1
  have H1 := Lib.hid H1
  go_wp2_with fail
  refine H1.out.mono ?_
  rintro e w2 ⟨rfl, rfl⟩
  have hb2 := hb1
  have H2 := few_any A' n c' M w2 ((HM.out.below hb2).more hb2.size)
  rw [h2] at H2
  have H2 := Lib.hid H2
  go_wp2_with fail
  refine H2.out.mono ?_
  rintro e w3 ⟨rfl, rfl⟩
  have hb3 := hb2
  have H3 := check_any K A n c L w3 ((HL.out.below hb3).more hb3.size) (by have := HL.out.len; omega) hnc HF.out.1 (HLd.out.below hb3 HLd.out.size)
  rw [Ch.chk_of h3] at H3
  have H3 := Lib.hid H3
  go_wp2_with fail
  refine H3.out.mono ?_
  rintro e w4 ⟨rfl, hbx⟩
  have hb4 := hb3.trans (hbx.mono hb3.size)
  clear hbx
  have H4 := check_any K A' n c' M w4 ((HM.out.below hb4).more hb4.size) (by have := HM.out.len; omega) hnc' HF.out.2 (HLd.out.below hb4 HLd.out.size)
  rw [Ch.chk_of h4] at H4
  have H4 := Lib.hid H4
  go_wp2_with fail
  refine H4.out.mono ?_
  rintro e w5 ⟨rfl, hbx⟩
  have hb5 := hb4.trans (hbx.mono hb4.size)
  clear hbx
  have H5 := head_any K A n c L w5 ((HL.out.below hb5).more hb5.size) (by have := HL.out.len; omega) (fun x hx => HF.out.1 x (List.mem_of_getLast? hx)) (HLd.out.below hb5 HLd.out.size)
  rw [hH] at H5
  have H5 := Lib.hid H5
  go_wp2_with fail
  refine H5.out.mono ?_
  rintro e w6 ⟨rfl, hbx⟩
  have hb6 := hb5.trans (hbx.mono hb5.size)
  clear hbx
  have H6 := head_any K A' n c' M w6 ((HM.out.below hb6).more hb6.size) (by have := HM.out.len; omega) (fun x hx => HF.out.2 x (List.mem_of_getLast? hx)) (HLd.out.below hb6 HLd.out.size)
  rw [hH'] at H6
  have H6 := Lib.hid H6
  go_wp2_with fail
  refine H6.out.mono ?_
  rintro e w7 ⟨rfl, hbx⟩
  have hb7 := hb6.trans (hbx.mono hb6.size)
  clear hbx
  have H7 := same_any A A' n n c c' L M w7 ((HL.out.below hb7).more hb7.size) ((HM.out.below hb7).more hb7.size) (by have := HL.out.len; omega)
  rw [h7] at H7
  have H7 := Lib.hid H7
  go_wp2_with fail
  refine H7.out.mono ?_
  rintro e w8 ⟨rfl, hbx⟩
  have hb8 := hb7.trans (hbx.mono hb7.size)
  clear hbx
  have hne := Ch.differ_some (by rw [HL.out.len, HM.out.len]) h7
  have hex := Ch.clash_exists h3 h4 (lks_byts HL.out) (lks_byts HM.out) (by rw [HL.out.len, HM.out.len]) L.length (Nat.le_refl _) (by rw [List.take_of_length_le (Nat.le_refl _), List.take_of_length_le (by rw [HL.out.len, HM.out.len]; exact Nat.le_refl _)]; exact h66) hne
  have HEX := Lib.hid hex
  have HLL := HL.out.len
  have hn16 : (n : Int) ≤ 16 := by omega
  have HB8 := Lib.hid hb8
  clear hne hex h66
  go_wp2
  go_loopw [5] (fun i wr => ∃ m : Nat, 1 ≤ m ∧ m ≤ n + 1 ∧ i = .int .i64 m ∧ (∀ j, j + 1 < m → Ch.clashB K L M j = false) ∧ Below w.heap.size w wr) (fun i _ => n + 1 - (intOf i).toNat)
  case atStart => exact ⟨1, Nat.le_refl _, by omega, rfl, fun j hj => absurd hj (by omega), HB8.out⟩
  case round =>
    obtain ⟨m, hm1, hm2, rfl, hu, hbr⟩ := hrel
    by_cases hlt : m ≤ n
    · have g1 : (m : Int) ≤ (n : Int) := by omega
      obtain ⟨k, hk⟩ : ∃ k, k + 1 = m := ⟨m - 1, by omega⟩
      have hLr := (HL.out.below hbr).more hbr.size
      have hMr := (HM.out.below hbr).more hbr.size
      have r1 := fun w => run_to (w := w) A n c m (by omega) (fun h => absurd (hA h) (by omega))
      have r2 := fun w => run_to (w := w) A' n c' m (by omega) (fun h => absurd (hA' h) (by omega))
      have hC : ∀ W, Below wr.heap.size wr W → Calls Tryd.prog 17 #[.slice A m c, .slice A' m c'] W fun e w' => e = .returned (.bool (Ch.clashB K L M k)) ∧ Below W.heap.size W w' := by
        intro W hW
        have h := clash_any K A A' k c c' (L.take (k + 1)) (M.take (k + 1)) W (((hLr.below hW).more hW.size).take (by omega)) (((hMr.below hW).more hW.size).take (by omega)) (by omega) (by omega) (by omega) (fun x hx => HF.out.1 x (List.mem_of_mem_take hx)) (fun x hx => HF.out.2 x (List.mem_of_mem_take hx)) (HLd.out.below (hbr.trans (hW.mono hbr.size)) HLd.out.size)
        rw [Ch.gk_take (Nat.lt_succ_self k), Ch.gk_take (Nat.lt_succ_self k), hk] at h
        unfold Ch.clashB
        rw [hk]
        exact h
      have hS0 : Below wr.heap.size wr wr.drew := (Below.refl _ _).drew
      have HBR := Lib.hid hbr
      have HU := Lib.hid hu
      cases hcl : Ch.clashB K L M k with
      | true =>
        rw [hcl] at hC
        have HC := Lib.hid hC
        clear hC hLr hMr hbr hu
        go_wp2_with fail
        rename_i Kz hKz
        refine wp_region_ord (fun w' => Below wr.heap.size wr w') [(0, true), (1, true), (2, true), (3, true), (4, true), (5, true), (6, false)] (by kernel_rfl) (by kernel_rfl) rfl (by kernel_rfl) (fun x _ _ _ _ h => by cases x <;> exact h) hS0 ?_
        refine wpOrd_take rfl _ (by rfl) (by intro w' hS; go_simp; try with_reducible rfl) fun KK hKK => ?_
        go_simp
        refine hKK _ ?_
        clear hKK KK
        refine wpOrd_take rfl _ (by rfl) (by intro w' hS; go_simp; try with_reducible rfl) fun KK hKK => ?_
        go_simp
        refine hKK _ ?_
        clear hKK KK
        refine wpOrd_take rfl _ (by rfl) (by intro w' hS; have h1 := r1 w'; go_simp; try with_reducible rfl) fun KK hKK => ?_
        go_simp
        refine hKK _ ?_
        clear hKK KK
        refine wpOrd_take rfl _ (by rfl) (by intro w' hS; go_simp; try with_reducible rfl) fun KK hKK => ?_
        go_simp
        refine hKK _ ?_
        clear hKK KK
        refine wpOrd_take rfl _ (by rfl) (by intro w' hS; go_simp; try with_reducible rfl) fun KK hKK => ?_
        go_simp
        refine hKK _ ?_
        clear hKK KK
        refine wpOrd_take rfl _ (by rfl) (by intro w' hS; have h1 := r2 w'; go_simp; try with_reducible rfl) fun KK hKK => ?_
        go_simp
        refine hKK _ ?_
        clear hKK KK
        refine wpOrd_force rfl (by rfl) fun KK hKK => ?_
        go_simp
        refine (HC.out _ hS0).mono ?_
        rintro e w10 ⟨rfl, hb10⟩
        have hS1 : Below wr.heap.size wr w10 := hS0.trans (hb10.mono hS0.size)
        refine hKK _ _ hS1 ?_
        clear hKK KK
        refine wpOrd_nil ?_
        show Kz _ _
        refine hKz _ _ ?_
        clear hKz
        go_wp2
        go_ret
        exact ⟨rfl, HBR.out.trans (hS1.mono HBR.out.size)⟩
      | false =>
        rw [hcl] at hC
        have HC := Lib.hid hC
        have HCL := Lib.hid hcl
        clear hC hLr hMr hbr hu hcl
        go_wp2_with fail
        rename_i Kz hKz
        refine wp_region_ord (fun w' => Below wr.heap.size wr w') [(0, true), (1, true), (2, true), (3, true), (4, true), (5, true), (6, false)] (by kernel_rfl) (by kernel_rfl) rfl (by kernel_rfl) (fun x _ _ _ _ h => by cases x <;> exact h) hS0 ?_
        refine wpOrd_take rfl _ (by rfl) (by intro w' hS; go_simp; try with_reducible rfl) fun KK hKK => ?_
        go_simp
        refine hKK _ ?_
        clear hKK KK
        refine wpOrd_take rfl _ (by rfl) (by intro w' hS; go_simp; try with_reducible rfl) fun KK hKK => ?_
        go_simp
        refine hKK _ ?_
        clear hKK KK
        refine wpOrd_take rfl _ (by rfl) (by intro w' hS; have h1 := r1 w'; go_simp; try with_reducible rfl) fun KK hKK => ?_
        go_simp
        refine hKK _ ?_
        clear hKK KK
        refine wpOrd_take rfl _ (by rfl) (by intro w' hS; go_simp; try with_reducible rfl) fun KK hKK => ?_
        go_simp
        refine hKK _ ?_
        clear hKK KK
        refine wpOrd_take rfl _ (by rfl) (by intro w' hS; go_simp; try with_reducible rfl) fun KK hKK => ?_
        go_simp
        refine hKK _ ?_
        clear hKK KK
        refine wpOrd_take rfl _ (by rfl) (by intro w' hS; have h1 := r2 w'; go_simp; try with_reducible rfl) fun KK hKK => ?_
        go_simp
        refine hKK _ ?_
        clear hKK KK
        refine wpOrd_force rfl (by rfl) fun KK hKK => ?_
        go_simp
        refine (HC.out _ hS0).mono ?_
        rintro e w10 ⟨rfl, hb10⟩
        have hS1 : Below wr.heap.size wr w10 := hS0.trans (hb10.mono hS0.size)
        refine hKK _ _ hS1 ?_
        clear hKK KK
        refine wpOrd_nil ?_
        show Kz _ _
        refine hKz _ _ ?_
        clear hKz
        go_wp2
        go_roundw
        case rel => exact ⟨m + 1, by omega, by omega, by go_num, fun j hj => by
          by_cases e : j = k
          · rw [e]; exact HCL.out
          · exact HU.out j (by omega), HBR.out.trans (hS1.mono HBR.out.size)⟩
        case measure => simp [intOf]; omega
    · exfalso
      obtain ⟨i, hi, hc⟩ := HEX.out
      have := hu i (by omega)
      rw [hc] at this; cases this
theorem equal_walk (K : Sh.Cst) (A A' : Option Addr) (n n' c c' : Nat) (L M : List LkV) (w : World) (hL : Lks w w.heap.size A n L) (hM : Lks w w.heap.size A' n' M) (hnc : n ≤ c) (hnc' : n' ≤ c') (hw : ∀ x ∈ L, (-9223372036854775808 ≤ x.node ∧ x.node < 9223372036854775808) ∧ (-9223372036854775808 ≤ x.no ∧ x.no < 9223372036854775808))
    (hw' : ∀ x ∈ M, (-9223372036854775808 ≤ x.node ∧ x.node < 9223372036854775808) ∧ (-9223372036854775808 ≤ x.no ∧ x.no < 9223372036854775808)) (hA : A = none → c = 0) (hA' : A' = none → c' = 0) (hLd : Laid w) :
    Calls Tryd.prog 5 #[.slice A n c, .slice A' n' c'] w fun e w' => e = .returned (.bool true) ∧ Below w.heap.size w w' := by
  cases h1 : Ch.few L with
  | false => exact equal_few1' K A A' n n' c c' L M w hL hLd h1
  | true =>
    have hf : ∀ x ∈ L, Ch.fit x := fun x hx => ⟨(hw x hx).1, (hw x hx).2, by have := (Ch.few_le h1).2 x hx; omega⟩
    cases h2 : Ch.few M with
    | false => exact equal_few2' K A A' n n' c c' L M w hL hM hLd h1 h2
    | true =>
      have hf' : ∀ x ∈ M, Ch.fit x := fun x hx => ⟨(hw' x hx).1, (hw' x hx).2, by have := (Ch.few_le h2).2 x hx; omega⟩
      cases h3 : Ch.allB K L with
      | false => exact equal_chk1 K A A' n n' c c' L M w hL hM hnc hnc' hf hf' hLd h1 h2 h3
      | true =>
        cases h4 : Ch.allB K M with
        | false => exact equal_chk2 K A A' n n' c c' L M w hL hM hnc hnc' hf hf' hLd h1 h2 h3 h4
        | true =>
          by_cases h5 : n = n'
          · subst h5
            by_cases h6 : Ch.head K L = Ch.head K M
            · cases h7 : Ch.sameL L M with
              | true => exact equal_same K A A' n c c' L M w hL hM hnc hnc' hf hf' hLd h1 h2 h3 h4 h6 h7
              | false => exact equal_loop K A A' n c c' L M w hL hM hnc hnc' hf hf' hLd h1 h2 h3 h4 h6 h7 hA hA'
            · exact equal_head K A A' n c c' L M w hL hM hnc hnc' hf hf' hLd h1 h2 h3 h4 h6
          · exact equal_len K A A' n n' c c' L M w hL hM hnc hnc' hf hf' hLd h1 h2 h3 h4 h5
end Go.Proofs.YtpjggokaolnbcaaDoor
