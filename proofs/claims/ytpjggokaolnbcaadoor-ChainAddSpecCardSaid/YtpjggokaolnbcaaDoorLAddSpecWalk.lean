/- ChainAddSpec: the walk (written by gen_laddspec.py). -/
import Derived.Test.YtpjggokaolnbcaaDoorLRefPart
import Derived.Test.YtpjggokaolnbcaaDoorLRefAdd
import Derived.Test.YtpjggokaolnbcaaDoorLOpen
namespace Go.Proofs.YtpjggokaolnbcaaDoor
open Go.RowKit
attribute [local go_sem] Oper.semAt_some
set_option linter.unusedVariables false
namespace Ch
theorem sameL_snoc {L : List LkV} {x y : LkV} (h : sameV x y = true) : sameL (L ++ [x]) (L ++ [y]) = true := by
  refine decide_eq_true ⟨by simp, fun j hj => ?_⟩
  rw [List.length_append, List.length_singleton] at hj
  by_cases hjl : j < L.length
  · rw [gk_app_lt hjl, gk_app_lt hjl]; unfold sameV; simp
  · obtain rfl : j = L.length := by omega
    rw [gk_app_new, gk_app_new]; exact h
end Ch
set_option maxRecDepth 100000 in
set_option maxHeartbeats 4000000 in
theorem as_few1 (K : Sh.Cst) (A A' : Option Addr) (n n' c c' : Nat) (L M : List LkV) (node : Int) (B : Option Addr) (m cd : Nat) (w : World) (hL : Lks w w.heap.size A n L) (hM : Lks w w.heap.size A' n' M) (hLd : Laid w) (h1 : Ch.few L = false) :
    Calls Tryd.prog 3 #[.slice A n c, .slice A' n' c', .int .i64 node, .slice B m cd] w fun e w' => e = .returned (.bool true) ∧ Below w.heap.size w w' := by
  have HS := Lib.hid (sane_any K w hLd)
  have HL := Lib.hid hL
  have HM := Lib.hid hM
  have HLd := Lib.hid hLd
  clear hL hM hLd
  go_enter Tryd.func3, Tryd.ntmps3
  go_wp2_with fail
  refine HS.out.mono ?_
  rintro e w1 ⟨rfl, hb1⟩
  have H1 := few_any A n c L w1 ((HL.out.below hb1).more hb1.size)
  rw [h1] at H1
  have H1 := Lib.hid H1
  go_wp2_with fail
  refine H1.out.mono ?_
  rintro e w2 ⟨rfl, rfl⟩
  have hb2 := hb1
  go_wp2
  go_ret
  exact ⟨rfl, hb2⟩
set_option maxRecDepth 100000 in
set_option maxHeartbeats 4000000 in
theorem as_few2 (K : Sh.Cst) (A A' : Option Addr) (n n' c c' : Nat) (L M : List LkV) (node : Int) (B : Option Addr) (m cd : Nat) (w : World) (hL : Lks w w.heap.size A n L) (hM : Lks w w.heap.size A' n' M) (hLd : Laid w) (h1 : Ch.few L = true) (h2 : Ch.few M = false) :
    Calls Tryd.prog 3 #[.slice A n c, .slice A' n' c', .int .i64 node, .slice B m cd] w fun e w' => e = .returned (.bool true) ∧ Below w.heap.size w w' := by
  have HS := Lib.hid (sane_any K w hLd)
  have HL := Lib.hid hL
  have HM := Lib.hid hM
  have HLd := Lib.hid hLd
  clear hL hM hLd
  go_enter Tryd.func3, Tryd.ntmps3
  go_wp2_with fail
  refine HS.out.mono ?_
  rintro e w1 ⟨rfl, hb1⟩
  have H1 := few_any A n c L w1 ((HL.out.below hb1).more hb1.size)
  rw [h1] at H1
  have H1 := Lib.hid H1
  go_wp2_with fail
  refine H1.out.mono ?_
  rintro e w2 ⟨rfl, rfl⟩
  have hb2 := hb1
  have H2 := few_any A' n' c' M w2 ((HM.out.below hb2).more hb2.size)
  rw [h2] at H2
  have H2 := Lib.hid H2
  go_wp2_with fail
  refine H2.out.mono ?_
  rintro e w3 ⟨rfl, rfl⟩
  have hb3 := hb2
  go_wp2
  go_ret
  exact ⟨rfl, hb3⟩
set_option maxRecDepth 100000 in
set_option maxHeartbeats 4000000 in
theorem as_mid (K : Sh.Cst) (A A' : Option Addr) (n n' c c' : Nat) (L M : List LkV) (node : Int) (B : Option Addr) (m cd : Nat) (w : World) (hL : Lks w w.heap.size A n L) (hM : Lks w w.heap.size A' n' M) (hLd : Laid w) (h1 : Ch.few L = true) (h2 : Ch.few M = true) (h3 : 300 < m) (h4 : m ≤ 65536) :
    Calls Tryd.prog 3 #[.slice A n c, .slice A' n' c', .int .i64 node, .slice B m cd] w fun e w' => e = .returned (.bool true) ∧ Below w.heap.size w w' := by
  have g1 : (300 : Int) < (m : Int) := by omega
  have g2 : (m : Int) ≤ 65536 := by omega
  clear h3 h4
  have HS := Lib.hid (sane_any K w hLd)
  have HL := Lib.hid hL
  have HM := Lib.hid hM
  have HLd := Lib.hid hLd
  clear hL hM hLd
  go_enter Tryd.func3, Tryd.ntmps3
  go_wp2_with fail
  refine HS.out.mono ?_
  rintro e w1 ⟨rfl, hb1⟩
  have H1 := few_any A n c L w1 ((HL.out.below hb1).more hb1.size)
  rw [h1] at H1
  have H1 := Lib.hid H1
  go_wp2_with fail
  refine H1.out.mono ?_
  rintro e w2 ⟨rfl, rfl⟩
  have hb2 := hb1
  have H2 := few_any A' n' c' M w2 ((HM.out.below hb2).more hb2.size)
  rw [h2] at H2
  have H2 := Lib.hid H2
  go_wp2_with fail
  refine H2.out.mono ?_
  rintro e w3 ⟨rfl, rfl⟩
  have hb3 := hb2
  go_wp2
  go_ret
  exact ⟨rfl, hb3⟩
set_option maxRecDepth 100000 in
set_option maxHeartbeats 4000000 in
theorem as_bad_s (K : Sh.Cst) (A A' : Option Addr) (n n' c c' : Nat) (L M : List LkV) (node : Int) (B : Option Addr) (m cd : Nat) (w : World) (hL : Lks w w.heap.size A n L) (hM : Lks w w.heap.size A' n' M) (hLd : Laid w) (hnc : n ≤ c) (hnc' : n' ≤ c') (hA : A = none → c = 0) (hA' : A' = none → c' = 0) (hf : ∀ x ∈ L, Ch.fit x) (hf' : ∀ x ∈ M, Ch.fit x) (h1 : Ch.few L = true) (h2 : Ch.few M = true) (h3 : m ≤ 300) (E : Int) (hadd : ∀ W, Below w.heap.size w W → Calls Tryd.prog 10 #[.slice A n c, .int .i64 node, .slice B m cd] W fun e w' => e = .returned (.tuple #[.slice none 0 0, .int .i64 E]) ∧ Below W.heap.size W w')
    (hradd : ∀ W, Below w.heap.size w W → Calls Tryd.prog 11 #[.slice A n c, .int .i64 node, .slice B m cd] W fun e w' => e = .returned (.tuple #[.slice none 0 0, .int .i64 E]) ∧ Below W.heap.size W w') :
    Calls Tryd.prog 3 #[.slice A n c, .slice A' n' c', .int .i64 node, .slice B m cd] w fun e w' => e = .returned (.bool true) ∧ Below w.heap.size w w' := by
  have hl1 := (Ch.few_le h1).1
  have hl2 := (Ch.few_le h2).1
  have hLl := hL.len
  have hMl := hM.len
  have HAD := Lib.hid hadd
  have HRA := Lib.hid hradd
  obtain ⟨pr, hpr⟩ : ∃ pr, Ch.part K L M = pr := ⟨_, rfl⟩
  have HPA : Hid (∀ W, Below w.heap.size w W → Calls Tryd.prog 12 #[.slice A n c, .slice A' n' c'] W fun e w' => e = .returned (Ch.partV pr) ∧ Below W.heap.size W w') := by
    show ∀ W, _
    intro W hW
    have := part_any K A A' n n' c c' L M W ((hL.below hW).more hW.size) ((hM.below hW).more hW.size) (by omega) (by omega) hnc hnc' hf hf' (hLd.below hW hLd.size)
    rw [hpr] at this
    exact this
  have HPR : Hid (∀ W, Below w.heap.size w W → Calls Tryd.prog 13 #[.slice A n c, .slice A' n' c'] W fun e w' => e = .returned (Ch.partV pr) ∧ Below W.heap.size W w') := by
    show ∀ W, _
    intro W hW
    have := rpart_any K A A' n n' c c' L M W ((hL.below hW).more hW.size) ((hM.below hW).more hW.size) (by omega) (by omega) hnc hnc' hA hA' hf hf'
    rw [hpr] at this
    exact this
  obtain ⟨pi, po, pe⟩ := pr
  unfold Ch.partV at HPA HPR
  have g1 : ¬ (300 : Int) < (m : Int) := by omega
  have g2 : (m : Int) ≤ 300 := by omega
  clear hadd hradd hpr h3
  have HS := Lib.hid (sane_any K w hLd)
  have HL := Lib.hid hL
  have HM := Lib.hid hM
  have HLd := Lib.hid hLd
  clear hL hM hLd
  go_enter Tryd.func3, Tryd.ntmps3
  go_wp2_with fail
  refine HS.out.mono ?_
  rintro e w1 ⟨rfl, hb1⟩
  have H1 := few_any A n c L w1 ((HL.out.below hb1).more hb1.size)
  rw [h1] at H1
  have H1 := Lib.hid H1
  go_wp2_with fail
  refine H1.out.mono ?_
  rintro e w2 ⟨rfl, rfl⟩
  have hb2 := hb1
  have H2 := few_any A' n' c' M w2 ((HM.out.below hb2).more hb2.size)
  rw [h2] at H2
  have H2 := Lib.hid H2
  go_wp2_with fail
  refine H2.out.mono ?_
  rintro e w3 ⟨rfl, rfl⟩
  have hb3 := hb2
  go_wp2_with fail
  refine (HAD.out _ hb3).mono ?_
  rintro e w4 ⟨rfl, hbx⟩
  have hb4 := hb3.trans (hbx.mono hb3.size)
  clear hbx
  go_wp2_with fail
  refine (HRA.out _ hb4).mono ?_
  rintro e w5 ⟨rfl, hbx⟩
  have hb5 := hb4.trans (hbx.mono hb4.size)
  clear hbx
  go_wp2_with fail
  refine (HPA.out _ hb5).mono ?_
  rintro e w6 ⟨rfl, hb56⟩
  have hb6 := hb5.trans (hb56.mono hb5.size)
  go_wp2_with fail
  refine (HPR.out _ hb6).mono ?_
  rintro e w7 ⟨rfl, hb67⟩
  have hb7 := hb6.trans (hb67.mono hb6.size)
  have H9 := same_any none none 0 0 0 0 [] [] w7 (lks_nil _ _ _) (lks_nil _ _ _) (by omega)
  rw [show Ch.sameL [] [] = true from decide_eq_true ⟨rfl, fun j hj => absurd hj (Nat.not_lt_zero j)⟩] at H9
  have H9 := Lib.hid H9
  go_wp2_with fail
  refine H9.out.mono ?_
  rintro e w8 ⟨rfl, hbx⟩
  have hb8 := hb7.trans (hbx.mono hb7.size)
  go_wp2
  go_ret
  exact ⟨by simp, hb8⟩
set_option maxRecDepth 100000 in
set_option maxHeartbeats 4000000 in
theorem as_bad_b (K : Sh.Cst) (A A' : Option Addr) (n n' c c' : Nat) (L M : List LkV) (node : Int) (B : Option Addr) (m cd : Nat) (w : World) (hL : Lks w w.heap.size A n L) (hM : Lks w w.heap.size A' n' M) (hLd : Laid w) (hnc : n ≤ c) (hnc' : n' ≤ c') (hA : A = none → c = 0) (hA' : A' = none → c' = 0) (hf : ∀ x ∈ L, Ch.fit x) (hf' : ∀ x ∈ M, Ch.fit x) (h1 : Ch.few L = true) (h2 : Ch.few M = true) (h3 : 65536 < m) (E : Int) (hadd : ∀ W, Below w.heap.size w W → Calls Tryd.prog 10 #[.slice A n c, .int .i64 node, .slice B m cd] W fun e w' => e = .returned (.tuple #[.slice none 0 0, .int .i64 E]) ∧ Below W.heap.size W w')
    (hradd : ∀ W, Below w.heap.size w W → Calls Tryd.prog 11 #[.slice A n c, .int .i64 node, .slice B m cd] W fun e w' => e = .returned (.tuple #[.slice none 0 0, .int .i64 E]) ∧ Below W.heap.size W w') :
    Calls Tryd.prog 3 #[.slice A n c, .slice A' n' c', .int .i64 node, .slice B m cd] w fun e w' => e = .returned (.bool true) ∧ Below w.heap.size w w' := by
  have hl1 := (Ch.few_le h1).1
  have hl2 := (Ch.few_le h2).1
  have hLl := hL.len
  have hMl := hM.len
  have HAD := Lib.hid hadd
  have HRA := Lib.hid hradd
  obtain ⟨pr, hpr⟩ : ∃ pr, Ch.part K L M = pr := ⟨_, rfl⟩
  have HPA : Hid (∀ W, Below w.heap.size w W → Calls Tryd.prog 12 #[.slice A n c, .slice A' n' c'] W fun e w' => e = .returned (Ch.partV pr) ∧ Below W.heap.size W w') := by
    show ∀ W, _
    intro W hW
    have := part_any K A A' n n' c c' L M W ((hL.below hW).more hW.size) ((hM.below hW).more hW.size) (by omega) (by omega) hnc hnc' hf hf' (hLd.below hW hLd.size)
    rw [hpr] at this
    exact this
  have HPR : Hid (∀ W, Below w.heap.size w W → Calls Tryd.prog 13 #[.slice A n c, .slice A' n' c'] W fun e w' => e = .returned (Ch.partV pr) ∧ Below W.heap.size W w') := by
    show ∀ W, _
    intro W hW
    have := rpart_any K A A' n n' c c' L M W ((hL.below hW).more hW.size) ((hM.below hW).more hW.size) (by omega) (by omega) hnc hnc' hA hA' hf hf'
    rw [hpr] at this
    exact this
  obtain ⟨pi, po, pe⟩ := pr
  unfold Ch.partV at HPA HPR
  have g0 : (300 : Int) < (m : Int) := by omega
  have g1 : ¬ (m : Int) ≤ 65536 := by omega
  have g2 : (65536 : Int) < (m : Int) := by omega
  clear hadd hradd hpr h3
  have HS := Lib.hid (sane_any K w hLd)
  have HL := Lib.hid hL
  have HM := Lib.hid hM
  have HLd := Lib.hid hLd
  clear hL hM hLd
  go_enter Tryd.func3, Tryd.ntmps3
  go_wp2_with fail
  refine HS.out.mono ?_
  rintro e w1 ⟨rfl, hb1⟩
  have H1 := few_any A n c L w1 ((HL.out.below hb1).more hb1.size)
  rw [h1] at H1
  have H1 := Lib.hid H1
  go_wp2_with fail
  refine H1.out.mono ?_
  rintro e w2 ⟨rfl, rfl⟩
  have hb2 := hb1
  have H2 := few_any A' n' c' M w2 ((HM.out.below hb2).more hb2.size)
  rw [h2] at H2
  have H2 := Lib.hid H2
  go_wp2_with fail
  refine H2.out.mono ?_
  rintro e w3 ⟨rfl, rfl⟩
  have hb3 := hb2
  go_wp2_with fail
  refine (HAD.out _ hb3).mono ?_
  rintro e w4 ⟨rfl, hbx⟩
  have hb4 := hb3.trans (hbx.mono hb3.size)
  clear hbx
  go_wp2_with fail
  refine (HRA.out _ hb4).mono ?_
  rintro e w5 ⟨rfl, hbx⟩
  have hb5 := hb4.trans (hbx.mono hb4.size)
  clear hbx
  go_wp2_with fail
  refine (HPA.out _ hb5).mono ?_
  rintro e w6 ⟨rfl, hb56⟩
  have hb6 := hb5.trans (hb56.mono hb5.size)
  go_wp2_with fail
  refine (HPR.out _ hb6).mono ?_
  rintro e w7 ⟨rfl, hb67⟩
  have hb7 := hb6.trans (hb67.mono hb6.size)
  have H9 := same_any none none 0 0 0 0 [] [] w7 (lks_nil _ _ _) (lks_nil _ _ _) (by omega)
  rw [show Ch.sameL [] [] = true from decide_eq_true ⟨rfl, fun j hj => absurd hj (Nat.not_lt_zero j)⟩] at H9
  have H9 := Lib.hid H9
  go_wp2_with fail
  refine H9.out.mono ?_
  rintro e w8 ⟨rfl, hbx⟩
  have hb8 := hb7.trans (hbx.mono hb7.size)
  go_wp2
  go_ret
  exact ⟨by simp, hb8⟩
set_option maxRecDepth 100000 in
set_option maxHeartbeats 4000000 in
theorem as_ok (K : Sh.Cst) (A A' : Option Addr) (n n' c c' : Nat) (L M : List LkV) (node : Int) (B : Option Addr) (m cd : Nat) (w : World) (hL : Lks w w.heap.size A n L) (hM : Lks w w.heap.size A' n' M) (hLd : Laid w) (hnc : n ≤ c) (hnc' : n' ≤ c') (hA : A = none → c = 0) (hA' : A' = none → c' = 0) (hf : ∀ x ∈ L, Ch.fit x) (hf' : ∀ x ∈ M, Ch.fit x) (h1 : Ch.few L = true) (h2 : Ch.few M = true) (h3 : m ≤ 300) (l : List Int) (hadd : ∀ W, Below w.heap.size w W → Calls Tryd.prog 10 #[.slice A n c, .int .i64 node, .slice B m cd] W fun e w' => ∃ G C A5 c5, e = .returned (.tuple #[.slice G (n + 1) C, .int .i64 0]) ∧ n + 1 ≤ C ∧ C ≤ maxLen ∧ Lks w' w'.heap.size G (n + 1) (L ++ [⟨node, n, Ch.head K L, l, A5, c5⟩]) ∧ Below W.heap.size W w')
    (hradd : ∀ W, Below w.heap.size w W → Calls Tryd.prog 11 #[.slice A n c, .int .i64 node, .slice B m cd] W fun e w' => ∃ G C, e = .returned (.tuple #[.slice G (n + 1) C, .int .i64 0]) ∧ n + 1 ≤ C ∧ C ≤ maxLen ∧ Lks w' w'.heap.size G (n + 1) (L ++ [⟨node, n, Ch.head K L, l, B, cd⟩]) ∧ Below W.heap.size W w') :
    Calls Tryd.prog 3 #[.slice A n c, .slice A' n' c', .int .i64 node, .slice B m cd] w fun e w' => e = .returned (.bool true) ∧ Below w.heap.size w w' := by
  have hl1 := (Ch.few_le h1).1
  have hl2 := (Ch.few_le h2).1
  have hLl := hL.len
  have hMl := hM.len
  have HAD := Lib.hid hadd
  have HRA := Lib.hid hradd
  obtain ⟨pr, hpr⟩ : ∃ pr, Ch.part K L M = pr := ⟨_, rfl⟩
  have HPA : Hid (∀ W, Below w.heap.size w W → Calls Tryd.prog 12 #[.slice A n c, .slice A' n' c'] W fun e w' => e = .returned (Ch.partV pr) ∧ Below W.heap.size W w') := by
    show ∀ W, _
    intro W hW
    have := part_any K A A' n n' c c' L M W ((hL.below hW).more hW.size) ((hM.below hW).more hW.size) (by omega) (by omega) hnc hnc' hf hf' (hLd.below hW hLd.size)
    rw [hpr] at this
    exact this
  have HPR : Hid (∀ W, Below w.heap.size w W → Calls Tryd.prog 13 #[.slice A n c, .slice A' n' c'] W fun e w' => e = .returned (Ch.partV pr) ∧ Below W.heap.size W w') := by
    show ∀ W, _
    intro W hW
    have := rpart_any K A A' n n' c c' L M W ((hL.below hW).more hW.size) ((hM.below hW).more hW.size) (by omega) (by omega) hnc hnc' hA hA' hf hf'
    rw [hpr] at this
    exact this
  obtain ⟨pi, po, pe⟩ := pr
  unfold Ch.partV at HPA HPR
  have g1 : ¬ (300 : Int) < (m : Int) := by omega
  have g2 : (m : Int) ≤ 300 := by omega
  clear hadd hradd hpr h3
  have HS := Lib.hid (sane_any K w hLd)
  have HL := Lib.hid hL
  have HM := Lib.hid hM
  have HLd := Lib.hid hLd
  clear hL hM hLd
  go_enter Tryd.func3, Tryd.ntmps3
  go_wp2_with fail
  refine HS.out.mono ?_
  rintro e w1 ⟨rfl, hb1⟩
  have H1 := few_any A n c L w1 ((HL.out.below hb1).more hb1.size)
  rw [h1] at H1
  have H1 := Lib.hid H1
  go_wp2_with fail
  refine H1.out.mono ?_
  rintro e w2 ⟨rfl, rfl⟩
  have hb2 := hb1
  have H2 := few_any A' n' c' M w2 ((HM.out.below hb2).more hb2.size)
  rw [h2] at H2
  have H2 := Lib.hid H2
  go_wp2_with fail
  refine H2.out.mono ?_
  rintro e w3 ⟨rfl, rfl⟩
  have hb3 := hb2
  go_wp2_with fail
  refine (HAD.out _ hb3).mono ?_
  rintro e w4 ⟨G, C, A5, c5, rfl, hC, _, hLx, hbx⟩
  have hb4 := hb3.trans (hbx.mono hb3.size)
  have HLX := Lib.hid hLx
  clear hbx hLx
  go_wp2_with fail
  refine (HRA.out _ hb4).mono ?_
  rintro e w5 ⟨G', C', rfl, hC', _, hLy, hbx⟩
  have hb5 := hb4.trans (hbx.mono hb4.size)
  have HLX := Lib.hid ((HLX.out.below hbx).more hbx.size)
  have HLY := Lib.hid hLy
  clear hbx hLy
  go_wp2_with fail
  refine (HPA.out _ hb5).mono ?_
  rintro e w6 ⟨rfl, hb56⟩
  have hb6 := hb5.trans (hb56.mono hb5.size)
  go_wp2_with fail
  refine (HPR.out _ hb6).mono ?_
  rintro e w7 ⟨rfl, hb67⟩
  have hb7 := hb6.trans (hb67.mono hb6.size)
  have h57 := hb56.trans (hb67.mono hb56.size)
  have H9 := same_any G G' (n + 1) (n + 1) C C' _ _ w7 ((HLX.out.below h57).more h57.size) ((HLY.out.below h57).more h57.size) (by omega)
  rw [Ch.sameL_snoc (by unfold Ch.sameV; simp)] at H9
  have H9 := Lib.hid H9
  go_wp2_with fail
  refine H9.out.mono ?_
  rintro e w8 ⟨rfl, hbx⟩
  have hb8 := hb7.trans (hbx.mono hb7.size)
  go_wp2
  go_ret
  exact ⟨by simp, hb8⟩
theorem addspec_walk (K : Sh.Cst) (A A' : Option Addr) (n n' c c' : Nat) (L M : List LkV) (node : Int) (B : Option Addr) (m cd : Nat) (l : List Int) (w : World) (hL : Lks w w.heap.size A n L) (hM : Lks w w.heap.size A' n' M) (hr : Rd w w.heap.size 1 B m (l.map (Value.int .u8)))
    (hnc : n ≤ c) (hnc' : n' ≤ c') (hw : ∀ x ∈ L, (-9223372036854775808 ≤ x.node ∧ x.node < 9223372036854775808) ∧ (-9223372036854775808 ≤ x.no ∧ x.no < 9223372036854775808)) (hw' : ∀ x ∈ M, (-9223372036854775808 ≤ x.node ∧ x.node < 9223372036854775808) ∧ (-9223372036854775808 ≤ x.no ∧ x.no < 9223372036854775808))
    (hA : A = none → c = 0) (hA' : A' = none → c' = 0) (hd : l.length = m ∧ m ≤ cd ∧ cd ≤ maxLen ∧ ∀ b ∈ l, 0 ≤ b ∧ b < 256) (hLd : Laid w) :
    Calls Tryd.prog 3 #[.slice A n c, .slice A' n' c', .int .i64 node, .slice B m cd] w fun e w' => e = .returned (.bool true) ∧ Below w.heap.size w w' := by
  obtain ⟨hlm, hmc, hcd, hbl⟩ := hd
  cases h1 : Ch.few L with
  | false => exact as_few1 K A A' n n' c c' L M node B m cd w hL hM hLd h1
  | true =>
    cases h2 : Ch.few M with
    | false => exact as_few2 K A A' n n' c c' L M node B m cd w hL hM hLd h1 h2
    | true =>
      by_cases h3 : 300 < m ∧ m ≤ 65536
      · exact as_mid K A A' n n' c c' L M node B m cd w hL hM hLd h1 h2 h3.1 h3.2
      · have hl1 := (Ch.few_le h1).1
        have hLl := hL.len
        have hn : n ≤ 1000 := by omega
        have hf : ∀ x ∈ L, Ch.fit x := fun x hx => ⟨(hw x hx).1, (hw x hx).2, by have := (Ch.few_le h1).2 x hx; omega⟩
        have hf' : ∀ x ∈ M, Ch.fit x := fun x hx => ⟨(hw' x hx).1, (hw' x hx).2, by have := (Ch.few_le h2).2 x hx; omega⟩
        have hLW : ∀ W, Below w.heap.size w W → Lks W W.heap.size A n L := fun W hW => (hL.below hW).more hW.size
        have hdW : ∀ W, Below w.heap.size w W → Laid W := fun W hW => hLd.below hW hLd.size
        have bad : ∀ E, (∀ W, Below w.heap.size w W → Calls Tryd.prog 10 #[.slice A n c, .int .i64 node, .slice B m cd] W fun e w' => e = .returned (.tuple #[.slice none 0 0, .int .i64 E]) ∧ Below W.heap.size W w') →
            (∀ W, Below w.heap.size w W → Calls Tryd.prog 11 #[.slice A n c, .int .i64 node, .slice B m cd] W fun e w' => e = .returned (.tuple #[.slice none 0 0, .int .i64 E]) ∧ Below W.heap.size W w') → Calls Tryd.prog 3 #[.slice A n c, .slice A' n' c', .int .i64 node, .slice B m cd] w fun e w' => e = .returned (.bool true) ∧ Below w.heap.size w w' := by
          intro E ha hra
          by_cases h4 : m ≤ 300
          · exact as_bad_s K A A' n n' c c' L M node B m cd w hL hM hLd hnc hnc' hA hA' hf hf' h1 h2 h4 E ha hra
          · exact as_bad_b K A A' n n' c c' L M node B m cd w hL hM hLd hnc hnc' hA hA' hf hf' h1 h2 (by omega) E ha hra
        cases h5 : Ch.allB K L with
        | false => exact bad 80 (fun W hW => add_chk K A n c L node B m cd W (hLW W hW) hn hnc hA hf (hdW W hW) h5) (fun W hW => radd_chk K A n c L node B m cd W (hLW W hW) hn hnc hA hf (hdW W hW) h5)
        | true =>
          by_cases h6 : node < 0
          · exact bad 1 (fun W hW => add_neg K A n c L node B m cd W (hLW W hW) hn hnc hA hf (hdW W hW) h5 h6) (fun W hW => radd_neg K A n c L node B m cd W (hLW W hW) hn hnc hA hf (hdW W hW) h5 h6)
          · by_cases h7 : 24 ≤ node
            · exact bad 1 (fun W hW => add_wide K A n c L node B m cd W (hLW W hW) hn hnc hf (hdW W hW) h5 h7) (fun W hW => radd_wide2 K A n c L node B m cd W (hLW W hW) hn hnc hA hf (hdW W hW) h5 h7)
            · by_cases h8 : 0 < n ∧ (Ch.gk L 0).node ≠ node
              · exact bad 1 (fun W hW => add_other K A n c L node B m cd W (hLW W hW) hn hnc hf (hdW W hW) h5 (by omega) (by omega) h8.1 (fun e => h8.2 e.symm)) (fun W hW => radd_other2 K A n c L node B m cd W (hLW W hW) hn hnc hA hf (hdW W hW) h5 (by omega) (by omega) h8.1 h8.2)
              · have hnode : 0 < n → (Ch.gk L 0).node = node := fun h0 => Classical.byContradiction fun hx => h8 ⟨h0, hx⟩
                by_cases h9 : m ≤ 300
                · refine as_ok K A A' n n' c c' L M node B m cd w hL hM hLd hnc hnc' hA hA' hf hf' h1 h2 h9 l (fun W hW => add_ok K A n c L node B m cd l W (hLW W hW) hn hnc hf (hdW W hW) h5 (by omega) (by omega) hnode ((hr.below hW).more hW.size) hbl (by omega)) (fun W hW => ?_)
                  rcases Nat.eq_zero_or_pos n with h0 | h0
                  · exact radd_ok0 K A n c L node B m cd l W (hLW W hW) hn hnc hA hf h5 (by omega) (by omega) hnode ((hr.below hW).more hW.size) hbl hlm (by omega) hmc hcd h0
                  · exact radd_ok1 K A n c L node B m cd l W (hLW W hW) hn hnc hA hf h5 (by omega) (by omega) hnode ((hr.below hW).more hW.size) hbl hlm (by omega) hmc hcd h0
                · rcases Nat.eq_zero_or_pos n with h0 | h0
                  · exact bad 1 (fun W hW => add_big0 K A n c L node B m cd W (hLW W hW) hn hnc hA hf (hdW W hW) h5 (by omega) (by omega) h0 (by omega)) (fun W hW => radd_big0 K A n c L node B m cd W (hLW W hW) hn hnc hA hf (hdW W hW) h5 (by omega) (by omega) h0 (by omega))
                  · exact bad 1 (fun W hW => add_big1 K A n c L node B m cd W (hLW W hW) hn hnc hA hf (hdW W hW) h5 (by omega) (by omega) h0 (hnode h0) (by omega)) (fun W hW => radd_big1 K A n c L node B m cd W (hLW W hW) hn hnc hA hf (hdW W hW) h5 (by omega) (by omega) h0 (hnode h0) (by omega))
section
variable {H : Type} {enc : TypeId × Value → H} {W : World} {base : Nat} {spare : Nat → Bool} {held : Bool}
theorem open_bytes {d : DataW H} {p : List MemPlace} {a : Option Addr} {n c : Nat} (h : DataW.Trod enc Tryd.prog W base spare held 23 (.slice a n c) d p) :
    ∃ z : List Int, Rd W W.heap.size 1 a n (z.map (Value.int .u8)) ∧ z.length = n ∧ n ≤ c ∧ c ≤ maxLen ∧ ∀ b ∈ z, 0 ≤ b ∧ b < 256 := by
  obtain ⟨fuel, hf⟩ := h
  obtain ⟨A, c', z, e, hr, hzc, hcm, hzb⟩ := open_u8s hf
  injection e with e1 e2 e3
  subst e1 e2 e3
  exact ⟨z, hr, rfl, hzc, hcm, hzb⟩
end
end Go.Proofs.YtpjggokaolnbcaaDoor
