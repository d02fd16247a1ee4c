/- ChainParts: the walk, case by case (written by gen_lparts.py). -/
import Derived.Test.YtpjggokaolnbcaaDoorLSane
namespace Go.Proofs.YtpjggokaolnbcaaDoor
open Go.RowKit
attribute [local go_sem] Oper.semAt_some
set_option linter.unusedVariables false
theorem run_to {w : World} (A : Option Addr) (n c m : Nat) (hmc : m ≤ c) (hA : A = none → m = 0 ∧ c = 0) :
    (Instr.slice 22 (.slice A n c) none (some (.int .i64 (m : Int))) none).run Tryd.prog w = .ok (.slice A m c) w := by
  have hm : (m : Int) ≤ (c : Int) := by omega
  obtain ⟨i, hi⟩ := info_of_underlying (P := Tryd.prog) Tryd.underlying37
  cases A with
  | none =>
    obtain ⟨rfl, rfl⟩ := hA rfl
    go_simp
  | some a => go_simp
namespace Ch
theorem sameL_take {L M : List LkV} {m : Nat} (h : sameTo L M m) (hl : m ≤ L.length) (hm : m ≤ M.length) : sameL (L.take m) (M.take m) = true := by
  refine decide_eq_true ⟨by rw [List.length_take, List.length_take]; omega, fun j hj => ?_⟩
  rw [List.length_take] at hj
  rw [gk_take (by omega), gk_take (by omega)]
  exact h j (by omega)
theorem parts_cases (K : Sh.Cst) (L M : List LkV) : part K L M = (0, false, 80) ∨ (part K L M = (0, false, 0) ∧ sameTo L M (min L.length M.length)) ∨
    ∃ k, part K L M = (k, true, 0) ∧ k < min L.length M.length ∧ sameTo L M k ∧ sameV (gk L k) (gk M k) = false := by
  by_cases h : (part K L M).2.2 = 0
  · right
    have e := part_ok h
    cases hd : differ L M with
    | none => rw [hd] at e; exact .inl ⟨e, firstTo_no hd⟩
    | some k => rw [hd] at e; exact .inr ⟨k, e, firstTo_spec hd⟩
  · exact .inl (part_bad h)
theorem few_le {L : List LkV} (h : few L = true) : L.length ≤ 16 ∧ ∀ x ∈ L, x.data.length ≤ 300 := of_decide_eq_true h
end Ch
set_option maxRecDepth 100000 in
set_option maxHeartbeats 4000000 in
theorem parts_few1 (K : Sh.Cst) (A A' : Option Addr) (n n' c c' : Nat) (L M : List LkV) (w : World) (hL : Lks w w.heap.size A n L) (hM : Lks w w.heap.size A' n' M) (hLd : Laid w) (h1 : Ch.few L = false) :
    Calls Tryd.prog 7 #[.slice A n c, .slice A' n' c'] w fun e w' => e = .returned (.bool true) ∧ Below w.heap.size w w' := by
  have HS := Lib.hid (sane_any K w hLd)
  go_enter Tryd.func7, Tryd.ntmps7
  go_wp2_with fail
  refine HS.out.mono ?_
  rintro e w1 ⟨rfl, hb1⟩
  have H1 := few_any A n c L w1 ((hL.below hb1).more hb1.size)
  rw [h1] at H1
  have H1 := Lib.hid H1
  go_wp2_with fail
  refine H1.out.mono ?_
  rintro e w2 ⟨rfl, rfl⟩
  go_wp2
  go_ret
  exact ⟨rfl, hb1⟩
set_option maxRecDepth 100000 in
set_option maxHeartbeats 4000000 in
theorem parts_few2 (K : Sh.Cst) (A A' : Option Addr) (n n' c c' : Nat) (L M : List LkV) (w : World) (hL : Lks w w.heap.size A n L) (hM : Lks w w.heap.size A' n' M) (hLd : Laid w) (h1 : Ch.few L = true) (h2 : Ch.few M = false) :
    Calls Tryd.prog 7 #[.slice A n c, .slice A' n' c'] w fun e w' => e = .returned (.bool true) ∧ Below w.heap.size w w' := by
  have HS := Lib.hid (sane_any K w hLd)
  go_enter Tryd.func7, Tryd.ntmps7
  go_wp2_with fail
  refine HS.out.mono ?_
  rintro e w1 ⟨rfl, hb1⟩
  have H1 := few_any A n c L w1 ((hL.below hb1).more hb1.size)
  rw [h1] at H1
  have H1 := Lib.hid H1
  go_wp2_with fail
  refine H1.out.mono ?_
  rintro e w2 ⟨rfl, rfl⟩
  have H2 := few_any A' n' c' M w2 ((hM.below hb1).more hb1.size)
  rw [h2] at H2
  have H2 := Lib.hid H2
  go_wp2_with fail
  refine H2.out.mono ?_
  rintro e w2 ⟨rfl, rfl⟩
  go_wp2
  go_ret
  exact ⟨rfl, hb1⟩
set_option maxRecDepth 100000 in
set_option maxHeartbeats 4000000 in
theorem parts_bad (K : Sh.Cst) (A A' : Option Addr) (n n' c c' : Nat) (L M : List LkV) (w : World) (hL : Lks w w.heap.size A n L) (hM : Lks w w.heap.size A' n' M) (hnc : n ≤ c) (hnc' : n' ≤ c') (hf : ∀ x ∈ L, Ch.fit x) (hf' : ∀ x ∈ M, Ch.fit x) (hLd : Laid w) (h1 : Ch.few L = true) (h2 : Ch.few M = true) (hp : Ch.part K L M = (0, false, 80)) :
    Calls Tryd.prog 7 #[.slice A n c, .slice A' n' c'] w fun e w' => e = .returned (.bool true) ∧ Below w.heap.size w w' := by
  have hl1 := (Ch.few_le h1).1
  have hl2 := (Ch.few_le h2).1
  have HS := Lib.hid (sane_any K w hLd)
  go_enter Tryd.func7, Tryd.ntmps7
  go_wp2_with fail
  refine HS.out.mono ?_
  rintro e w1 ⟨rfl, hb1⟩
  have H1 := few_any A n c L w1 ((hL.below hb1).more hb1.size)
  rw [h1] at H1
  have H1 := Lib.hid H1
  go_wp2_with fail
  refine H1.out.mono ?_
  rintro e w2 ⟨rfl, rfl⟩
  have H2 := few_any A' n' c' M w2 ((hM.below hb1).more hb1.size)
  rw [h2] at H2
  have H2 := Lib.hid H2
  go_wp2_with fail
  refine H2.out.mono ?_
  rintro e w2 ⟨rfl, rfl⟩
  have H3 := part_any K A A' n n' c c' L M w2 ((hL.below hb1).more hb1.size) ((hM.below hb1).more hb1.size) (by have := hL.len; omega) (by have := hM.len; omega) hnc hnc' hf hf' (hLd.below hb1 hLd.size)
  rw [hp] at H3
  have H3 := Lib.hid H3
  go_wp2_with fail
  refine H3.out.mono ?_
  rintro e w3 ⟨he, hb3⟩
  obtain rfl : e = .returned (.tuple #[.int .i64 0, .bool false, .int .i64 80]) := he
  have hb3 := hb1.trans (hb3.mono hb1.size)
  have H4 := part_any K A' A n' n c' c M L w3 ((hM.below hb3).more hb3.size) ((hL.below hb3).more hb3.size) (by have := hM.len; omega) (by have := hL.len; omega) hnc' hnc hf' hf (hLd.below hb3 hLd.size)
  rw [Ch.part_symm, hp] at H4
  have H4 := Lib.hid H4
  go_wp2_with fail
  refine H4.out.mono ?_
  rintro e w4 ⟨he, hb4⟩
  obtain rfl : e = .returned (.tuple #[.int .i64 0, .bool false, .int .i64 80]) := he
  have hb4 := hb3.trans (hb4.mono hb3.size)
  clear H3 H4
  go_wp2
  go_ret
  exact ⟨rfl, hb4⟩
set_option maxRecDepth 100000 in
set_option maxHeartbeats 4000000 in
theorem parts_same_le (K : Sh.Cst) (A A' : Option Addr) (n n' c c' : Nat) (L M : List LkV) (w : World) (hL : Lks w w.heap.size A n L) (hM : Lks w w.heap.size A' n' M) (hnc : n ≤ c) (hnc' : n' ≤ c') (hf : ∀ x ∈ L, Ch.fit x) (hf' : ∀ x ∈ M, Ch.fit x) (hLd : Laid w) (hA : A = none → c = 0) (hA' : A' = none → c' = 0) (h1 : Ch.few L = true) (h2 : Ch.few M = true) (hp : Ch.part K L M = (0, false, 0)) (hs : Ch.sameTo L M (min L.length M.length)) (hcmp : n ≤ n') :
    Calls Tryd.prog 7 #[.slice A n c, .slice A' n' c'] w fun e w' => e = .returned (.bool true) ∧ Below w.heap.size w w' := by
  have hl1 := (Ch.few_le h1).1
  have hl2 := (Ch.few_le h2).1
  have hcmp' : (n : Int) ≤ (n' : Int) := by omega
  have HS := Lib.hid (sane_any K w hLd)
  go_enter Tryd.func7, Tryd.ntmps7
  go_wp2_with fail
  refine HS.out.mono ?_
  rintro e w1 ⟨rfl, hb1⟩
  have H1 := few_any A n c L w1 ((hL.below hb1).more hb1.size)
  rw [h1] at H1
  have H1 := Lib.hid H1
  go_wp2_with fail
  refine H1.out.mono ?_
  rintro e w2 ⟨rfl, rfl⟩
  have H2 := few_any A' n' c' M w2 ((hM.below hb1).more hb1.size)
  rw [h2] at H2
  have H2 := Lib.hid H2
  go_wp2_with fail
  refine H2.out.mono ?_
  rintro e w2 ⟨rfl, rfl⟩
  have H3 := part_any K A A' n n' c c' L M w2 ((hL.below hb1).more hb1.size) ((hM.below hb1).more hb1.size) (by have := hL.len; omega) (by have := hM.len; omega) hnc hnc' hf hf' (hLd.below hb1 hLd.size)
  rw [hp] at H3
  have H3 := Lib.hid H3
  go_wp2_with fail
  refine H3.out.mono ?_
  rintro e w3 ⟨he, hb3⟩
  obtain rfl : e = .returned (.tuple #[.int .i64 0, .bool false, .int .i64 0]) := he
  have hb3 := hb1.trans (hb3.mono hb1.size)
  have H4 := part_any K A' A n' n c' c M L w3 ((hM.below hb3).more hb3.size) ((hL.below hb3).more hb3.size) (by have := hM.len; omega) (by have := hL.len; omega) hnc' hnc hf' hf (hLd.below hb3 hLd.size)
  rw [Ch.part_symm, hp] at H4
  have H4 := Lib.hid H4
  go_wp2_with fail
  refine H4.out.mono ?_
  rintro e w4 ⟨he, hb4⟩
  obtain rfl : e = .returned (.tuple #[.int .i64 0, .bool false, .int .i64 0]) := he
  have hb4 := hb3.trans (hb4.mono hb3.size)
  clear H3 H4
  have hLl := hL.len
  have hMl := hM.len
  have hS0 : Below w4.heap.size w4 w4.drew := (Below.refl _ _).drew
  have hLz : ∀ W, Below w4.heap.size w4 W → Calls Tryd.prog 14 #[.slice A n c, .slice A' n c'] W fun e w' => e = .returned (.bool true) ∧ Below W.heap.size W w' := by
    intro W hW
    have hLW := hb4.trans (hW.mono hb4.size)
    have := same_any A A' n n c c' (L.take n) (M.take n) W (((hL.below hLW).more hLW.size).take (by omega)) (((hM.below hLW).more hLW.size).take (by omega)) (by omega)
    rw [Ch.sameL_take (by rw [show min L.length M.length = n by omega] at hs; exact hs) (by omega) (by omega)] at this
    exact this
  have r1 := fun w => run_to (w := w) A n c n (by omega) (fun h => ⟨by have := hA h; omega, hA h⟩)
  have r2 := fun w => run_to (w := w) A' n' c' n (by omega) (fun h => ⟨by have := hA' h; omega, hA' h⟩)
  have HZ := Lib.hid hLz
  clear hLz
  go_wp2_with fail
  rename_i Kz hKz
  refine wp_region_ord (fun w' => Below w4.heap.size w4 w') [(0, true), (1, true), (2, true), (3, true), (4, true), (5, true), (6, true), (7, true), (8, true), (9, false), (10, true), (11, true)] (by kernel_rfl) (by kernel_rfl) rfl (by kernel_rfl) (fun x _ _ _ _ h => by cases x <;> exact h) hS0 ?_
  refine wpOrd_take rfl _ (by rfl) (by intro w' _; go_simp; try with_reducible rfl) fun KK hKK => ?_
  go_simp
  refine hKK _ ?_
  clear hKK KK
  refine wpOrd_take rfl _ (by rfl) (by intro w' _; go_simp; try with_reducible rfl) fun KK hKK => ?_
  go_simp
  refine hKK _ ?_
  clear hKK KK
  refine wpOrd_take rfl _ (by rfl) (by intro w' _; go_simp; try with_reducible rfl) fun KK hKK => ?_
  go_simp
  refine hKK _ ?_
  clear hKK KK
  refine wpOrd_take rfl _ (by rfl) (by intro w' _; go_simp; try with_reducible rfl) fun KK hKK => ?_
  go_simp
  refine hKK _ ?_
  clear hKK KK
  refine wpOrd_take rfl _ (by rfl) (by intro w' _; go_simp; try with_reducible rfl) fun KK hKK => ?_
  go_simp
  refine hKK _ ?_
  clear hKK KK
  refine wpOrd_take rfl _ (by rfl) (by intro w' hS; have h1 := r1 w'; go_simp; try with_reducible rfl) fun KK hKK => ?_
  go_simp
  refine hKK _ ?_
  clear hKK KK
  refine wpOrd_take rfl _ (by rfl) (by intro w' _; go_simp; try with_reducible rfl) fun KK hKK => ?_
  go_simp
  refine hKK _ ?_
  clear hKK KK
  refine wpOrd_take rfl _ (by rfl) (by intro w' _; go_simp; try with_reducible rfl) fun KK hKK => ?_
  go_simp
  refine hKK _ ?_
  clear hKK KK
  refine wpOrd_take rfl _ (by rfl) (by intro w' hS; have h1 := r2 w'; go_simp; try with_reducible rfl) fun KK hKK => ?_
  go_simp
  refine hKK _ ?_
  clear hKK KK
  refine wpOrd_force rfl (by rfl) fun KK hKK => ?_
  go_simp
  refine (HZ.out _ hS0).mono ?_
  rintro e w5 ⟨rfl, hb5⟩
  have hS5 : Below w4.heap.size w4 w5 := hS0.trans (hb5.mono hS0.size)
  refine hKK _ _ hS5 ?_
  clear hKK KK
  refine wpOrd_take rfl _ (by rfl) (by intro w' _; go_simp; try with_reducible rfl) fun KK hKK => ?_
  go_simp
  refine hKK _ ?_
  clear hKK KK
  refine wpOrd_take rfl _ (by rfl) (by intro w' _; go_simp; try with_reducible rfl) fun KK hKK => ?_
  go_simp
  refine hKK _ ?_
  clear hKK KK
  refine wpOrd_nil ?_
  show Kz _ _
  refine hKz _ _ ?_
  clear hKz
  go_wp2
  go_ret
  exact ⟨rfl, hb4.trans (hS5.mono hb4.size)⟩
set_option maxRecDepth 100000 in
set_option maxHeartbeats 4000000 in
theorem parts_at_le (K : Sh.Cst) (A A' : Option Addr) (n n' c c' : Nat) (L M : List LkV) (w : World) (hL : Lks w w.heap.size A n L) (hM : Lks w w.heap.size A' n' M) (hnc : n ≤ c) (hnc' : n' ≤ c') (hf : ∀ x ∈ L, Ch.fit x) (hf' : ∀ x ∈ M, Ch.fit x) (hLd : Laid w) (k : Nat) (h1 : Ch.few L = true) (h2 : Ch.few M = true) (hp : Ch.part K L M = (k, true, 0)) (hk : k < min L.length M.length) (hs : Ch.sameTo L M k) (hd : Ch.sameV (Ch.gk L k) (Ch.gk M k) = false) (hcmp : n ≤ n') :
    Calls Tryd.prog 7 #[.slice A n c, .slice A' n' c'] w fun e w' => e = .returned (.bool true) ∧ Below w.heap.size w w' := by
  have hl1 := (Ch.few_le h1).1
  have hl2 := (Ch.few_le h2).1
  have hcmp' : (n : Int) ≤ (n' : Int) := by omega
  have HS := Lib.hid (sane_any K w hLd)
  go_enter Tryd.func7, Tryd.ntmps7
  go_wp2_with fail
  refine HS.out.mono ?_
  rintro e w1 ⟨rfl, hb1⟩
  have H1 := few_any A n c L w1 ((hL.below hb1).more hb1.size)
  rw [h1] at H1
  have H1 := Lib.hid H1
  go_wp2_with fail
  refine H1.out.mono ?_
  rintro e w2 ⟨rfl, rfl⟩
  have H2 := few_any A' n' c' M w2 ((hM.below hb1).more hb1.size)
  rw [h2] at H2
  have H2 := Lib.hid H2
  go_wp2_with fail
  refine H2.out.mono ?_
  rintro e w2 ⟨rfl, rfl⟩
  have H3 := part_any K A A' n n' c c' L M w2 ((hL.below hb1).more hb1.size) ((hM.below hb1).more hb1.size) (by have := hL.len; omega) (by have := hM.len; omega) hnc hnc' hf hf' (hLd.below hb1 hLd.size)
  rw [hp] at H3
  have H3 := Lib.hid H3
  go_wp2_with fail
  refine H3.out.mono ?_
  rintro e w3 ⟨he, hb3⟩
  obtain rfl : e = .returned (.tuple #[.int .i64 (k : Nat), .bool true, .int .i64 0]) := he
  have hb3 := hb1.trans (hb3.mono hb1.size)
  have H4 := part_any K A' A n' n c' c M L w3 ((hM.below hb3).more hb3.size) ((hL.below hb3).more hb3.size) (by have := hM.len; omega) (by have := hL.len; omega) hnc' hnc hf' hf (hLd.below hb3 hLd.size)
  rw [Ch.part_symm, hp] at H4
  have H4 := Lib.hid H4
  go_wp2_with fail
  refine H4.out.mono ?_
  rintro e w4 ⟨he, hb4⟩
  obtain rfl : e = .returned (.tuple #[.int .i64 (k : Nat), .bool true, .int .i64 0]) := he
  have hb4 := hb3.trans (hb4.mono hb3.size)
  clear H3 H4
  have hLl := hL.len
  have hMl := hM.len
  have hkn : k < n := by omega
  have hkn' : k < n' := by omega
  have hS0 : Below w4.heap.size w4 w4.drew := (Below.refl _ _).drew
  have kL := (Ch.gk_mem (L := L) (k := k) (by omega)).2
  have kM := (Ch.gk_mem (L := M) (k := k) (by omega)).2
  obtain ⟨b, o, rfl, hbw, _⟩ := hL.at kL
  obtain ⟨b', o', rfl, hbw', _⟩ := hM.at kM
  have hLz : ∀ W, Below w4.heap.size w4 W → Calls Tryd.prog 14 #[.slice (some ⟨b, o, none⟩) k c, .slice (some ⟨b', o', none⟩) k c'] W fun e w' => e = .returned (.bool true) ∧ Below W.heap.size W w' := by
    intro W hW
    have hLW := hb4.trans (hW.mono hb4.size)
    have := same_any (some ⟨b, o, none⟩) (some ⟨b', o', none⟩) k k c c' (L.take k) (M.take k) W (((hL.below hLW).more hLW.size).take (by omega)) (((hM.below hLW).more hLW.size).take (by omega)) (by omega)
    rw [Ch.sameL_take hs (by omega) (by omega)] at this
    exact this
  have okL := hL.all _ (Ch.gk_mem (L := L) (k := k) (by omega)).1
  have okM := hM.all _ (Ch.gk_mem (L := M) (k := k) (by omega)).1
  have hNz : ∀ W, Below w4.heap.size w4 W → Calls Tryd.prog 18 #[.agg (Ch.gk L k).cells.toArray, .agg (Ch.gk M k).cells.toArray] W fun e w' => e = .returned (.bool false) ∧ Below W.heap.size W w' := by
    intro W hW
    have hLW := hb4.trans (hW.mono hb4.size)
    have := samelink_any (Ch.gk L k) (Ch.gk M k) W ((okL.below hLW).more hLW.size) ((okM.below hLW).more hLW.size)
    rw [hd] at this
    exact this
  have cL : ∀ W, Below w4.heap.size w4 W → ∀ (j : Nat) (v : Value), (Ch.gk L k).cells[j]? = some v → W.cell? ((⟨b, o + k * 35, none⟩ : Addr).add j) = some v := by
    intro W hW j v hj
    have hLW := hb4.trans (hW.mono hb4.size)
    rw [Addr.add_flat]
    exact lks_cell (hL.below hLW) kL j v hj
  have cM : ∀ W, Below w4.heap.size w4 W → ∀ (j : Nat) (v : Value), (Ch.gk M k).cells[j]? = some v → W.cell? ((⟨b', o' + k * 35, none⟩ : Addr).add j) = some v := by
    intro W hW j v hj
    have hLW := hb4.trans (hW.mono hb4.size)
    rw [Addr.add_flat]
    exact lks_cell (hM.below hLW) kM j v hj
  have HI : Hid ((Tryd.prog.info? 37).map (·.size) = some (Ch.gk L k).cells.length) := by show _ = _; rw [LkV.cells_length okL]; exact info_link
  have HI' : Hid ((Tryd.prog.info? 37).map (·.size) = some (Ch.gk M k).cells.length) := by show _ = _; rw [LkV.cells_length okM]; exact info_link
  have r1 := fun w => run_to (w := w) (some ⟨b, o, none⟩) n c k (by omega) (fun h => by cases h)
  have r2 := fun w => run_to (w := w) (some ⟨b', o', none⟩) n' c' k (by omega) (fun h => by cases h)
  have k1 : (k : Int) < (n : Int) := by omega
  have k2 : (k : Int) < (n' : Int) := by omega
  obtain ⟨XL, hXL⟩ : ∃ X, (Ch.gk L k).cells = X := ⟨_, rfl⟩
  obtain ⟨XM, hXM⟩ : ∃ X, (Ch.gk M k).cells = X := ⟨_, rfl⟩
  rw [hXL] at HI cL hNz
  rw [hXM] at HI' cM hNz
  have HZ := Lib.hid hLz
  have HN := Lib.hid hNz
  have HCL := Lib.hid cL
  have HCM := Lib.hid cM
  clear hLz hNz cL cM hXL hXM okL okM
  go_wp2_with fail
  rename_i Kz hKz
  refine wp_region_ord (fun w' => Below w4.heap.size w4 w') [(0, true), (1, true), (2, true), (3, true), (4, true), (5, true), (6, true), (7, true), (8, true), (9, true), (10, true), (11, true), (12, true), (13, true), (14, false), (15, true), (16, true), (17, true), (18, true), (19, true), (20, true), (21, true), (22, true), (23, true), (24, true), (25, false), (26, true), (27, true), (28, true)] (by kernel_rfl) (by kernel_rfl) rfl (by kernel_rfl) (fun x _ _ _ _ h => by cases x <;> exact h) hS0 ?_
  refine wpOrd_take rfl _ (by rfl) (by intro w' _; go_simp; try with_reducible rfl) fun KK hKK => ?_
  go_simp
  refine hKK _ ?_
  clear hKK KK
  refine wpOrd_take rfl _ (by rfl) (by intro w' _; go_simp; try with_reducible rfl) fun KK hKK => ?_
  go_simp
  refine hKK _ ?_
  clear hKK KK
  refine wpOrd_take rfl _ (by rfl) (by intro w' _; go_simp; try with_reducible rfl) fun KK hKK => ?_
  go_simp
  refine hKK _ ?_
  clear hKK KK
  refine wpOrd_take rfl _ (by rfl) (by intro w' _; go_simp; try with_reducible rfl) fun KK hKK => ?_
  go_simp
  refine hKK _ ?_
  clear hKK KK
  refine wpOrd_take rfl _ (by rfl) (by intro w' _; go_simp; try with_reducible rfl) fun KK hKK => ?_
  go_simp
  refine hKK _ ?_
  clear hKK KK
  refine wpOrd_take rfl _ (by rfl) (by intro w' _; go_simp; try with_reducible rfl) fun KK hKK => ?_
  go_simp
  refine hKK _ ?_
  clear hKK KK
  refine wpOrd_take rfl _ (by rfl) (by intro w' _; go_simp; try with_reducible rfl) fun KK hKK => ?_
  go_simp
  refine hKK _ ?_
  clear hKK KK
  refine wpOrd_take rfl _ (by rfl) (by intro w' _; go_simp; try with_reducible rfl) fun KK hKK => ?_
  go_simp
  refine hKK _ ?_
  clear hKK KK
  refine wpOrd_take rfl _ (by rfl) (by intro w' _; go_simp; try with_reducible rfl) fun KK hKK => ?_
  go_simp
  refine hKK _ ?_
  clear hKK KK
  refine wpOrd_take rfl _ (by rfl) (by intro w' _; go_simp; try with_reducible rfl) fun KK hKK => ?_
  go_simp
  refine hKK _ ?_
  clear hKK KK
  refine wpOrd_take rfl _ (by rfl) (by intro w' hS; have h1 := r1 w'; go_simp; try with_reducible rfl) fun KK hKK => ?_
  go_simp
  refine hKK _ ?_
  clear hKK KK
  refine wpOrd_take rfl _ (by rfl) (by intro w' _; go_simp; try with_reducible rfl) fun KK hKK => ?_
  go_simp
  refine hKK _ ?_
  clear hKK KK
  refine wpOrd_take rfl _ (by rfl) (by intro w' _; go_simp; try with_reducible rfl) fun KK hKK => ?_
  go_simp
  refine hKK _ ?_
  clear hKK KK
  refine wpOrd_take rfl _ (by rfl) (by intro w' hS; have h1 := r2 w'; go_simp; try with_reducible rfl) fun KK hKK => ?_
  go_simp
  refine hKK _ ?_
  clear hKK KK
  refine wpOrd_force rfl (by rfl) fun KK hKK => ?_
  go_simp
  refine (HZ.out _ hS0).mono ?_
  rintro e w5 ⟨rfl, hb5⟩
  have hS5 : Below w4.heap.size w4 w5 := hS0.trans (hb5.mono hS0.size)
  refine hKK _ _ hS5 ?_
  clear hKK KK
  refine wpOrd_take rfl _ (by rfl) (by intro w' _; go_simp; try with_reducible rfl) fun KK hKK => ?_
  go_simp
  refine hKK _ ?_
  clear hKK KK
  refine wpOrd_take rfl _ (by rfl) (by intro w' _; go_simp; try with_reducible rfl) fun KK hKK => ?_
  go_simp
  refine hKK _ ?_
  clear hKK KK
  refine wpOrd_take rfl _ (by rfl) (by intro w' _; go_simp; try with_reducible rfl) fun KK hKK => ?_
  go_simp
  refine hKK _ ?_
  clear hKK KK
  refine wpOrd_take rfl _ (by rfl) (by intro w' _; go_simp; try with_reducible rfl) fun KK hKK => ?_
  go_simp
  refine hKK _ ?_
  clear hKK KK
  refine wpOrd_take rfl _ (by rfl) (by intro w' _; go_simp; try with_reducible rfl) fun KK hKK => ?_
  go_simp
  refine hKK _ ?_
  clear hKK KK
  refine wpOrd_take rfl _ (by rfl) (fun w' hS => run_load_exec 37 (.tmp 97) rfl ⟨b, o + k * 35, none⟩ (by rfl) XL _ (HCL.out w' hS) Tryd.underlying37 (by rfl) HI.out) fun KK hKK => ?_
  go_simp
  refine hKK _ ?_
  clear hKK KK
  refine wpOrd_take rfl _ (by rfl) (by intro w' _; go_simp; try with_reducible rfl) fun KK hKK => ?_
  go_simp
  refine hKK _ ?_
  clear hKK KK
  refine wpOrd_take rfl _ (by rfl) (by intro w' _; go_simp; try with_reducible rfl) fun KK hKK => ?_
  go_simp
  refine hKK _ ?_
  clear hKK KK
  refine wpOrd_take rfl _ (by rfl) (by intro w' _; go_simp; try with_reducible rfl) fun KK hKK => ?_
  go_simp
  refine hKK _ ?_
  clear hKK KK
  refine wpOrd_take rfl _ (by rfl) (fun w' hS => run_load_exec 37 (.tmp 101) rfl ⟨b', o' + k * 35, none⟩ (by rfl) XM _ (HCM.out w' hS) Tryd.underlying37 (by rfl) HI'.out) fun KK hKK => ?_
  go_simp
  refine hKK _ ?_
  clear hKK KK
  refine wpOrd_force rfl (by rfl) fun KK hKK => ?_
  go_simp
  refine (HN.out _ hS5).mono ?_
  rintro e w6 ⟨rfl, hb6⟩
  have hS6 : Below w4.heap.size w4 w6 := hS5.trans (hb6.mono hS5.size)
  refine hKK _ _ hS6 ?_
  clear hKK KK
  refine wpOrd_take rfl _ (by rfl) (by intro w' _; go_simp; try with_reducible rfl) fun KK hKK => ?_
  go_simp
  refine hKK _ ?_
  clear hKK KK
  refine wpOrd_take rfl _ (by rfl) (by intro w' _; go_simp; try with_reducible rfl) fun KK hKK => ?_
  go_simp
  refine hKK _ ?_
  clear hKK KK
  refine wpOrd_take rfl _ (by rfl) (by intro w' _; go_simp; try with_reducible rfl) fun KK hKK => ?_
  go_simp
  refine hKK _ ?_
  clear hKK KK
  refine wpOrd_nil ?_
  show Kz _ _
  refine hKz _ _ ?_
  clear hKz
  go_wp2
  go_ret
  exact ⟨rfl, hb4.trans (hS6.mono hb4.size)⟩
set_option maxRecDepth 100000 in
set_option maxHeartbeats 4000000 in
theorem parts_same_gt (K : Sh.Cst) (A A' : Option Addr) (n n' c c' : Nat) (L M : List LkV) (w : World) (hL : Lks w w.heap.size A n L) (hM : Lks w w.heap.size A' n' M) (hnc : n ≤ c) (hnc' : n' ≤ c') (hf : ∀ x ∈ L, Ch.fit x) (hf' : ∀ x ∈ M, Ch.fit x) (hLd : Laid w) (hA : A = none → c = 0) (hA' : A' = none → c' = 0) (h1 : Ch.few L = true) (h2 : Ch.few M = true) (hp : Ch.part K L M = (0, false, 0)) (hs : Ch.sameTo L M (min L.length M.length)) (hcmp : n' < n) :
    Calls Tryd.prog 7 #[.slice A n c, .slice A' n' c'] w fun e w' => e = .returned (.bool true) ∧ Below w.heap.size w w' := by
  have hl1 := (Ch.few_le h1).1
  have hl2 := (Ch.few_le h2).1
  have hcmp' : (n' : Int) < (n : Int) := by omega
  have hcmp2 : ¬ (n : Int) ≤ (n' : Int) := by omega
  have hcmp3 : (n' : Int) ≤ (n : Int) := by omega
  have HS := Lib.hid (sane_any K w hLd)
  go_enter Tryd.func7, Tryd.ntmps7
  go_wp2_with fail
  refine HS.out.mono ?_
  rintro e w1 ⟨rfl, hb1⟩
  have H1 := few_any A n c L w1 ((hL.below hb1).more hb1.size)
  rw [h1] at H1
  have H1 := Lib.hid H1
  go_wp2_with fail
  refine H1.out.mono ?_
  rintro e w2 ⟨rfl, rfl⟩
  have H2 := few_any A' n' c' M w2 ((hM.below hb1).more hb1.size)
  rw [h2] at H2
  have H2 := Lib.hid H2
  go_wp2_with fail
  refine H2.out.mono ?_
  rintro e w2 ⟨rfl, rfl⟩
  have H3 := part_any K A A' n n' c c' L M w2 ((hL.below hb1).more hb1.size) ((hM.below hb1).more hb1.size) (by have := hL.len; omega) (by have := hM.len; omega) hnc hnc' hf hf' (hLd.below hb1 hLd.size)
  rw [hp] at H3
  have H3 := Lib.hid H3
  go_wp2_with fail
  refine H3.out.mono ?_
  rintro e w3 ⟨he, hb3⟩
  obtain rfl : e = .returned (.tuple #[.int .i64 0, .bool false, .int .i64 0]) := he
  have hb3 := hb1.trans (hb3.mono hb1.size)
  have H4 := part_any K A' A n' n c' c M L w3 ((hM.below hb3).more hb3.size) ((hL.below hb3).more hb3.size) (by have := hM.len; omega) (by have := hL.len; omega) hnc' hnc hf' hf (hLd.below hb3 hLd.size)
  rw [Ch.part_symm, hp] at H4
  have H4 := Lib.hid H4
  go_wp2_with fail
  refine H4.out.mono ?_
  rintro e w4 ⟨he, hb4⟩
  obtain rfl : e = .returned (.tuple #[.int .i64 0, .bool false, .int .i64 0]) := he
  have hb4 := hb3.trans (hb4.mono hb3.size)
  clear H3 H4
  have hLl := hL.len
  have hMl := hM.len
  have hS0 : Below w4.heap.size w4 w4.drew := (Below.refl _ _).drew
  have hLz : ∀ W, Below w4.heap.size w4 W → Calls Tryd.prog 14 #[.slice A n' c, .slice A' n' c'] W fun e w' => e = .returned (.bool true) ∧ Below W.heap.size W w' := by
    intro W hW
    have hLW := hb4.trans (hW.mono hb4.size)
    have := same_any A A' n' n' c c' (L.take n') (M.take n') W (((hL.below hLW).more hLW.size).take (by omega)) (((hM.below hLW).more hLW.size).take (by omega)) (by omega)
    rw [Ch.sameL_take (by rw [show min L.length M.length = n' by omega] at hs; exact hs) (by omega) (by omega)] at this
    exact this
  have r1 := fun w => run_to (w := w) A n c n' (by omega) (fun h => ⟨by have := hA h; omega, hA h⟩)
  have r2 := fun w => run_to (w := w) A' n' c' n' (by omega) (fun h => ⟨by have := hA' h; omega, hA' h⟩)
  have HZ := Lib.hid hLz
  clear hLz
  go_wp2_with fail
  rename_i Kz hKz
  refine wp_region_ord (fun w' => Below w4.heap.size w4 w') [(0, true), (1, true), (2, true), (3, true), (4, true), (5, true), (6, true), (7, true), (8, true), (9, false), (10, true), (11, true)] (by kernel_rfl) (by kernel_rfl) rfl (by kernel_rfl) (fun x _ _ _ _ h => by cases x <;> exact h) hS0 ?_
  refine wpOrd_take rfl _ (by rfl) (by intro w' _; go_simp; try with_reducible rfl) fun KK hKK => ?_
  go_simp
  refine hKK _ ?_
  clear hKK KK
  refine wpOrd_take rfl _ (by rfl) (by intro w' _; go_simp; try with_reducible rfl) fun KK hKK => ?_
  go_simp
  refine hKK _ ?_
  clear hKK KK
  refine wpOrd_take rfl _ (by rfl) (by intro w' _; go_simp; try with_reducible rfl) fun KK hKK => ?_
  go_simp
  refine hKK _ ?_
  clear hKK KK
  refine wpOrd_take rfl _ (by rfl) (by intro w' _; go_simp; try with_reducible rfl) fun KK hKK => ?_
  go_simp
  refine hKK _ ?_
  clear hKK KK
  refine wpOrd_take rfl _ (by rfl) (by intro w' _; go_simp; try with_reducible rfl) fun KK hKK => ?_
  go_simp
  refine hKK _ ?_
  clear hKK KK
  refine wpOrd_take rfl _ (by rfl) (by intro w' hS; have h1 := r1 w'; go_simp; try with_reducible rfl) fun KK hKK => ?_
  go_simp
  refine hKK _ ?_
  clear hKK KK
  refine wpOrd_take rfl _ (by rfl) (by intro w' _; go_simp; try with_reducible rfl) fun KK hKK => ?_
  go_simp
  refine hKK _ ?_
  clear hKK KK
  refine wpOrd_take rfl _ (by rfl) (by intro w' _; go_simp; try with_reducible rfl) fun KK hKK => ?_
  go_simp
  refine hKK _ ?_
  clear hKK KK
  refine wpOrd_take rfl _ (by rfl) (by intro w' hS; have h1 := r2 w'; go_simp; try with_reducible rfl) fun KK hKK => ?_
  go_simp
  refine hKK _ ?_
  clear hKK KK
  refine wpOrd_force rfl (by rfl) fun KK hKK => ?_
  go_simp
  refine (HZ.out _ hS0).mono ?_
  rintro e w5 ⟨rfl, hb5⟩
  have hS5 : Below w4.heap.size w4 w5 := hS0.trans (hb5.mono hS0.size)
  refine hKK _ _ hS5 ?_
  clear hKK KK
  refine wpOrd_take rfl _ (by rfl) (by intro w' _; go_simp; try with_reducible rfl) fun KK hKK => ?_
  go_simp
  refine hKK _ ?_
  clear hKK KK
  refine wpOrd_take rfl _ (by rfl) (by intro w' _; go_simp; try with_reducible rfl) fun KK hKK => ?_
  go_simp
  refine hKK _ ?_
  clear hKK KK
  refine wpOrd_nil ?_
  show Kz _ _
  refine hKz _ _ ?_
  clear hKz
  go_wp2
  go_ret
  exact ⟨rfl, hb4.trans (hS5.mono hb4.size)⟩
set_option maxRecDepth 100000 in
set_option maxHeartbeats 4000000 in
theorem parts_at_gt (K : Sh.Cst) (A A' : Option Addr) (n n' c c' : Nat) (L M : List LkV) (w : World) (hL : Lks w w.heap.size A n L) (hM : Lks w w.heap.size A' n' M) (hnc : n ≤ c) (hnc' : n' ≤ c') (hf : ∀ x ∈ L, Ch.fit x) (hf' : ∀ x ∈ M, Ch.fit x) (hLd : Laid w) (k : Nat) (h1 : Ch.few L = true) (h2 : Ch.few M = true) (hp : Ch.part K L M = (k, true, 0)) (hk : k < min L.length M.length) (hs : Ch.sameTo L M k) (hd : Ch.sameV (Ch.gk L k) (Ch.gk M k) = false) (hcmp : n' < n) :
    Calls Tryd.prog 7 #[.slice A n c, .slice A' n' c'] w fun e w' => e = .returned (.bool true) ∧ Below w.heap.size w w' := by
  have hl1 := (Ch.few_le h1).1
  have hl2 := (Ch.few_le h2).1
  have hcmp' : (n' : Int) < (n : Int) := by omega
  have hcmp2 : ¬ (n : Int) ≤ (n' : Int) := by omega
  have hcmp3 : (n' : Int) ≤ (n : Int) := by omega
  have HS := Lib.hid (sane_any K w hLd)
  go_enter Tryd.func7, Tryd.ntmps7
  go_wp2_with fail
  refine HS.out.mono ?_
  rintro e w1 ⟨rfl, hb1⟩
  have H1 := few_any A n c L w1 ((hL.below hb1).more hb1.size)
  rw [h1] at H1
  have H1 := Lib.hid H1
  go_wp2_with fail
  refine H1.out.mono ?_
  rintro e w2 ⟨rfl, rfl⟩
  have H2 := few_any A' n' c' M w2 ((hM.below hb1).more hb1.size)
  rw [h2] at H2
  have H2 := Lib.hid H2
  go_wp2_with fail
  refine H2.out.mono ?_
  rintro e w2 ⟨rfl, rfl⟩
  have H3 := part_any K A A' n n' c c' L M w2 ((hL.below hb1).more hb1.size) ((hM.below hb1).more hb1.size) (by have := hL.len; omega) (by have := hM.len; omega) hnc hnc' hf hf' (hLd.below hb1 hLd.size)
  rw [hp] at H3
  have H3 := Lib.hid H3
  go_wp2_with fail
  refine H3.out.mono ?_
  rintro e w3 ⟨he, hb3⟩
  obtain rfl : e = .returned (.tuple #[.int .i64 (k : Nat), .bool true, .int .i64 0]) := he
  have hb3 := hb1.trans (hb3.mono hb1.size)
  have H4 := part_any K A' A n' n c' c M L w3 ((hM.below hb3).more hb3.size) ((hL.below hb3).more hb3.size) (by have := hM.len; omega) (by have := hL.len; omega) hnc' hnc hf' hf (hLd.below hb3 hLd.size)
  rw [Ch.part_symm, hp] at H4
  have H4 := Lib.hid H4
  go_wp2_with fail
  refine H4.out.mono ?_
  rintro e w4 ⟨he, hb4⟩
  obtain rfl : e = .returned (.tuple #[.int .i64 (k : Nat), .bool true, .int .i64 0]) := he
  have hb4 := hb3.trans (hb4.mono hb3.size)
  clear H3 H4
  have hLl := hL.len
  have hMl := hM.len
  have hkn : k < n := by omega
  have hkn' : k < n' := by omega
  have hS0 : Below w4.heap.size w4 w4.drew := (Below.refl _ _).drew
  have kL := (Ch.gk_mem (L := L) (k := k) (by omega)).2
  have kM := (Ch.gk_mem (L := M) (k := k) (by omega)).2
  obtain ⟨b, o, rfl, hbw, _⟩ := hL.at kL
  obtain ⟨b', o', rfl, hbw', _⟩ := hM.at kM
  have hLz : ∀ W, Below w4.heap.size w4 W → Calls Tryd.prog 14 #[.slice (some ⟨b, o, none⟩) k c, .slice (some ⟨b', o', none⟩) k c'] W fun e w' => e = .returned (.bool true) ∧ Below W.heap.size W w' := by
    intro W hW
    have hLW := hb4.trans (hW.mono hb4.size)
    have := same_any (some ⟨b, o, none⟩) (some ⟨b', o', none⟩) k k c c' (L.take k) (M.take k) W (((hL.below hLW).more hLW.size).take (by omega)) (((hM.below hLW).more hLW.size).take (by omega)) (by omega)
    rw [Ch.sameL_take hs (by omega) (by omega)] at this
    exact this
  have okL := hL.all _ (Ch.gk_mem (L := L) (k := k) (by omega)).1
  have okM := hM.all _ (Ch.gk_mem (L := M) (k := k) (by omega)).1
  have hNz : ∀ W, Below w4.heap.size w4 W → Calls Tryd.prog 18 #[.agg (Ch.gk L k).cells.toArray, .agg (Ch.gk M k).cells.toArray] W fun e w' => e = .returned (.bool false) ∧ Below W.heap.size W w' := by
    intro W hW
    have hLW := hb4.trans (hW.mono hb4.size)
    have := samelink_any (Ch.gk L k) (Ch.gk M k) W ((okL.below hLW).more hLW.size) ((okM.below hLW).more hLW.size)
    rw [hd] at this
    exact this
  have cL : ∀ W, Below w4.heap.size w4 W → ∀ (j : Nat) (v : Value), (Ch.gk L k).cells[j]? = some v → W.cell? ((⟨b, o + k * 35, none⟩ : Addr).add j) = some v := by
    intro W hW j v hj
    have hLW := hb4.trans (hW.mono hb4.size)
    rw [Addr.add_flat]
    exact lks_cell (hL.below hLW) kL j v hj
  have cM : ∀ W, Below w4.heap.size w4 W → ∀ (j : Nat) (v : Value), (Ch.gk M k).cells[j]? = some v → W.cell? ((⟨b', o' + k * 35, none⟩ : Addr).add j) = some v := by
    intro W hW j v hj
    have hLW := hb4.trans (hW.mono hb4.size)
    rw [Addr.add_flat]
    exact lks_cell (hM.below hLW) kM j v hj
  have HI : Hid ((Tryd.prog.info? 37).map (·.size) = some (Ch.gk L k).cells.length) := by show _ = _; rw [LkV.cells_length okL]; exact info_link
  have HI' : Hid ((Tryd.prog.info? 37).map (·.size) = some (Ch.gk M k).cells.length) := by show _ = _; rw [LkV.cells_length okM]; exact info_link
  have r1 := fun w => run_to (w := w) (some ⟨b, o, none⟩) n c k (by omega) (fun h => by cases h)
  have r2 := fun w => run_to (w := w) (some ⟨b', o', none⟩) n' c' k (by omega) (fun h => by cases h)
  have k1 : (k : Int) < (n : Int) := by omega
  have k2 : (k : Int) < (n' : Int) := by omega
  obtain ⟨XL, hXL⟩ : ∃ X, (Ch.gk L k).cells = X := ⟨_, rfl⟩
  obtain ⟨XM, hXM⟩ : ∃ X, (Ch.gk M k).cells = X := ⟨_, rfl⟩
  rw [hXL] at HI cL hNz
  rw [hXM] at HI' cM hNz
  have HZ := Lib.hid hLz
  have HN := Lib.hid hNz
  have HCL := Lib.hid cL
  have HCM := Lib.hid cM
  clear hLz hNz cL cM hXL hXM okL okM
  go_wp2_with fail
  rename_i Kz hKz
  refine wp_region_ord (fun w' => Below w4.heap.size w4 w') [(0, true), (1, true), (2, true), (3, true), (4, true), (5, true), (6, true), (7, true), (8, true), (9, true), (10, true), (11, true), (12, true), (13, true), (14, false), (15, true), (16, true), (17, true), (18, true), (19, true), (20, true), (21, true), (22, true), (23, true), (24, true), (25, false), (26, true), (27, true), (28, true)] (by kernel_rfl) (by kernel_rfl) rfl (by kernel_rfl) (fun x _ _ _ _ h => by cases x <;> exact h) hS0 ?_
  refine wpOrd_take rfl _ (by rfl) (by intro w' _; go_simp; try with_reducible rfl) fun KK hKK => ?_
  go_simp
  refine hKK _ ?_
  clear hKK KK
  refine wpOrd_take rfl _ (by rfl) (by intro w' _; go_simp; try with_reducible rfl) fun KK hKK => ?_
  go_simp
  refine hKK _ ?_
  clear hKK KK
  refine wpOrd_take rfl _ (by rfl) (by intro w' _; go_simp; try with_reducible rfl) fun KK hKK => ?_
  go_simp
  refine hKK _ ?_
  clear hKK KK
  refine wpOrd_take rfl _ (by rfl) (by intro w' _; go_simp; try with_reducible rfl) fun KK hKK => ?_
  go_simp
  refine hKK _ ?_
  clear hKK KK
  refine wpOrd_take rfl _ (by rfl) (by intro w' _; go_simp; try with_reducible rfl) fun KK hKK => ?_
  go_simp
  refine hKK _ ?_
  clear hKK KK
  refine wpOrd_take rfl _ (by rfl) (by intro w' _; go_simp; try with_reducible rfl) fun KK hKK => ?_
  go_simp
  refine hKK _ ?_
  clear hKK KK
  refine wpOrd_take rfl _ (by rfl) (by intro w' _; go_simp; try with_reducible rfl) fun KK hKK => ?_
  go_simp
  refine hKK _ ?_
  clear hKK KK
  refine wpOrd_take rfl _ (by rfl) (by intro w' _; go_simp; try with_reducible rfl) fun KK hKK => ?_
  go_simp
  refine hKK _ ?_
  clear hKK KK
  refine wpOrd_take rfl _ (by rfl) (by intro w' _; go_simp; try with_reducible rfl) fun KK hKK => ?_
  go_simp
  refine hKK _ ?_
  clear hKK KK
  refine wpOrd_take rfl _ (by rfl) (by intro w' _; go_simp; try with_reducible rfl) fun KK hKK => ?_
  go_simp
  refine hKK _ ?_
  clear hKK KK
  refine wpOrd_take rfl _ (by rfl) (by intro w' hS; have h1 := r1 w'; go_simp; try with_reducible rfl) fun KK hKK => ?_
  go_simp
  refine hKK _ ?_
  clear hKK KK
  refine wpOrd_take rfl _ (by rfl) (by intro w' _; go_simp; try with_reducible rfl) fun KK hKK => ?_
  go_simp
  refine hKK _ ?_
  clear hKK KK
  refine wpOrd_take rfl _ (by rfl) (by intro w' _; go_simp; try with_reducible rfl) fun KK hKK => ?_
  go_simp
  refine hKK _ ?_
  clear hKK KK
  refine wpOrd_take rfl _ (by rfl) (by intro w' hS; have h1 := r2 w'; go_simp; try with_reducible rfl) fun KK hKK => ?_
  go_simp
  refine hKK _ ?_
  clear hKK KK
  refine wpOrd_force rfl (by rfl) fun KK hKK => ?_
  go_simp
  refine (HZ.out _ hS0).mono ?_
  rintro e w5 ⟨rfl, hb5⟩
  have hS5 : Below w4.heap.size w4 w5 := hS0.trans (hb5.mono hS0.size)
  refine hKK _ _ hS5 ?_
  clear hKK KK
  refine wpOrd_take rfl _ (by rfl) (by intro w' _; go_simp; try with_reducible rfl) fun KK hKK => ?_
  go_simp
  refine hKK _ ?_
  clear hKK KK
  refine wpOrd_take rfl _ (by rfl) (by intro w' _; go_simp; try with_reducible rfl) fun KK hKK => ?_
  go_simp
  refine hKK _ ?_
  clear hKK KK
  refine wpOrd_take rfl _ (by rfl) (by intro w' _; go_simp; try with_reducible rfl) fun KK hKK => ?_
  go_simp
  refine hKK _ ?_
  clear hKK KK
  refine wpOrd_take rfl _ (by rfl) (by intro w' _; go_simp; try with_reducible rfl) fun KK hKK => ?_
  go_simp
  refine hKK _ ?_
  clear hKK KK
  refine wpOrd_take rfl _ (by rfl) (by intro w' _; go_simp; try with_reducible rfl) fun KK hKK => ?_
  go_simp
  refine hKK _ ?_
  clear hKK KK
  refine wpOrd_take rfl _ (by rfl) (fun w' hS => run_load_exec 37 (.tmp 97) rfl ⟨b, o + k * 35, none⟩ (by rfl) XL _ (HCL.out w' hS) Tryd.underlying37 (by rfl) HI.out) fun KK hKK => ?_
  go_simp
  refine hKK _ ?_
  clear hKK KK
  refine wpOrd_take rfl _ (by rfl) (by intro w' _; go_simp; try with_reducible rfl) fun KK hKK => ?_
  go_simp
  refine hKK _ ?_
  clear hKK KK
  refine wpOrd_take rfl _ (by rfl) (by intro w' _; go_simp; try with_reducible rfl) fun KK hKK => ?_
  go_simp
  refine hKK _ ?_
  clear hKK KK
  refine wpOrd_take rfl _ (by rfl) (by intro w' _; go_simp; try with_reducible rfl) fun KK hKK => ?_
  go_simp
  refine hKK _ ?_
  clear hKK KK
  refine wpOrd_take rfl _ (by rfl) (fun w' hS => run_load_exec 37 (.tmp 101) rfl ⟨b', o' + k * 35, none⟩ (by rfl) XM _ (HCM.out w' hS) Tryd.underlying37 (by rfl) HI'.out) fun KK hKK => ?_
  go_simp
  refine hKK _ ?_
  clear hKK KK
  refine wpOrd_force rfl (by rfl) fun KK hKK => ?_
  go_simp
  refine (HN.out _ hS5).mono ?_
  rintro e w6 ⟨rfl, hb6⟩
  have hS6 : Below w4.heap.size w4 w6 := hS5.trans (hb6.mono hS5.size)
  refine hKK _ _ hS6 ?_
  clear hKK KK
  refine wpOrd_take rfl _ (by rfl) (by intro w' _; go_simp; try with_reducible rfl) fun KK hKK => ?_
  go_simp
  refine hKK _ ?_
  clear hKK KK
  refine wpOrd_take rfl _ (by rfl) (by intro w' _; go_simp; try with_reducible rfl) fun KK hKK => ?_
  go_simp
  refine hKK _ ?_
  clear hKK KK
  refine wpOrd_take rfl _ (by rfl) (by intro w' _; go_simp; try with_reducible rfl) fun KK hKK => ?_
  go_simp
  refine hKK _ ?_
  clear hKK KK
  refine wpOrd_nil ?_
  show Kz _ _
  refine hKz _ _ ?_
  clear hKz
  go_wp2
  go_ret
  exact ⟨rfl, hb4.trans (hS6.mono hb4.size)⟩
theorem parts_walk (K : Sh.Cst) (A A' : Option Addr) (n n' c c' : Nat) (L M : List LkV) (w : World) (hL : Lks w w.heap.size A n L) (hM : Lks w w.heap.size A' n' M) (hnc : n ≤ c) (hnc' : n' ≤ c') (hw : ∀ x ∈ L, (-9223372036854775808 ≤ x.node ∧ x.node < 9223372036854775808) ∧ (-9223372036854775808 ≤ x.no ∧ x.no < 9223372036854775808))
    (hw' : ∀ x ∈ M, (-9223372036854775808 ≤ x.node ∧ x.node < 9223372036854775808) ∧ (-9223372036854775808 ≤ x.no ∧ x.no < 9223372036854775808)) (hA : A = none → c = 0) (hA' : A' = none → c' = 0) (hLd : Laid w) :
    Calls Tryd.prog 7 #[.slice A n c, .slice A' n' c'] w fun e w' => e = .returned (.bool true) ∧ Below w.heap.size w w' := by
  cases h1 : Ch.few L with
  | false => exact parts_few1 K A A' n n' c c' L M w hL hM hLd h1
  | true =>
    cases h2 : Ch.few M with
    | false => exact parts_few2 K A A' n n' c c' L M w hL hM hLd h1 h2
    | true =>
      have hf : ∀ x ∈ L, Ch.fit x := fun x hx => ⟨(hw x hx).1, (hw x hx).2, by have := (Ch.few_le h1).2 x hx; omega⟩
      have hf' : ∀ x ∈ M, Ch.fit x := fun x hx => ⟨(hw' x hx).1, (hw' x hx).2, by have := (Ch.few_le h2).2 x hx; omega⟩
      rcases Ch.parts_cases K L M with hp | ⟨hp, hs⟩ | ⟨k, hp, hk, hs, hd⟩
      · exact parts_bad K A A' n n' c c' L M w hL hM hnc hnc' hf hf' hLd h1 h2 hp
      · rcases Nat.lt_or_ge n' n with hc | hc
        · exact parts_same_gt K A A' n n' c c' L M w hL hM hnc hnc' hf hf' hLd hA hA' h1 h2 hp hs hc
        · exact parts_same_le K A A' n n' c c' L M w hL hM hnc hnc' hf hf' hLd hA hA' h1 h2 hp hs hc
      · rcases Nat.lt_or_ge n' n with hc | hc
        · exact parts_at_gt K A A' n n' c c' L M w hL hM hnc hnc' hf hf' hLd k h1 h2 hp hk hs hd hc
        · exact parts_at_le K A A' n n' c c' L M w hL hM hnc hnc' hf hf' hLd k h1 h2 hp hk hs hd hc
end Go.Proofs.YtpjggokaolnbcaaDoor
