/- chain.Add, where it adds (written by gen_ladd.py). -/
import Derived.Test.YtpjggokaolnbcaaDoorLGrow
namespace Go.Proofs.YtpjggokaolnbcaaDoor
open Go.RowKit
attribute [local go_sem] Oper.semAt_some
set_option linter.unusedVariables false
set_option maxRecDepth 100000 in
set_option maxHeartbeats 4000000 in
theorem add_ok (K : Sh.Cst) (A : Option Addr) (n c : Nat) (L : List LkV) (node : Int) (B : Option Addr) (m cd : Nat) (l : List Int) (w : World) (hL : Lks w w.heap.size A n L) (hn : n ≤ 1000) (hnc : n ≤ c) (hf : ∀ x ∈ L, Ch.fit x) (hLd : Laid w)
    (h1 : Ch.allB K L = true) (hn0 : 0 ≤ node) (hn1 : node < 24) (hnode : 0 < n → (Ch.gk L 0).node = node) (hr : Rd w w.heap.size 1 B m (l.map (Value.int .u8))) (hbl : ∀ b ∈ l, 0 ≤ b ∧ b < 256) (hm : m ≤ 2000) :
    Calls Tryd.prog 10 #[.slice A n c, .int .i64 node, .slice B m cd] w fun e w' => ∃ G C A' c', e = .returned (.tuple #[.slice G (n + 1) C, .int .i64 0]) ∧ n + 1 ≤ C ∧ C ≤ maxLen ∧ Lks w' w'.heap.size G (n + 1) (L ++ [⟨node, n, Ch.head K L, l, A', c'⟩]) ∧ Below w.heap.size w w' := by
  have e1 : Ch.chk K L = 0 := by unfold Ch.chk; rw [if_pos h1]
  have HC := Lib.hid (check_any K A n c L w hL hn hnc hf hLd)
  have HH : Hid (∀ w1, Below w.heap.size w w1 → Calls Tryd.prog 15 #[.slice A n c] w1 fun e w' => e = .returned (.agg ((Ch.head K L).map (Value.int .u8)).toArray) ∧ Below w1.heap.size w1 w') :=
    fun w1 hb => head_any K A n c L w1 ((hL.below hb).more hb.size) (by omega) (fun x hx => hf x (List.mem_of_getLast? hx)) (hLd.below hb hLd.size)
  have HK : Hid (∀ w1, Below w.heap.size w w1 → Calls Tryd.prog 20 #[.slice B m cd] w1 fun e w' => ∃ A' c', e = .returned (.slice A' l.length c') ∧ Rd w' w'.heap.size 1 A' l.length (l.map (Value.int .u8)) ∧ l.length ≤ c' ∧ c' ≤ maxLen ∧ Below w1.heap.size w1 w') :=
    fun w1 hb => clone_any B m cd l w1 ((hr.below hb).more hb.size) (by omega)
  rw [e1] at HC
  have hhl := head_len K L
  have hhb : ∀ b ∈ Ch.head K L, 0 ≤ b ∧ b < 256 := head_byt K L
  obtain ⟨U, hU⟩ : ∃ U, Ch.head K L = U := ⟨_, rfl⟩
  rw [hU] at HH hhl hhb ⊢
  have HU := Lib.hid (And.intro hhl hhb)
  have g1 : ¬ node < 0 := by omega
  have g2 : ¬ (24 : Int) ≤ node := by omega
  have g3 : ¬ (65536 : Int) < (m : Int) := by omega
  have g4 : ((n : Int) == 1024) = false := by simp; omega
  have g5 : (0 : Int) ≤ node := hn0
  have HL := Lib.hid hL
  have HBL := Lib.hid hbl
  clear hf hLd hr hhl hhb hU hbl
  have k3 : (m : Int) ≤ 65536 := by omega
  have go : ∀ (h : True), True := fun _ => trivial
  by_cases h0 : n = 0
  · subst h0
    have g5 : ¬ (0 : Int) < ((0 : Nat) : Int) := by simp
    clear hL
    go_enter Tryd.func10, Tryd.ntmps10
    go_wp2_with fail
    refine HC.out.mono ?_
    rintro e w1 ⟨rfl, hb1⟩
    go_wp2_with fail
    refine (HH.out _ hb1).mono ?_
    rintro e w2 ⟨rfl, hb2⟩
    have hb2 := hb1.trans (hb2.mono hb1.size)
    go_wp2_with fail
    refine (HK.out _ hb2).mono ?_
    rintro e w3 ⟨A', c', rfl, hR, hlc, hcm, hb3⟩
    have hb3 := hb2.trans (hb3.mono hb2.size)
    obtain ⟨XS, hXS⟩ : ∃ XS, (⟨node, ((0 : Nat) : Int), U, l, A', c'⟩ : LkV).cells = XS := ⟨_, rfl⟩
    have hbt : Tryd.prog.built 37 [(0, .int .i64 node), (1, .int .i64 ((0 : Nat) : Int)), (2, .agg (U.map (Value.int .u8)).toArray), (3, .slice A' l.length c')] = some XS.toArray := (built_link node ((0 : Nat) : Int) A' l.length c' U HU.out.1).trans (by rw [← hXS]; rfl)
    have hlen : XS.length = 35 := by rw [← hXS]; simp [LkV.cells, HU.out.1]
    have hone : ∀ u ∈ XS, u.oneCell' = true := by rw [← hXS]; exact LkV.one _
    have HI : Hid ((Tryd.prog.info? 37).map (·.size) = some XS.length) := by show _ = _; rw [hlen]; exact info_link
    have HX := Lib.hid (And.intro hXS (And.intro hlen hone))
    clear hXS hlen hone
    rename_i Kx hKx hb3o
    refine hKx _ _ ?_
    refine wpList_build_as rfl 37 #[(0, .tmp 41), (1, .tmp 43), (2, .tmp 45), (3, .tmp 47)] rfl _ (by rfl) _ hbt ?_
    clear hKx
    go_wp2_with (first
      | (refine wpList_store_cells rfl 37 (.tmp 8) (.tmp 48) rfl w3.heap.size XS (by rfl) (by rfl) 37 _ (heap_alloc_new w3 _) (by rw [HX.out.2.1]; rfl) HI.out HX.out.2.2 ?_; intro w4 hR4 hg4)
      | fail)
    have hX4 := hR4.lt
    have hB34 : Below w3.heap.size w3 w4 := ((Below.refl _ w3).alloc (Nat.le_refl _) _).grown hg4 (by simp) (fun k e => by injection e with e; omega)
    have hB4 : Below w.heap.size w w4 := hb3.trans (hB34.mono hb3.size)
    have HC4 : Hid (∀ (j : Nat) (v : Value), XS[j]? = some v → w4.cell? ((⟨w3.heap.size, 0, none⟩ : Addr).add j) = some v) := by
      show ∀ (j : Nat) (v : Value), _
      intro j v hv
      rw [Addr.add_flat, Nat.zero_add]
      exact hR4.cell hv
    rcases A with _ | a
    · skip
      obtain ⟨ie, z, hi, hz, hsz, hzs, hby⟩ := link_info
      refine wp_region_ord (fun _ => True) [(0, true), (1, true), (2, true), (3, true), (4, true), (5, true), (6, false), (7, false), (8, false), (9, true), (10, true)] (by kernel_rfl) (by kernel_rfl) rfl (by kernel_rfl) (fun x _ _ _ _ h => by cases x <;> exact h) trivial ?_
      refine wpOrd_take rfl _ (by rfl) (by intro w' _; go_simp; try with_reducible rfl) fun KK hKK => ?_
      go_simp
      refine hKK _ ?_
      clear hKK KK
      refine wpOrd_take rfl _ (by rfl) (by intro w' _; go_simp; try with_reducible rfl) fun KK hKK => ?_
      go_simp
      refine hKK _ ?_
      clear hKK KK
      refine wpOrd_take rfl _ (by rfl) (by intro w' _; go_simp; try with_reducible rfl) fun KK hKK => ?_
      go_simp
      refine hKK _ ?_
      clear hKK KK
      refine wpOrd_take rfl _ (by rfl) (by intro w' _; go_simp; try with_reducible rfl) fun KK hKK => ?_
      go_simp
      refine hKK _ ?_
      clear hKK KK
      refine wpOrd_take rfl _ (by rfl) (by intro w' _; go_simp; try with_reducible rfl) fun KK hKK => ?_
      go_simp
      refine hKK _ ?_
      clear hKK KK
      refine wpOrd_take rfl _ (by rfl) (by intro w' _; go_simp; try with_reducible rfl) fun KK hKK => ?_
      go_simp
      refine hKK _ ?_
      clear hKK KK
      refine wpOrd_force rfl (by rfl) fun KK hKK => ?_
      refine wp_load_cells 37 (.tmp 8) rfl ⟨w3.heap.size, 0, none⟩ (by rfl) XS _ (fun j v hv => HC4.out j v hv) Tryd.underlying37 (by rfl) HI.out ?_
      go_simp
      refine hKK _ _ trivial ?_
      clear hKK KK
      refine wpOrd_force rfl (by rfl) fun KK hKK => ?_
      refine wp_box_link (.tmp 55) rfl XS (by rfl) HX.out.2.1 ?_
      go_simp
      refine hKK _ _ trivial ?_
      clear hKK KK
      refine wpOrd_force rfl (by rfl) fun KK hKK => ?_
      refine wp_append_grows (.tmp 54) (.tmp 56) 22 rfl 37 ie z 35 72 Tryd.underlying22 hi hz hsz hby hzs (by omega) (none) (0) (0) ([]) (by rfl) (fun _ => ⟨rfl, rfl⟩) rfl (fun b hb => by cases hb) ⟨_, 0, none⟩ 1 1 XS (by rfl) (by rw [HX.out.2.1]) (fun j u hj => by rw [Addr.add_flat, Nat.zero_add]; exact (cell_of_row _ _ j _ _ _ (heap_alloc_new _ _)).trans (by simpa using hj)) HX.out.2.2 (by omega) (by unfold maxLen; omega) (by omega) ?_
      intro v5 w5 hown hg5
      go_simp
      refine hKK _ _ trivial ?_
      clear hKK KK
      refine wpOrd_take rfl _ (by rfl) (by intro w' _; go_simp; try with_reducible rfl) fun KK hKK => ?_
      go_simp
      refine hKK _ ?_
      clear hKK KK
      refine wpOrd_take rfl _ (by rfl) (by intro w' _; go_simp; try with_reducible rfl) fun KK hKK => ?_
      go_simp
      refine hKK _ ?_
      clear hKK KK
      refine wpOrd_nil ?_
      rename_i Kz hKz
      show Kz _ _
      refine hKz _ _ ?_
      have hz4 : w4.heap.size + 1 = (w4.alloc (.cells XS.toArray 37)).drew.heap.size := by simp
      have hB45 : Below w4.heap.size w4 w5 := ((((Below.refl _ w4).drew).alloc (Nat.le_refl _) _)).grown hg5 (by simp) (fun k e => by cases e)
      have hB5 : Below w.heap.size w w5 := hB4.trans (hB45.mono hB4.size)
      have hB35 : Below w3.heap.size w3 w5 := hB34.trans (hB45.mono hB34.size)
      have hok : LkV.ok w5 w5.heap.size ⟨node, ((0 : Nat) : Int), U, l, A', c'⟩ := ⟨HU.out.1, HU.out.2, HBL.out, (hR.below hB35).more hB35.size, hlc, hcm⟩
      rw [← HX.out.1] at hown
      obtain ⟨G, C, rfl, hC, hCm, hLL⟩ := lks_append (L := L) (n := 0) (fun y hy => ((HL.out.all y hy).below hB5).more hB5.size) hok HL.out.len (by have h0 := HL.out.len; obtain rfl : L = [] := List.eq_nil_of_length_eq_zero h0; simpa using hown)
      clear hKz
      go_wp2
      go_ret2
      exact ⟨G, C, A', c', rfl, hC, hCm, hLL, hB5⟩
    · skip
      obtain ⟨ie, z, hi, hz, hsz, hzs, hby⟩ := link_info
      refine wp_region_ord (fun _ => True) [(0, true), (1, true), (2, true), (3, true), (4, true), (5, true), (6, false), (7, false), (8, false), (9, true), (10, true)] (by kernel_rfl) (by kernel_rfl) rfl (by kernel_rfl) (fun x _ _ _ _ h => by cases x <;> exact h) trivial ?_
      refine wpOrd_take rfl _ (by rfl) (by intro w' _; go_simp; try with_reducible rfl) fun KK hKK => ?_
      go_simp
      refine hKK _ ?_
      clear hKK KK
      refine wpOrd_take rfl _ (by rfl) (by intro w' _; go_simp; try with_reducible rfl) fun KK hKK => ?_
      go_simp
      refine hKK _ ?_
      clear hKK KK
      refine wpOrd_take rfl _ (by rfl) (by intro w' _; go_simp; try with_reducible rfl) fun KK hKK => ?_
      go_simp
      refine hKK _ ?_
      clear hKK KK
      refine wpOrd_take rfl _ (by rfl) (by intro w' _; go_simp; try with_reducible rfl) fun KK hKK => ?_
      go_simp
      refine hKK _ ?_
      clear hKK KK
      refine wpOrd_take rfl _ (by rfl) (by intro w' _; go_simp; try with_reducible rfl) fun KK hKK => ?_
      go_simp
      refine hKK _ ?_
      clear hKK KK
      refine wpOrd_take rfl _ (by rfl) (by intro w' _; go_simp; try with_reducible rfl) fun KK hKK => ?_
      go_simp
      refine hKK _ ?_
      clear hKK KK
      refine wpOrd_force rfl (by rfl) fun KK hKK => ?_
      refine wp_load_cells 37 (.tmp 8) rfl ⟨w3.heap.size, 0, none⟩ (by rfl) XS _ (fun j v hv => HC4.out j v hv) Tryd.underlying37 (by rfl) HI.out ?_
      go_simp
      refine hKK _ _ trivial ?_
      clear hKK KK
      refine wpOrd_force rfl (by rfl) fun KK hKK => ?_
      refine wp_box_link (.tmp 55) rfl XS (by rfl) HX.out.2.1 ?_
      go_simp
      refine hKK _ _ trivial ?_
      clear hKK KK
      refine wpOrd_force rfl (by rfl) fun KK hKK => ?_
      refine wp_append_grows (.tmp 54) (.tmp 56) 22 rfl 37 ie z 35 72 Tryd.underlying22 hi hz hsz hby hzs (by omega) (some a) (0) (0) ([]) (by rfl) (fun h => by cases h) rfl (fun b hb j u hj => by simp at hj) ⟨_, 0, none⟩ 1 1 XS (by rfl) (by rw [HX.out.2.1]) (fun j u hj => by rw [Addr.add_flat, Nat.zero_add]; exact (cell_of_row _ _ j _ _ _ (heap_alloc_new _ _)).trans (by simpa using hj)) HX.out.2.2 (by omega) (by unfold maxLen; omega) (by omega) ?_
      intro v5 w5 hown hg5
      go_simp
      refine hKK _ _ trivial ?_
      clear hKK KK
      refine wpOrd_take rfl _ (by rfl) (by intro w' _; go_simp; try with_reducible rfl) fun KK hKK => ?_
      go_simp
      refine hKK _ ?_
      clear hKK KK
      refine wpOrd_take rfl _ (by rfl) (by intro w' _; go_simp; try with_reducible rfl) fun KK hKK => ?_
      go_simp
      refine hKK _ ?_
      clear hKK KK
      refine wpOrd_nil ?_
      rename_i Kz hKz
      show Kz _ _
      refine hKz _ _ ?_
      have hz4 : w4.heap.size + 1 = (w4.alloc (.cells XS.toArray 37)).drew.heap.size := by simp
      have hB45 : Below w4.heap.size w4 w5 := ((((Below.refl _ w4).drew).alloc (Nat.le_refl _) _)).grown hg5 (by simp) (fun k e => by cases e)
      have hB5 : Below w.heap.size w w5 := hB4.trans (hB45.mono hB4.size)
      have hB35 : Below w3.heap.size w3 w5 := hB34.trans (hB45.mono hB34.size)
      have hok : LkV.ok w5 w5.heap.size ⟨node, ((0 : Nat) : Int), U, l, A', c'⟩ := ⟨HU.out.1, HU.out.2, HBL.out, (hR.below hB35).more hB35.size, hlc, hcm⟩
      rw [← HX.out.1] at hown
      obtain ⟨G, C, rfl, hC, hCm, hLL⟩ := lks_append (L := L) (n := 0) (fun y hy => ((HL.out.all y hy).below hB5).more hB5.size) hok HL.out.len (by have h0 := HL.out.len; obtain rfl : L = [] := List.eq_nil_of_length_eq_zero h0; simpa using hown)
      clear hKz
      go_wp2
      go_ret2
      exact ⟨G, C, A', c', rfl, hC, hCm, hLL, hB5⟩
  · obtain ⟨b, o, rfl, hbw, hcell⟩ := lks_head_cell hL (by omega)
    have g6 : (0 : Int) < (n : Int) := by omega
    have hc0 : w.cell? ⟨b, o, none⟩ = some (.int .i64 node) := by rw [← hnode (by omega)]; exact hcell 0 _ rfl
    have holds : ∀ w' : World, Below w.heap.size w w' → ∀ j u, (L.flatMap LkV.cells)[j]? = some u → w'.cell? ((⟨b, o, none⟩ : Addr).add j) = some u := by
      intro w' hb j u hj
      obtain ⟨b1, o1, e, _, hc⟩ := (hL.below hb).rd.2 (by omega)
      injection e with e
      injection e with e2 e3
      subst e2 e3
      rw [Addr.add_flat]
      exact hc j u hj
    have HO := Lib.hid holds
    have HLn := hL.rd.1
    clear hL hcell holds
    go_enter Tryd.func10, Tryd.ntmps10
    go_wp2_with fail
    refine HC.out.mono ?_
    rintro e w1 ⟨rfl, hb1⟩
    have hc1 : w1.cell? ⟨b, o, none⟩ = some (.int .i64 node) := (hb1.cell (p := ⟨b, o, none⟩) hbw).trans hc0
    go_wp2_with fail
    refine (HH.out _ hb1).mono ?_
    rintro e w2 ⟨rfl, hb2⟩
    have hb2 := hb1.trans (hb2.mono hb1.size)
    go_wp2_with fail
    refine (HK.out _ hb2).mono ?_
    rintro e w3 ⟨A', c', rfl, hR, hlc, hcm, hb3⟩
    have hb3 := hb2.trans (hb3.mono hb2.size)
    obtain ⟨XS, hXS⟩ : ∃ XS, (⟨node, ((n : Nat) : Int), U, l, A', c'⟩ : LkV).cells = XS := ⟨_, rfl⟩
    have hbt : Tryd.prog.built 37 [(0, .int .i64 node), (1, .int .i64 ((n : Nat) : Int)), (2, .agg (U.map (Value.int .u8)).toArray), (3, .slice A' l.length c')] = some XS.toArray := (built_link node ((n : Nat) : Int) A' l.length c' U HU.out.1).trans (by rw [← hXS]; rfl)
    have hlen : XS.length = 35 := by rw [← hXS]; simp [LkV.cells, HU.out.1]
    have hone : ∀ u ∈ XS, u.oneCell' = true := by rw [← hXS]; exact LkV.one _
    have HI : Hid ((Tryd.prog.info? 37).map (·.size) = some XS.length) := by show _ = _; rw [hlen]; exact info_link
    have HX := Lib.hid (And.intro hXS (And.intro hlen hone))
    clear hXS hlen hone
    rename_i Kx hKx hb3o
    refine hKx _ _ ?_
    refine wpList_build_as rfl 37 #[(0, .tmp 41), (1, .tmp 43), (2, .tmp 45), (3, .tmp 47)] rfl _ (by rfl) _ hbt ?_
    clear hKx
    go_wp2_with (first
      | (refine wpList_store_cells rfl 37 (.tmp 8) (.tmp 48) rfl w3.heap.size XS (by rfl) (by rfl) 37 _ (heap_alloc_new w3 _) (by rw [HX.out.2.1]; rfl) HI.out HX.out.2.2 ?_; intro w4 hR4 hg4)
      | fail)
    have hX4 := hR4.lt
    have hB34 : Below w3.heap.size w3 w4 := ((Below.refl _ w3).alloc (Nat.le_refl _) _).grown hg4 (by simp) (fun k e => by injection e with e; omega)
    have hB4 : Below w.heap.size w w4 := hb3.trans (hB34.mono hb3.size)
    have HC4 : Hid (∀ (j : Nat) (v : Value), XS[j]? = some v → w4.cell? ((⟨w3.heap.size, 0, none⟩ : Addr).add j) = some v) := by
      show ∀ (j : Nat) (v : Value), _
      intro j v hv
      rw [Addr.add_flat, Nat.zero_add]
      exact hR4.cell hv
    obtain ⟨ie, z, hi, hz, hsz, hzs, hby⟩ := link_info
    refine wp_region_ord (fun _ => True) [(0, true), (1, true), (2, true), (3, true), (4, true), (5, true), (6, false), (7, false), (8, false), (9, true), (10, true)] (by kernel_rfl) (by kernel_rfl) rfl (by kernel_rfl) (fun x _ _ _ _ h => by cases x <;> exact h) trivial ?_
    refine wpOrd_take rfl _ (by rfl) (by intro w' _; go_simp; try with_reducible rfl) fun KK hKK => ?_
    go_simp
    refine hKK _ ?_
    clear hKK KK
    refine wpOrd_take rfl _ (by rfl) (by intro w' _; go_simp; try with_reducible rfl) fun KK hKK => ?_
    go_simp
    refine hKK _ ?_
    clear hKK KK
    refine wpOrd_take rfl _ (by rfl) (by intro w' _; go_simp; try with_reducible rfl) fun KK hKK => ?_
    go_simp
    refine hKK _ ?_
    clear hKK KK
    refine wpOrd_take rfl _ (by rfl) (by intro w' _; go_simp; try with_reducible rfl) fun KK hKK => ?_
    go_simp
    refine hKK _ ?_
    clear hKK KK
    refine wpOrd_take rfl _ (by rfl) (by intro w' _; go_simp; try with_reducible rfl) fun KK hKK => ?_
    go_simp
    refine hKK _ ?_
    clear hKK KK
    refine wpOrd_take rfl _ (by rfl) (by intro w' _; go_simp; try with_reducible rfl) fun KK hKK => ?_
    go_simp
    refine hKK _ ?_
    clear hKK KK
    refine wpOrd_force rfl (by rfl) fun KK hKK => ?_
    refine wp_load_cells 37 (.tmp 8) rfl ⟨w3.heap.size, 0, none⟩ (by rfl) XS _ (fun j v hv => HC4.out j v hv) Tryd.underlying37 (by rfl) HI.out ?_
    go_simp
    refine hKK _ _ trivial ?_
    clear hKK KK
    refine wpOrd_force rfl (by rfl) fun KK hKK => ?_
    refine wp_box_link (.tmp 55) rfl XS (by rfl) HX.out.2.1 ?_
    go_simp
    refine hKK _ _ trivial ?_
    clear hKK KK
    refine wpOrd_force rfl (by rfl) fun KK hKK => ?_
    refine wp_append_grows (.tmp 54) (.tmp 56) 22 rfl 37 ie z 35 72 Tryd.underlying22 hi hz hsz hby hzs (by omega) (some ⟨b, o, none⟩) (n) (n) (L.flatMap LkV.cells) (by rfl) (fun h => by cases h) HLn (fun b1 hb1 j u hj => by injection hb1 with hb1; subst hb1; exact HO.out _ ((hB4.drew).alloc hB4.size _) j u hj) ⟨_, 0, none⟩ 1 1 XS (by rfl) (by rw [HX.out.2.1]) (fun j u hj => by rw [Addr.add_flat, Nat.zero_add]; exact (cell_of_row _ _ j _ _ _ (heap_alloc_new _ _)).trans (by simpa using hj)) HX.out.2.2 (by omega) (by unfold maxLen; omega) (by omega) ?_
    intro v5 w5 hown hg5
    go_simp
    refine hKK _ _ trivial ?_
    clear hKK KK
    refine wpOrd_take rfl _ (by rfl) (by intro w' _; go_simp; try with_reducible rfl) fun KK hKK => ?_
    go_simp
    refine hKK _ ?_
    clear hKK KK
    refine wpOrd_take rfl _ (by rfl) (by intro w' _; go_simp; try with_reducible rfl) fun KK hKK => ?_
    go_simp
    refine hKK _ ?_
    clear hKK KK
    refine wpOrd_nil ?_
    rename_i Kz hKz
    show Kz _ _
    refine hKz _ _ ?_
    have hz4 : w4.heap.size + 1 = (w4.alloc (.cells XS.toArray 37)).drew.heap.size := by simp
    have hB45 : Below w4.heap.size w4 w5 := ((((Below.refl _ w4).drew).alloc (Nat.le_refl _) _)).grown hg5 (by simp) (fun k e => by cases e)
    have hB5 : Below w.heap.size w w5 := hB4.trans (hB45.mono hB4.size)
    have hB35 : Below w3.heap.size w3 w5 := hB34.trans (hB45.mono hB34.size)
    have hok : LkV.ok w5 w5.heap.size ⟨node, ((n : Nat) : Int), U, l, A', c'⟩ := ⟨HU.out.1, HU.out.2, HBL.out, (hR.below hB35).more hB35.size, hlc, hcm⟩
    rw [← HX.out.1] at hown
    obtain ⟨G, C, rfl, hC, hCm, hLL⟩ := lks_append (L := L) (n := n) (fun y hy => ((HL.out.all y hy).below hB5).more hB5.size) hok HL.out.len hown
    clear hKz
    go_wp2
    go_ret2
    exact ⟨G, C, A', c', rfl, hC, hCm, hLL, hB5⟩
end Go.Proofs.YtpjggokaolnbcaaDoor
