/- The reference's Head and Check of a chain (written by gen_lrefcheck.py). -/
import Derived.Test.YtpjggokaolnbcaaDoorLRefText
import Derived.Test.YtpjggokaolnbcaaDoorLPartsWalk
import Derived.Test.YtpjggokaolnbcaaDoorRefTag
namespace Go.Proofs.YtpjggokaolnbcaaDoor
open Go.RowKit
attribute [local go_sem] Oper.semAt_some
set_option linter.unusedVariables false
set_option maxRecDepth 100000 in
set_option maxHeartbeats 4000000 in
theorem rhead_any (K : Sh.Cst) (A : Option Addr) (n c : Nat) (L : List LkV) (w : World) (h : Lks w w.heap.size A n L) (hn : n ≤ 1000000) (hf : ∀ x, L.getLast? = some x → Ch.fit x) :
    Calls Tryd.prog 22 #[.slice A n c] w fun e w' => e = .returned (.agg ((Ch.head K L).map (Value.int .u8)).toArray) ∧ Below w.heap.size w w' := by
  have hText : ∀ W, Below w.heap.size w W → Calls Tryd.prog 31 #[.slice A n c] W fun e w' => ∃ (s : ByteArray) (T : List Int) (A' : Option Addr) (c' : Nat), e = .returned (.tuple #[.string s, .slice A' T.length c']) ∧ Ch.head K L = Sh.tagged K (strInts s) T ∧ s.size ≤ 1000 ∧ T.length ≤ 10000 ∧ (∀ b ∈ T, 0 ≤ b ∧ b < 256) ∧ Rd w' w'.heap.size 1 A' T.length (T.map (Value.int .u8)) ∧ T.length ≤ c' ∧ c' ≤ maxLen ∧ Below W.heap.size W w' := by
    intro W hW
    rcases Nat.eq_zero_or_pos n with h0 | h0
    · subst h0
      obtain rfl : L = [] := List.eq_nil_of_length_eq_zero h.len
      refine (rtext_none A c W).mono ?_
      rintro e w' ⟨rfl, rfl⟩
      exact ⟨Ch.noneS, [], none, 0, rfl, rfl, by decide, Nat.zero_le _, (fun b hb => by cases hb), rd_nil _ _ _ _, Nat.le_refl _, Nat.zero_le _, Below.refl _ _⟩
    · obtain ⟨k, hk⟩ : ∃ k, n = k + 1 := ⟨n - 1, by omega⟩
      have hg := Ch.gk_mem (L := L) (k := k) (by rw [h.len]; omega)
      have hlast : L.getLast? = some (Ch.gk L k) := by rw [List.getLast?_eq_getElem?, h.len, hk, Nat.add_sub_cancel]; exact hg.2
      obtain ⟨b, o, rfl, hb, hc⟩ := h.at hg.2
      have hfx := hf _ hlast
      have hok := (h.all _ hg.1)
      refine (rtext_link (Ch.gk L k) b o n k c W hk hn (fun i v hv => (hW.cell (p := ⟨b, o + k * 35 + i, none⟩) hb).trans (hc i v hv)) ((hok.below hW).more hW.size) hfx).mono ?_
      rintro e w' ⟨A', c', he, hR, h1, h2, h3⟩
      exact ⟨Ch.linkS, Ch.text (Ch.gk L k), A', c', he, by unfold Ch.head; rw [hlast], by decide, Ch.text_length hfx hok.plen, Ch.text_bytes _, hR, h1, h2, h3⟩
  have hl := head_len K L
  obtain ⟨U, hU⟩ : ∃ U, Ch.head K L = U := ⟨_, rfl⟩
  rw [hU] at hText hl ⊢
  have HT := Lib.hid hText
  have HUl := Lib.hid hl
  have hD := Ints.new w 35 .u8 (List.replicate 32 0)
  have hB := (Below.refl w.heap.size w).alloc (Nat.le_refl _) (.cells ((List.replicate 32 (0 : Int)).map (Value.int .u8)).toArray 35)
  have HF := Lib.hid (And.intro hD hB)
  have HI : Hid ((Tryd.prog.info? 35).map (·.size) = some U.length) := by show _ = _; rw [hl]; kernel_rfl
  clear hText hl hU hD hB h hf
  go_enter Tryd.func22, Tryd.ntmps22
  go_wp2_with fail
  obtain ⟨hD, hB⟩ := HF.out
  refine (HT.out _ hB).mono ?_
  rintro e w1 ⟨s, T, A', c', rfl, hhead, hs, hTl, hTb, hR, h1, h2, hb1⟩
  have hD1 := hD.below hb1 hD.lt
  have hB1 := hB.trans (hb1.mono hB.size)
  have ht := rtagged_any K s A' T.length c' T w1 hs hR hTb (by omega) h1 h2
  rw [← hhead] at ht
  have HTT := Lib.hid ht
  obtain ⟨m, hm⟩ : ∃ m, T.length = m := ⟨_, rfl⟩
  rw [hm] at HTT ⊢
  clear HF hD hB hb1 hhead ht hR hTb hm HT
  go_wp2_with fail
  refine HTT.out.mono ?_
  rintro e w2 ⟨rfl, hb2⟩
  have hD2 := hD1.below hb2 hD1.lt
  have hB2 := hB1.trans (hb2.mono hB1.size)
  clear HTT hD1 hB1 hb2
  go_wp2_with (refine wpList_store_ints rfl 35 (.tmp 2) (.tmp 12) rfl w.heap.size .u8 U (by rfl) (by rfl) 35 _ hD2 (by rw [HUl.out]; rfl) HI.out ?_; intro w6 hD6 hg6)
  refine bodyPost_ret (results_cell_row rfl _ _ w.heap.size 35 _ (0, 0) _ (by rfl) hD6 Tryd.underlying35 (by rfl) (by simpa using HI.out)) rfl ?_
  exact ⟨rfl, hB2.grown hg6 hB2.size (fun g e => by injection e with e; omega)⟩
theorem rnot_all {K : Sh.Cst} {L : List LkV} {k : Nat} (hk : k < L.length) (h : Ch.passB K L k k = false) : Ch.allB K L = false := by
  cases ha : Ch.allB K L with
  | false => rfl
  | true => rw [Ch.allB_iff.1 ha k hk] at h; cases h
set_option maxRecDepth 100000 in
set_option maxHeartbeats 8000000 in
theorem rcheck_any (K : Sh.Cst) (A : Option Addr) (n c : Nat) (L : List LkV) (w : World) (hL : Lks w w.heap.size A n L) (hn : n ≤ 1000) (hnc : n ≤ c) (hA : A = none → c = 0) (hf : ∀ x ∈ L, Ch.fit x) :
    Calls Tryd.prog 21 #[.slice A n c] w fun e w' => e = .returned (.int .i64 (Ch.chk K L)) ∧ Below w.heap.size w w' := by
  have hn1 : ¬ (1024 : Int) < (n : Int) := by omega
  have hn2 : (n : Int) ≤ 1000 := by omega
  have HL := Lib.hid hL
  have HF := Lib.hid hf
  have HLL := Lib.hid hL.len
  clear hL hf
  go_enter Tryd.func21, Tryd.ntmps21
  go_wp2
  go_loopw [3] (fun i wr => ∃ k : Nat, k ≤ n ∧ i = .int .i64 k ∧ (∀ j, j < k → Ch.passB K L j j = true) ∧ Below w.heap.size w wr) (fun i _ => n - (intOf i).toNat)
  case atStart => exact ⟨0, Nat.zero_le _, rfl, fun j hj => absurd hj (by omega), Below.refl _ _⟩
  case round =>
    obtain ⟨k, hk, rfl, hu, hbr⟩ := hrel
    have HU := Lib.hid hu
    have HBR := Lib.hid hbr
    clear hu hbr
    by_cases hlt : k < n
    · have kL := Ch.gk_mem (L := L) (k := k) (by rw [HLL.out]; exact hlt)
      have k0 := Ch.gk_mem (L := L) (k := 0) (by rw [HLL.out]; omega)
      have okx := (HL.out.all _ kL.1)
      obtain ⟨b, o, rfl, hbw, hcell⟩ := HL.out.at kL.2
      have hLr := (HL.out.below HBR.out).more HBR.out.size
      have g1 : (k : Int) < (n : Int) := by omega
      have g0 : (0 : Int) ≤ (k : Int) := by omega
      have gn : (0 : Int) < (n : Int) := by omega
      have gnn : 0 < n := by omega
      have hcx : ∀ (j : Nat) (v : Value), (Ch.gk L k).cells[j]? = some v → wr.cell? ((⟨b, o + k * 35, none⟩ : Addr).add j) = some v := fun j v hj => by
        rw [Addr.add_flat]; exact lks_cell (HL.out.below HBR.out) kL.2 j v hj
      have c00 : wr.cell? ⟨b, o, none⟩ = some (.int .i64 (Ch.gk L 0).node) := by
        have := lks_cell (HL.out.below HBR.out) k0.2 0 _ (LkV.cell_n _)
        simpa using this
      have hpass : Ch.passB K L k k = decide ((Ch.gk L k).node = (Ch.gk L 0).node ∧ 0 ≤ (Ch.gk L k).node ∧ (Ch.gk L k).node < 24 ∧ (Ch.gk L k).no = (k : Int) ∧ (Ch.gk L k).data.length ≤ 65536 ∧ (Ch.gk L k).prev = Ch.head K (L.take k)) := rfl
      have hhd : ∀ W, Below w.heap.size w W → Calls Tryd.prog 22 #[.slice (some ⟨b, o, none⟩) k c] W fun e w' => e = .returned (.agg ((Ch.head K (L.take k)).map (Value.int .u8)).toArray) ∧ Below W.heap.size W w' := fun W hW =>
        rhead_any K (some ⟨b, o, none⟩) k c (L.take k) W (((HL.out.below hW).more hW.size).take (by omega)) (by omega) (fun x hx => HF.out x (List.mem_of_mem_take (List.mem_of_getLast? hx)))
      have hhl := head_len K (L.take k)
      have c0 := (Ch.gk L k).cell_n
      have c1 := (Ch.gk L k).cell_o
      have cd := (Ch.gk L k).cell_d okx.plen
      have hone := (Ch.gk L k).one
      have hlen := LkV.cells_length okx
      have hpl := okx.plen
      have hp := ints_cells (w := wr) (g := b) (o := o + k * 35 + 2) (k := .u8) (l := (Ch.gk L k).prev) (fun i hi => by
        rw [hpl] at hi
        have h := lks_cell (HL.out.below HBR.out) kL.2 (2 + i) _ (LkV.cell_p _ hpl i hi)
        rwa [← Nat.add_assoc] at h)
      have hp2 : ∀ i, i < 32 → (Ch.gk L k).cells[2 + i]? = some (.int .u8 ((Ch.gk L k).prev.getD i 0)) := fun i hi => LkV.cell_p _ hpl i hi
      obtain ⟨X, hX⟩ : ∃ X, (Ch.gk L k).cells = X := ⟨_, rfl⟩
      obtain ⟨N, hN⟩ : ∃ N, (Ch.gk L k).node = N := ⟨_, rfl⟩
      obtain ⟨N0, hN0⟩ : ∃ N, (Ch.gk L 0).node = N := ⟨_, rfl⟩
      obtain ⟨O, hO⟩ : ∃ N, (Ch.gk L k).no = N := ⟨_, rfl⟩
      obtain ⟨dl, hdl⟩ : ∃ N, (Ch.gk L k).data.length = N := ⟨_, rfl⟩
      obtain ⟨P, hP⟩ : ∃ N, (Ch.gk L k).prev = N := ⟨_, rfl⟩
      obtain ⟨H, hH⟩ : ∃ N, Ch.head K (L.take k) = N := ⟨_, rfl⟩
      obtain ⟨dA, hdA⟩ : ∃ N, (Ch.gk L k).A = N := ⟨_, rfl⟩
      obtain ⟨dc, hdc⟩ : ∃ N, (Ch.gk L k).c = N := ⟨_, rfl⟩
      rw [hX] at hcx c0 c1 cd hone hlen hp2
      rw [hN] at c0 hpass
      rw [hN0] at c00 hpass
      rw [hO] at c1 hpass
      rw [hdl] at cd hpass
      rw [hdA, hdc] at cd
      rw [hP] at hp2 hpl hpass
      rw [hH] at hhd hhl hpass
      have heq := fun w => equal_digest w P H hpl hhl
      have HI : Hid ((Tryd.prog.info? 37).map (·.size) = some X.length) := by show _ = _; rw [hlen]; exact info_link
      have HID : Hid ((Tryd.prog.info? 35).map (·.size) = some (P.map (Value.int .u8)).length) := by show _ = _; rw [List.length_map, hpl]; kernel_rfl
      have HCX := Lib.hid hcx
      have HXX := Lib.hid (And.intro hone hlen)
      have HHD := Lib.hid hhd
      have HPS := Lib.hid hpass
      have HCC := Lib.hid (And.intro c0 (And.intro c1 (And.intro cd hp2)))
      have r1 := fun w => run_to (w := w) (some ⟨b, o, none⟩) n c k (by omega) (fun h => by cases h)
      have hbw2 : b < wr.heap.size := Nat.lt_of_lt_of_le hbw HBR.out.size
      clear hcx hone hlen hhd hpass c0 c1 cd hp2 hp hX hN hN0 hO hdl hP hH hdA hdc okx hcell hLr kL k0 hhl hpl
      by_cases q0 : N < 0
      · skip
        have e0 : decide (N < 0) = true := decide_eq_true q0
        have HD := Lib.hid (And.intro e0 (And.intro True.intro (And.intro True.intro (And.intro True.intro True.intro))))
        clear e0
        have hps : Ch.passB K L k k = false := by rw [HPS.out]; exact decide_eq_false fun h => by have := h.2.1; omega
        have HCHK : Hid (Ch.chk K L = 80) := by show _ = _; unfold Ch.chk; rw [if_neg (by rw [rnot_all (by rw [HLL.out]; exact hlt) hps]; simp)]
        clear hps HPS
        go_wp2_with (first
          | (refine wpList_load_cells rfl 37 (.tmp 16) rfl ⟨b, o + k * 35, none⟩ (by rfl) X _ HCX.out Tryd.underlying37 (by rfl) HI.out ?_)
          | (refine wpList_store_cells rfl 37 (.tmp 4) (.tmp 17) rfl wr.heap.size X (by rfl) (by rfl) 37 _ (heap_alloc_new wr _) (by rw [HXX.out.2]; rfl) HI.out HXX.out.1 ?_; intro w2 hR2 hg2)
          | fail)
        rename_i Kz hKz
        have hB2 : Below wr.heap.size wr w2 := ((Below.refl _ wr).alloc (Nat.le_refl _) _).grown hg2 (by simp) (fun k e => by injection e with e; omega)
        have hX2 := hR2.lt
        have hS0 : Below w2.heap.size w2 w2.drew := (Below.refl _ _).drew
        have hQ : ∀ W, Below w2.heap.size w2 W → W.cell? ⟨wr.heap.size, 0, none⟩ = some (.int .i64 N) ∧ W.cell? ⟨wr.heap.size, 1, none⟩ = some (.int .i64 O) ∧ W.cell? ⟨wr.heap.size, 34, none⟩ = some (.slice dA dl dc) ∧ W.cell? ⟨b, o, none⟩ = some (.int .i64 N0) := fun W hW =>
          ⟨(hR2.below hW hX2).cell HCC.out.1, (hR2.below hW hX2).cell HCC.out.2.1, (hR2.below hW hX2).cell HCC.out.2.2.1, (hW.cell (p := ⟨b, o, none⟩) (Nat.lt_of_lt_of_le hbw2 hB2.size)).trans ((hB2.cell (p := ⟨b, o, none⟩) hbw2).trans c00)⟩
        have hPr : ∀ W, Below w2.heap.size w2 W → ∀ (j : Nat) (v : Value), (P.map (Value.int .u8))[j]? = some v → W.cell? ((⟨wr.heap.size, 2, none⟩ : Addr).add j) = some v := fun W hW => ints_cells (fun i hi => (hR2.below hW hX2).cell (HCC.out.2.2.2 i (by have h1 := HID.out; have h2 : (Tryd.prog.info? 35).map (·.size) = some 32 := (by kernel_rfl); rw [h2] at h1; have h3 : (32 : Nat) = (P.map (Value.int .u8)).length := Option.some.inj h1; rw [List.length_map] at h3; omega)))
        have HQ := Lib.hid hQ
        have HPR := Lib.hid hPr
        have HB2 := Lib.hid (HBR.out.trans (hB2.mono HBR.out.size))
        clear hQ hPr hB2 hR2 hg2
        refine wp_region_ord (fun w' => Below w2.heap.size w2 w') [(0, true), (1, true), (2, true), (3, true), (4, true), (5, true), (6, true), (7, true), (8, true), (9, true), (10, true), (11, true), (12, true), (13, true), (14, true), (15, true), (16, true), (17, true), (18, true), (19, true), (20, true), (21, true), (22, true), (23, true), (24, true), (25, true), (26, true), (27, true), (28, true), (29, true), (30, true), (31, true), (32, true), (33, true), (34, true), (35, true), (36, true), (37, true)] (by kernel_rfl) (by kernel_rfl) rfl (by kernel_rfl) (fun x _ _ _ _ h => by cases x <;> exact h) hS0 ?_
        refine wpOrd_take rfl _ (by rfl) (by intro w' hS; obtain ⟨h1, h2, h3, h4⟩ := HQ.out w' hS; obtain ⟨d0, d1, d2, d3, d4⟩ := HD.out; go_simp; try with_reducible rfl) fun KK hKK => ?_
        go_simp
        refine hKK _ ?_
        clear hKK KK
        refine wpOrd_take rfl _ (by rfl) (by intro w' hS; obtain ⟨h1, h2, h3, h4⟩ := HQ.out w' hS; obtain ⟨d0, d1, d2, d3, d4⟩ := HD.out; go_simp; try with_reducible rfl) fun KK hKK => ?_
        go_simp
        refine hKK _ ?_
        clear hKK KK
        refine wpOrd_take rfl _ (by rfl) (by intro w' hS; obtain ⟨h1, h2, h3, h4⟩ := HQ.out w' hS; obtain ⟨d0, d1, d2, d3, d4⟩ := HD.out; go_simp; try with_reducible rfl) fun KK hKK => ?_
        go_simp
        refine hKK _ ?_
        clear hKK KK
        refine wpOrd_take rfl _ (by rfl) (by intro w' hS; obtain ⟨h1, h2, h3, h4⟩ := HQ.out w' hS; obtain ⟨d0, d1, d2, d3, d4⟩ := HD.out; go_simp; try with_reducible rfl) fun KK hKK => ?_
        go_simp
        refine hKK _ ?_
        clear hKK KK
        refine wpOrd_skip rfl (by rfl) fun KK hKK => ?_
        go_simp
        refine hKK _ ?_
        clear hKK KK
        refine wpOrd_skip rfl (by rfl) fun KK hKK => ?_
        go_simp
        refine hKK _ ?_
        clear hKK KK
        refine wpOrd_skip rfl (by rfl) fun KK hKK => ?_
        go_simp
        refine hKK _ ?_
        clear hKK KK
        refine wpOrd_take rfl _ (by rfl) (by intro w' hS; obtain ⟨h1, h2, h3, h4⟩ := HQ.out w' hS; obtain ⟨d0, d1, d2, d3, d4⟩ := HD.out; go_simp; try with_reducible rfl) fun KK hKK => ?_
        go_simp
        refine hKK _ ?_
        clear hKK KK
        refine wpOrd_take rfl _ (by rfl) (by intro w' hS; obtain ⟨h1, h2, h3, h4⟩ := HQ.out w' hS; obtain ⟨d0, d1, d2, d3, d4⟩ := HD.out; go_simp; try with_reducible rfl) fun KK hKK => ?_
        go_simp
        refine hKK _ ?_
        clear hKK KK
        refine wpOrd_skip rfl (by rfl) fun KK hKK => ?_
        go_simp
        refine hKK _ ?_
        clear hKK KK
        refine wpOrd_skip rfl (by rfl) fun KK hKK => ?_
        go_simp
        refine hKK _ ?_
        clear hKK KK
        refine wpOrd_skip rfl (by rfl) fun KK hKK => ?_
        go_simp
        refine hKK _ ?_
        clear hKK KK
        refine wpOrd_skip rfl (by rfl) fun KK hKK => ?_
        go_simp
        refine hKK _ ?_
        clear hKK KK
        refine wpOrd_skip rfl (by rfl) fun KK hKK => ?_
        go_simp
        refine hKK _ ?_
        clear hKK KK
        refine wpOrd_skip rfl (by rfl) fun KK hKK => ?_
        go_simp
        refine hKK _ ?_
        clear hKK KK
        refine wpOrd_skip rfl (by rfl) fun KK hKK => ?_
        go_simp
        refine hKK _ ?_
        clear hKK KK
        refine wpOrd_take rfl _ (by rfl) (by intro w' hS; obtain ⟨h1, h2, h3, h4⟩ := HQ.out w' hS; obtain ⟨d0, d1, d2, d3, d4⟩ := HD.out; go_simp; try with_reducible rfl) fun KK hKK => ?_
        go_simp
        refine hKK _ ?_
        clear hKK KK
        refine wpOrd_take rfl _ (by rfl) (by intro w' hS; obtain ⟨h1, h2, h3, h4⟩ := HQ.out w' hS; obtain ⟨d0, d1, d2, d3, d4⟩ := HD.out; go_simp; try with_reducible rfl) fun KK hKK => ?_
        go_simp
        refine hKK _ ?_
        clear hKK KK
        refine wpOrd_skip rfl (by rfl) fun KK hKK => ?_
        go_simp
        refine hKK _ ?_
        clear hKK KK
        refine wpOrd_skip rfl (by rfl) fun KK hKK => ?_
        go_simp
        refine hKK _ ?_
        clear hKK KK
        refine wpOrd_skip rfl (by rfl) fun KK hKK => ?_
        go_simp
        refine hKK _ ?_
        clear hKK KK
        refine wpOrd_skip rfl (by rfl) fun KK hKK => ?_
        go_simp
        refine hKK _ ?_
        clear hKK KK
        refine wpOrd_take rfl _ (by rfl) (by intro w' hS; obtain ⟨h1, h2, h3, h4⟩ := HQ.out w' hS; obtain ⟨d0, d1, d2, d3, d4⟩ := HD.out; go_simp; try with_reducible rfl) fun KK hKK => ?_
        go_simp
        refine hKK _ ?_
        clear hKK KK
        refine wpOrd_take rfl _ (by rfl) (by intro w' hS; obtain ⟨h1, h2, h3, h4⟩ := HQ.out w' hS; obtain ⟨d0, d1, d2, d3, d4⟩ := HD.out; go_simp; try with_reducible rfl) fun KK hKK => ?_
        go_simp
        refine hKK _ ?_
        clear hKK KK
        refine wpOrd_skip rfl (by rfl) fun KK hKK => ?_
        go_simp
        refine hKK _ ?_
        clear hKK KK
        refine wpOrd_skip rfl (by rfl) fun KK hKK => ?_
        go_simp
        refine hKK _ ?_
        clear hKK KK
        refine wpOrd_skip rfl (by rfl) fun KK hKK => ?_
        go_simp
        refine hKK _ ?_
        clear hKK KK
        refine wpOrd_skip rfl (by rfl) fun KK hKK => ?_
        go_simp
        refine hKK _ ?_
        clear hKK KK
        refine wpOrd_take rfl _ (by rfl) (by intro w' hS; obtain ⟨h1, h2, h3, h4⟩ := HQ.out w' hS; obtain ⟨d0, d1, d2, d3, d4⟩ := HD.out; go_simp; try with_reducible rfl) fun KK hKK => ?_
        go_simp
        refine hKK _ ?_
        clear hKK KK
        refine wpOrd_take rfl _ (by rfl) (by intro w' hS; obtain ⟨h1, h2, h3, h4⟩ := HQ.out w' hS; obtain ⟨d0, d1, d2, d3, d4⟩ := HD.out; go_simp; try with_reducible rfl) fun KK hKK => ?_
        go_simp
        refine hKK _ ?_
        clear hKK KK
        refine wpOrd_skip rfl (by rfl) fun KK hKK => ?_
        go_simp
        refine hKK _ ?_
        clear hKK KK
        refine wpOrd_skip rfl (by rfl) fun KK hKK => ?_
        go_simp
        refine hKK _ ?_
        clear hKK KK
        refine wpOrd_skip rfl (by rfl) fun KK hKK => ?_
        go_simp
        refine hKK _ ?_
        clear hKK KK
        refine wpOrd_skip rfl (by rfl) fun KK hKK => ?_
        go_simp
        refine hKK _ ?_
        clear hKK KK
        refine wpOrd_skip rfl (by rfl) fun KK hKK => ?_
        go_simp
        refine hKK _ ?_
        clear hKK KK
        refine wpOrd_skip rfl (by rfl) fun KK hKK => ?_
        go_simp
        refine hKK _ ?_
        clear hKK KK
        refine wpOrd_skip rfl (by rfl) fun KK hKK => ?_
        go_simp
        refine hKK _ ?_
        clear hKK KK
        refine wpOrd_take rfl _ (by rfl) (by intro w' hS; obtain ⟨h1, h2, h3, h4⟩ := HQ.out w' hS; obtain ⟨d0, d1, d2, d3, d4⟩ := HD.out; go_simp; try with_reducible rfl) fun KK hKK => ?_
        go_simp
        refine hKK _ ?_
        clear hKK KK
        refine wpOrd_nil ?_
        show Kz _ _
        refine hKz _ _ ?_
        clear hKz
        go_wp2
        go_ret
        exact ⟨by rw [HCHK.out]; rfl, HB2.out.trans (hS0.mono HB2.out.size)⟩
      have p0 : 0 ≤ N := by omega
      by_cases q1 : 24 ≤ N
      · skip
        have e0 : decide (N < 0) = false := decide_eq_false q0
        have e1 : decide (24 ≤ N) = true := decide_eq_true q1
        have HD := Lib.hid (And.intro e0 (And.intro e1 (And.intro True.intro (And.intro True.intro True.intro))))
        clear e0
        clear e1
        have hps : Ch.passB K L k k = false := by rw [HPS.out]; exact decide_eq_false fun h => by have := h.2.2.1; omega
        have HCHK : Hid (Ch.chk K L = 80) := by show _ = _; unfold Ch.chk; rw [if_neg (by rw [rnot_all (by rw [HLL.out]; exact hlt) hps]; simp)]
        clear hps HPS
        go_wp2_with (first
          | (refine wpList_load_cells rfl 37 (.tmp 16) rfl ⟨b, o + k * 35, none⟩ (by rfl) X _ HCX.out Tryd.underlying37 (by rfl) HI.out ?_)
          | (refine wpList_store_cells rfl 37 (.tmp 4) (.tmp 17) rfl wr.heap.size X (by rfl) (by rfl) 37 _ (heap_alloc_new wr _) (by rw [HXX.out.2]; rfl) HI.out HXX.out.1 ?_; intro w2 hR2 hg2)
          | fail)
        rename_i Kz hKz
        have hB2 : Below wr.heap.size wr w2 := ((Below.refl _ wr).alloc (Nat.le_refl _) _).grown hg2 (by simp) (fun k e => by injection e with e; omega)
        have hX2 := hR2.lt
        have hS0 : Below w2.heap.size w2 w2.drew := (Below.refl _ _).drew
        have hQ : ∀ W, Below w2.heap.size w2 W → W.cell? ⟨wr.heap.size, 0, none⟩ = some (.int .i64 N) ∧ W.cell? ⟨wr.heap.size, 1, none⟩ = some (.int .i64 O) ∧ W.cell? ⟨wr.heap.size, 34, none⟩ = some (.slice dA dl dc) ∧ W.cell? ⟨b, o, none⟩ = some (.int .i64 N0) := fun W hW =>
          ⟨(hR2.below hW hX2).cell HCC.out.1, (hR2.below hW hX2).cell HCC.out.2.1, (hR2.below hW hX2).cell HCC.out.2.2.1, (hW.cell (p := ⟨b, o, none⟩) (Nat.lt_of_lt_of_le hbw2 hB2.size)).trans ((hB2.cell (p := ⟨b, o, none⟩) hbw2).trans c00)⟩
        have hPr : ∀ W, Below w2.heap.size w2 W → ∀ (j : Nat) (v : Value), (P.map (Value.int .u8))[j]? = some v → W.cell? ((⟨wr.heap.size, 2, none⟩ : Addr).add j) = some v := fun W hW => ints_cells (fun i hi => (hR2.below hW hX2).cell (HCC.out.2.2.2 i (by have h1 := HID.out; have h2 : (Tryd.prog.info? 35).map (·.size) = some 32 := (by kernel_rfl); rw [h2] at h1; have h3 : (32 : Nat) = (P.map (Value.int .u8)).length := Option.some.inj h1; rw [List.length_map] at h3; omega)))
        have HQ := Lib.hid hQ
        have HPR := Lib.hid hPr
        have HB2 := Lib.hid (HBR.out.trans (hB2.mono HBR.out.size))
        clear hQ hPr hB2 hR2 hg2
        refine wp_region_ord (fun w' => Below w2.heap.size w2 w') [(0, true), (1, true), (2, true), (3, true), (4, true), (5, true), (6, true), (7, true), (8, true), (9, true), (10, true), (11, true), (12, true), (13, true), (14, true), (15, true), (16, true), (17, true), (18, true), (19, true), (20, true), (21, true), (22, true), (23, true), (24, true), (25, true), (26, true), (27, true), (28, true), (29, true), (30, true), (31, true), (32, true), (33, true), (34, true), (35, true), (36, true), (37, true)] (by kernel_rfl) (by kernel_rfl) rfl (by kernel_rfl) (fun x _ _ _ _ h => by cases x <;> exact h) hS0 ?_
        refine wpOrd_take rfl _ (by rfl) (by intro w' hS; obtain ⟨h1, h2, h3, h4⟩ := HQ.out w' hS; obtain ⟨d0, d1, d2, d3, d4⟩ := HD.out; go_simp; try with_reducible rfl) fun KK hKK => ?_
        go_simp
        refine hKK _ ?_
        clear hKK KK
        refine wpOrd_take rfl _ (by rfl) (by intro w' hS; obtain ⟨h1, h2, h3, h4⟩ := HQ.out w' hS; obtain ⟨d0, d1, d2, d3, d4⟩ := HD.out; go_simp; try with_reducible rfl) fun KK hKK => ?_
        go_simp
        refine hKK _ ?_
        clear hKK KK
        refine wpOrd_take rfl _ (by rfl) (by intro w' hS; obtain ⟨h1, h2, h3, h4⟩ := HQ.out w' hS; obtain ⟨d0, d1, d2, d3, d4⟩ := HD.out; go_simp; try with_reducible rfl) fun KK hKK => ?_
        go_simp
        refine hKK _ ?_
        clear hKK KK
        refine wpOrd_take rfl _ (by rfl) (by intro w' hS; obtain ⟨h1, h2, h3, h4⟩ := HQ.out w' hS; obtain ⟨d0, d1, d2, d3, d4⟩ := HD.out; go_simp; try with_reducible rfl) fun KK hKK => ?_
        go_simp
        refine hKK _ ?_
        clear hKK KK
        refine wpOrd_take rfl _ (by rfl) (by intro w' hS; obtain ⟨h1, h2, h3, h4⟩ := HQ.out w' hS; obtain ⟨d0, d1, d2, d3, d4⟩ := HD.out; go_simp; try with_reducible rfl) fun KK hKK => ?_
        go_simp
        refine hKK _ ?_
        clear hKK KK
        refine wpOrd_take rfl _ (by rfl) (by intro w' hS; obtain ⟨h1, h2, h3, h4⟩ := HQ.out w' hS; obtain ⟨d0, d1, d2, d3, d4⟩ := HD.out; go_simp; try with_reducible rfl) fun KK hKK => ?_
        go_simp
        refine hKK _ ?_
        clear hKK KK
        refine wpOrd_take rfl _ (by rfl) (by intro w' hS; obtain ⟨h1, h2, h3, h4⟩ := HQ.out w' hS; obtain ⟨d0, d1, d2, d3, d4⟩ := HD.out; go_simp; try with_reducible rfl) fun KK hKK => ?_
        go_simp
        refine hKK _ ?_
        clear hKK KK
        refine wpOrd_take rfl _ (by rfl) (by intro w' hS; obtain ⟨h1, h2, h3, h4⟩ := HQ.out w' hS; obtain ⟨d0, d1, d2, d3, d4⟩ := HD.out; go_simp; try with_reducible rfl) fun KK hKK => ?_
        go_simp
        refine hKK _ ?_
        clear hKK KK
        refine wpOrd_take rfl _ (by rfl) (by intro w' hS; obtain ⟨h1, h2, h3, h4⟩ := HQ.out w' hS; obtain ⟨d0, d1, d2, d3, d4⟩ := HD.out; go_simp; try with_reducible rfl) fun KK hKK => ?_
        go_simp
        refine hKK _ ?_
        clear hKK KK
        refine wpOrd_skip rfl (by rfl) fun KK hKK => ?_
        go_simp
        refine hKK _ ?_
        clear hKK KK
        refine wpOrd_skip rfl (by rfl) fun KK hKK => ?_
        go_simp
        refine hKK _ ?_
        clear hKK KK
        refine wpOrd_skip rfl (by rfl) fun KK hKK => ?_
        go_simp
        refine hKK _ ?_
        clear hKK KK
        refine wpOrd_skip rfl (by rfl) fun KK hKK => ?_
        go_simp
        refine hKK _ ?_
        clear hKK KK
        refine wpOrd_skip rfl (by rfl) fun KK hKK => ?_
        go_simp
        refine hKK _ ?_
        clear hKK KK
        refine wpOrd_skip rfl (by rfl) fun KK hKK => ?_
        go_simp
        refine hKK _ ?_
        clear hKK KK
        refine wpOrd_skip rfl (by rfl) fun KK hKK => ?_
        go_simp
        refine hKK _ ?_
        clear hKK KK
        refine wpOrd_take rfl _ (by rfl) (by intro w' hS; obtain ⟨h1, h2, h3, h4⟩ := HQ.out w' hS; obtain ⟨d0, d1, d2, d3, d4⟩ := HD.out; go_simp; try with_reducible rfl) fun KK hKK => ?_
        go_simp
        refine hKK _ ?_
        clear hKK KK
        refine wpOrd_take rfl _ (by rfl) (by intro w' hS; obtain ⟨h1, h2, h3, h4⟩ := HQ.out w' hS; obtain ⟨d0, d1, d2, d3, d4⟩ := HD.out; go_simp; try with_reducible rfl) fun KK hKK => ?_
        go_simp
        refine hKK _ ?_
        clear hKK KK
        refine wpOrd_skip rfl (by rfl) fun KK hKK => ?_
        go_simp
        refine hKK _ ?_
        clear hKK KK
        refine wpOrd_skip rfl (by rfl) fun KK hKK => ?_
        go_simp
        refine hKK _ ?_
        clear hKK KK
        refine wpOrd_skip rfl (by rfl) fun KK hKK => ?_
        go_simp
        refine hKK _ ?_
        clear hKK KK
        refine wpOrd_skip rfl (by rfl) fun KK hKK => ?_
        go_simp
        refine hKK _ ?_
        clear hKK KK
        refine wpOrd_take rfl _ (by rfl) (by intro w' hS; obtain ⟨h1, h2, h3, h4⟩ := HQ.out w' hS; obtain ⟨d0, d1, d2, d3, d4⟩ := HD.out; go_simp; try with_reducible rfl) fun KK hKK => ?_
        go_simp
        refine hKK _ ?_
        clear hKK KK
        refine wpOrd_take rfl _ (by rfl) (by intro w' hS; obtain ⟨h1, h2, h3, h4⟩ := HQ.out w' hS; obtain ⟨d0, d1, d2, d3, d4⟩ := HD.out; go_simp; try with_reducible rfl) fun KK hKK => ?_
        go_simp
        refine hKK _ ?_
        clear hKK KK
        refine wpOrd_skip rfl (by rfl) fun KK hKK => ?_
        go_simp
        refine hKK _ ?_
        clear hKK KK
        refine wpOrd_skip rfl (by rfl) fun KK hKK => ?_
        go_simp
        refine hKK _ ?_
        clear hKK KK
        refine wpOrd_skip rfl (by rfl) fun KK hKK => ?_
        go_simp
        refine hKK _ ?_
        clear hKK KK
        refine wpOrd_skip rfl (by rfl) fun KK hKK => ?_
        go_simp
        refine hKK _ ?_
        clear hKK KK
        refine wpOrd_take rfl _ (by rfl) (by intro w' hS; obtain ⟨h1, h2, h3, h4⟩ := HQ.out w' hS; obtain ⟨d0, d1, d2, d3, d4⟩ := HD.out; go_simp; try with_reducible rfl) fun KK hKK => ?_
        go_simp
        refine hKK _ ?_
        clear hKK KK
        refine wpOrd_take rfl _ (by rfl) (by intro w' hS; obtain ⟨h1, h2, h3, h4⟩ := HQ.out w' hS; obtain ⟨d0, d1, d2, d3, d4⟩ := HD.out; go_simp; try with_reducible rfl) fun KK hKK => ?_
        go_simp
        refine hKK _ ?_
        clear hKK KK
        refine wpOrd_skip rfl (by rfl) fun KK hKK => ?_
        go_simp
        refine hKK _ ?_
        clear hKK KK
        refine wpOrd_skip rfl (by rfl) fun KK hKK => ?_
        go_simp
        refine hKK _ ?_
        clear hKK KK
        refine wpOrd_skip rfl (by rfl) fun KK hKK => ?_
        go_simp
        refine hKK _ ?_
        clear hKK KK
        refine wpOrd_skip rfl (by rfl) fun KK hKK => ?_
        go_simp
        refine hKK _ ?_
        clear hKK KK
        refine wpOrd_skip rfl (by rfl) fun KK hKK => ?_
        go_simp
        refine hKK _ ?_
        clear hKK KK
        refine wpOrd_skip rfl (by rfl) fun KK hKK => ?_
        go_simp
        refine hKK _ ?_
        clear hKK KK
        refine wpOrd_skip rfl (by rfl) fun KK hKK => ?_
        go_simp
        refine hKK _ ?_
        clear hKK KK
        refine wpOrd_take rfl _ (by rfl) (by intro w' hS; obtain ⟨h1, h2, h3, h4⟩ := HQ.out w' hS; obtain ⟨d0, d1, d2, d3, d4⟩ := HD.out; go_simp; try with_reducible rfl) fun KK hKK => ?_
        go_simp
        refine hKK _ ?_
        clear hKK KK
        refine wpOrd_nil ?_
        show Kz _ _
        refine hKz _ _ ?_
        clear hKz
        go_wp2
        go_ret
        exact ⟨by rw [HCHK.out]; rfl, HB2.out.trans (hS0.mono HB2.out.size)⟩
      have p1 : N < 24 := by omega
      by_cases q2 : N = N0
      rotate_left
      · skip
        have p2 : (N != N0) = true := by simpa using q2
        have e0 : decide (N < 0) = false := decide_eq_false q0
        have e1 : decide (24 ≤ N) = false := decide_eq_false q1
        have e2 : (N != N0) = true := by simpa using q2
        have HD := Lib.hid (And.intro e0 (And.intro e1 (And.intro e2 (And.intro True.intro True.intro))))
        clear e0
        clear e1
        clear e2
        have hps : Ch.passB K L k k = false := by rw [HPS.out]; exact decide_eq_false fun h => q2 h.1
        have HCHK : Hid (Ch.chk K L = 80) := by show _ = _; unfold Ch.chk; rw [if_neg (by rw [rnot_all (by rw [HLL.out]; exact hlt) hps]; simp)]
        clear hps HPS
        go_wp2_with (first
          | (refine wpList_load_cells rfl 37 (.tmp 16) rfl ⟨b, o + k * 35, none⟩ (by rfl) X _ HCX.out Tryd.underlying37 (by rfl) HI.out ?_)
          | (refine wpList_store_cells rfl 37 (.tmp 4) (.tmp 17) rfl wr.heap.size X (by rfl) (by rfl) 37 _ (heap_alloc_new wr _) (by rw [HXX.out.2]; rfl) HI.out HXX.out.1 ?_; intro w2 hR2 hg2)
          | fail)
        rename_i Kz hKz
        have hB2 : Below wr.heap.size wr w2 := ((Below.refl _ wr).alloc (Nat.le_refl _) _).grown hg2 (by simp) (fun k e => by injection e with e; omega)
        have hX2 := hR2.lt
        have hS0 : Below w2.heap.size w2 w2.drew := (Below.refl _ _).drew
        have hQ : ∀ W, Below w2.heap.size w2 W → W.cell? ⟨wr.heap.size, 0, none⟩ = some (.int .i64 N) ∧ W.cell? ⟨wr.heap.size, 1, none⟩ = some (.int .i64 O) ∧ W.cell? ⟨wr.heap.size, 34, none⟩ = some (.slice dA dl dc) ∧ W.cell? ⟨b, o, none⟩ = some (.int .i64 N0) := fun W hW =>
          ⟨(hR2.below hW hX2).cell HCC.out.1, (hR2.below hW hX2).cell HCC.out.2.1, (hR2.below hW hX2).cell HCC.out.2.2.1, (hW.cell (p := ⟨b, o, none⟩) (Nat.lt_of_lt_of_le hbw2 hB2.size)).trans ((hB2.cell (p := ⟨b, o, none⟩) hbw2).trans c00)⟩
        have hPr : ∀ W, Below w2.heap.size w2 W → ∀ (j : Nat) (v : Value), (P.map (Value.int .u8))[j]? = some v → W.cell? ((⟨wr.heap.size, 2, none⟩ : Addr).add j) = some v := fun W hW => ints_cells (fun i hi => (hR2.below hW hX2).cell (HCC.out.2.2.2 i (by have h1 := HID.out; have h2 : (Tryd.prog.info? 35).map (·.size) = some 32 := (by kernel_rfl); rw [h2] at h1; have h3 : (32 : Nat) = (P.map (Value.int .u8)).length := Option.some.inj h1; rw [List.length_map] at h3; omega)))
        have HQ := Lib.hid hQ
        have HPR := Lib.hid hPr
        have HB2 := Lib.hid (HBR.out.trans (hB2.mono HBR.out.size))
        clear hQ hPr hB2 hR2 hg2
        refine wp_region_ord (fun w' => Below w2.heap.size w2 w') [(0, true), (1, true), (2, true), (3, true), (4, true), (5, true), (6, true), (7, true), (8, true), (9, true), (10, true), (11, true), (12, true), (13, true), (14, true), (15, true), (16, true), (17, true), (18, true), (19, true), (20, true), (21, true), (22, true), (23, true), (24, true), (25, true), (26, true), (27, true), (28, true), (29, true), (30, true), (31, true), (32, true), (33, true), (34, true), (35, true), (36, true), (37, true)] (by kernel_rfl) (by kernel_rfl) rfl (by kernel_rfl) (fun x _ _ _ _ h => by cases x <;> exact h) hS0 ?_
        refine wpOrd_take rfl _ (by rfl) (by intro w' hS; obtain ⟨h1, h2, h3, h4⟩ := HQ.out w' hS; obtain ⟨d0, d1, d2, d3, d4⟩ := HD.out; go_simp; try with_reducible rfl) fun KK hKK => ?_
        go_simp
        refine hKK _ ?_
        clear hKK KK
        refine wpOrd_take rfl _ (by rfl) (by intro w' hS; obtain ⟨h1, h2, h3, h4⟩ := HQ.out w' hS; obtain ⟨d0, d1, d2, d3, d4⟩ := HD.out; go_simp; try with_reducible rfl) fun KK hKK => ?_
        go_simp
        refine hKK _ ?_
        clear hKK KK
        refine wpOrd_take rfl _ (by rfl) (by intro w' hS; obtain ⟨h1, h2, h3, h4⟩ := HQ.out w' hS; obtain ⟨d0, d1, d2, d3, d4⟩ := HD.out; go_simp; try with_reducible rfl) fun KK hKK => ?_
        go_simp
        refine hKK _ ?_
        clear hKK KK
        refine wpOrd_take rfl _ (by rfl) (by intro w' hS; obtain ⟨h1, h2, h3, h4⟩ := HQ.out w' hS; obtain ⟨d0, d1, d2, d3, d4⟩ := HD.out; go_simp; try with_reducible rfl) fun KK hKK => ?_
        go_simp
        refine hKK _ ?_
        clear hKK KK
        refine wpOrd_take rfl _ (by rfl) (by intro w' hS; obtain ⟨h1, h2, h3, h4⟩ := HQ.out w' hS; obtain ⟨d0, d1, d2, d3, d4⟩ := HD.out; go_simp; try with_reducible rfl) fun KK hKK => ?_
        go_simp
        refine hKK _ ?_
        clear hKK KK
        refine wpOrd_take rfl _ (by rfl) (by intro w' hS; obtain ⟨h1, h2, h3, h4⟩ := HQ.out w' hS; obtain ⟨d0, d1, d2, d3, d4⟩ := HD.out; go_simp; try with_reducible rfl) fun KK hKK => ?_
        go_simp
        refine hKK _ ?_
        clear hKK KK
        refine wpOrd_take rfl _ (by rfl) (by intro w' hS; obtain ⟨h1, h2, h3, h4⟩ := HQ.out w' hS; obtain ⟨d0, d1, d2, d3, d4⟩ := HD.out; go_simp; try with_reducible rfl) fun KK hKK => ?_
        go_simp
        refine hKK _ ?_
        clear hKK KK
        refine wpOrd_take rfl _ (by rfl) (by intro w' hS; obtain ⟨h1, h2, h3, h4⟩ := HQ.out w' hS; obtain ⟨d0, d1, d2, d3, d4⟩ := HD.out; go_simp; try with_reducible rfl) fun KK hKK => ?_
        go_simp
        refine hKK _ ?_
        clear hKK KK
        refine wpOrd_take rfl _ (by rfl) (by intro w' hS; obtain ⟨h1, h2, h3, h4⟩ := HQ.out w' hS; obtain ⟨d0, d1, d2, d3, d4⟩ := HD.out; go_simp; try with_reducible rfl) fun KK hKK => ?_
        go_simp
        refine hKK _ ?_
        clear hKK KK
        refine wpOrd_take rfl _ (by rfl) (by intro w' hS; obtain ⟨h1, h2, h3, h4⟩ := HQ.out w' hS; obtain ⟨d0, d1, d2, d3, d4⟩ := HD.out; go_simp; try with_reducible rfl) fun KK hKK => ?_
        go_simp
        refine hKK _ ?_
        clear hKK KK
        refine wpOrd_take rfl _ (by rfl) (by intro w' hS; obtain ⟨h1, h2, h3, h4⟩ := HQ.out w' hS; obtain ⟨d0, d1, d2, d3, d4⟩ := HD.out; go_simp; try with_reducible rfl) fun KK hKK => ?_
        go_simp
        refine hKK _ ?_
        clear hKK KK
        refine wpOrd_take rfl _ (by rfl) (by intro w' hS; obtain ⟨h1, h2, h3, h4⟩ := HQ.out w' hS; obtain ⟨d0, d1, d2, d3, d4⟩ := HD.out; go_simp; try with_reducible rfl) fun KK hKK => ?_
        go_simp
        refine hKK _ ?_
        clear hKK KK
        refine wpOrd_take rfl _ (by rfl) (by intro w' hS; obtain ⟨h1, h2, h3, h4⟩ := HQ.out w' hS; obtain ⟨d0, d1, d2, d3, d4⟩ := HD.out; go_simp; try with_reducible rfl) fun KK hKK => ?_
        go_simp
        refine hKK _ ?_
        clear hKK KK
        refine wpOrd_take rfl _ (by rfl) (by intro w' hS; obtain ⟨h1, h2, h3, h4⟩ := HQ.out w' hS; obtain ⟨d0, d1, d2, d3, d4⟩ := HD.out; go_simp; try with_reducible rfl) fun KK hKK => ?_
        go_simp
        refine hKK _ ?_
        clear hKK KK
        refine wpOrd_take rfl _ (by rfl) (by intro w' hS; obtain ⟨h1, h2, h3, h4⟩ := HQ.out w' hS; obtain ⟨d0, d1, d2, d3, d4⟩ := HD.out; go_simp; try with_reducible rfl) fun KK hKK => ?_
        go_simp
        refine hKK _ ?_
        clear hKK KK
        refine wpOrd_take rfl _ (by rfl) (by intro w' hS; obtain ⟨h1, h2, h3, h4⟩ := HQ.out w' hS; obtain ⟨d0, d1, d2, d3, d4⟩ := HD.out; go_simp; try with_reducible rfl) fun KK hKK => ?_
        go_simp
        refine hKK _ ?_
        clear hKK KK
        refine wpOrd_take rfl _ (by rfl) (by intro w' hS; obtain ⟨h1, h2, h3, h4⟩ := HQ.out w' hS; obtain ⟨d0, d1, d2, d3, d4⟩ := HD.out; go_simp; try with_reducible rfl) fun KK hKK => ?_
        go_simp
        refine hKK _ ?_
        clear hKK KK
        refine wpOrd_take rfl _ (by rfl) (by intro w' hS; obtain ⟨h1, h2, h3, h4⟩ := HQ.out w' hS; obtain ⟨d0, d1, d2, d3, d4⟩ := HD.out; go_simp; try with_reducible rfl) fun KK hKK => ?_
        go_simp
        refine hKK _ ?_
        clear hKK KK
        refine wpOrd_skip rfl (by rfl) fun KK hKK => ?_
        go_simp
        refine hKK _ ?_
        clear hKK KK
        refine wpOrd_skip rfl (by rfl) fun KK hKK => ?_
        go_simp
        refine hKK _ ?_
        clear hKK KK
        refine wpOrd_skip rfl (by rfl) fun KK hKK => ?_
        go_simp
        refine hKK _ ?_
        clear hKK KK
        refine wpOrd_skip rfl (by rfl) fun KK hKK => ?_
        go_simp
        refine hKK _ ?_
        clear hKK KK
        refine wpOrd_take rfl _ (by rfl) (by intro w' hS; obtain ⟨h1, h2, h3, h4⟩ := HQ.out w' hS; obtain ⟨d0, d1, d2, d3, d4⟩ := HD.out; go_simp; try with_reducible rfl) fun KK hKK => ?_
        go_simp
        refine hKK _ ?_
        clear hKK KK
        refine wpOrd_take rfl _ (by rfl) (by intro w' hS; obtain ⟨h1, h2, h3, h4⟩ := HQ.out w' hS; obtain ⟨d0, d1, d2, d3, d4⟩ := HD.out; go_simp; try with_reducible rfl) fun KK hKK => ?_
        go_simp
        refine hKK _ ?_
        clear hKK KK
        refine wpOrd_skip rfl (by rfl) fun KK hKK => ?_
        go_simp
        refine hKK _ ?_
        clear hKK KK
        refine wpOrd_skip rfl (by rfl) fun KK hKK => ?_
        go_simp
        refine hKK _ ?_
        clear hKK KK
        refine wpOrd_skip rfl (by rfl) fun KK hKK => ?_
        go_simp
        refine hKK _ ?_
        clear hKK KK
        refine wpOrd_skip rfl (by rfl) fun KK hKK => ?_
        go_simp
        refine hKK _ ?_
        clear hKK KK
        refine wpOrd_take rfl _ (by rfl) (by intro w' hS; obtain ⟨h1, h2, h3, h4⟩ := HQ.out w' hS; obtain ⟨d0, d1, d2, d3, d4⟩ := HD.out; go_simp; try with_reducible rfl) fun KK hKK => ?_
        go_simp
        refine hKK _ ?_
        clear hKK KK
        refine wpOrd_take rfl _ (by rfl) (by intro w' hS; obtain ⟨h1, h2, h3, h4⟩ := HQ.out w' hS; obtain ⟨d0, d1, d2, d3, d4⟩ := HD.out; go_simp; try with_reducible rfl) fun KK hKK => ?_
        go_simp
        refine hKK _ ?_
        clear hKK KK
        refine wpOrd_skip rfl (by rfl) fun KK hKK => ?_
        go_simp
        refine hKK _ ?_
        clear hKK KK
        refine wpOrd_skip rfl (by rfl) fun KK hKK => ?_
        go_simp
        refine hKK _ ?_
        clear hKK KK
        refine wpOrd_skip rfl (by rfl) fun KK hKK => ?_
        go_simp
        refine hKK _ ?_
        clear hKK KK
        refine wpOrd_skip rfl (by rfl) fun KK hKK => ?_
        go_simp
        refine hKK _ ?_
        clear hKK KK
        refine wpOrd_skip rfl (by rfl) fun KK hKK => ?_
        go_simp
        refine hKK _ ?_
        clear hKK KK
        refine wpOrd_skip rfl (by rfl) fun KK hKK => ?_
        go_simp
        refine hKK _ ?_
        clear hKK KK
        refine wpOrd_skip rfl (by rfl) fun KK hKK => ?_
        go_simp
        refine hKK _ ?_
        clear hKK KK
        refine wpOrd_take rfl _ (by rfl) (by intro w' hS; obtain ⟨h1, h2, h3, h4⟩ := HQ.out w' hS; obtain ⟨d0, d1, d2, d3, d4⟩ := HD.out; go_simp; try with_reducible rfl) fun KK hKK => ?_
        go_simp
        refine hKK _ ?_
        clear hKK KK
        refine wpOrd_nil ?_
        show Kz _ _
        refine hKz _ _ ?_
        clear hKz
        go_wp2
        go_ret
        exact ⟨by rw [HCHK.out]; rfl, HB2.out.trans (hS0.mono HB2.out.size)⟩
      subst q2
      by_cases q3 : O = (k : Int)
      rotate_left
      · skip
        have p3 : (O != (k : Int)) = true := by simpa using q3
        have e0 : decide (N < 0) = false := decide_eq_false q0
        have e1 : decide (24 ≤ N) = false := decide_eq_false q1
        have e3 : (O != (k : Int)) = true := by simpa using q3
        have HD := Lib.hid (And.intro e0 (And.intro e1 (And.intro True.intro (And.intro e3 True.intro))))
        clear e0
        clear e1
        clear e3
        have hps : Ch.passB K L k k = false := by rw [HPS.out]; exact decide_eq_false fun h => q3 h.2.2.2.1
        have HCHK : Hid (Ch.chk K L = 80) := by show _ = _; unfold Ch.chk; rw [if_neg (by rw [rnot_all (by rw [HLL.out]; exact hlt) hps]; simp)]
        clear hps HPS
        go_wp2_with (first
          | (refine wpList_load_cells rfl 37 (.tmp 16) rfl ⟨b, o + k * 35, none⟩ (by rfl) X _ HCX.out Tryd.underlying37 (by rfl) HI.out ?_)
          | (refine wpList_store_cells rfl 37 (.tmp 4) (.tmp 17) rfl wr.heap.size X (by rfl) (by rfl) 37 _ (heap_alloc_new wr _) (by rw [HXX.out.2]; rfl) HI.out HXX.out.1 ?_; intro w2 hR2 hg2)
          | fail)
        rename_i Kz hKz
        have hB2 : Below wr.heap.size wr w2 := ((Below.refl _ wr).alloc (Nat.le_refl _) _).grown hg2 (by simp) (fun k e => by injection e with e; omega)
        have hX2 := hR2.lt
        have hS0 : Below w2.heap.size w2 w2.drew := (Below.refl _ _).drew
        have hQ : ∀ W, Below w2.heap.size w2 W → W.cell? ⟨wr.heap.size, 0, none⟩ = some (.int .i64 N) ∧ W.cell? ⟨wr.heap.size, 1, none⟩ = some (.int .i64 O) ∧ W.cell? ⟨wr.heap.size, 34, none⟩ = some (.slice dA dl dc) ∧ W.cell? ⟨b, o, none⟩ = some (.int .i64 N) := fun W hW =>
          ⟨(hR2.below hW hX2).cell HCC.out.1, (hR2.below hW hX2).cell HCC.out.2.1, (hR2.below hW hX2).cell HCC.out.2.2.1, (hW.cell (p := ⟨b, o, none⟩) (Nat.lt_of_lt_of_le hbw2 hB2.size)).trans ((hB2.cell (p := ⟨b, o, none⟩) hbw2).trans c00)⟩
        have hPr : ∀ W, Below w2.heap.size w2 W → ∀ (j : Nat) (v : Value), (P.map (Value.int .u8))[j]? = some v → W.cell? ((⟨wr.heap.size, 2, none⟩ : Addr).add j) = some v := fun W hW => ints_cells (fun i hi => (hR2.below hW hX2).cell (HCC.out.2.2.2 i (by have h1 := HID.out; have h2 : (Tryd.prog.info? 35).map (·.size) = some 32 := (by kernel_rfl); rw [h2] at h1; have h3 : (32 : Nat) = (P.map (Value.int .u8)).length := Option.some.inj h1; rw [List.length_map] at h3; omega)))
        have HQ := Lib.hid hQ
        have HPR := Lib.hid hPr
        have HB2 := Lib.hid (HBR.out.trans (hB2.mono HBR.out.size))
        clear hQ hPr hB2 hR2 hg2
        refine wp_region_ord (fun w' => Below w2.heap.size w2 w') [(0, true), (1, true), (2, true), (3, true), (4, true), (5, true), (6, true), (7, true), (8, true), (9, true), (10, true), (11, true), (12, true), (13, true), (14, true), (15, true), (16, true), (17, true), (18, true), (19, true), (20, true), (21, true), (22, true), (23, true), (24, true), (25, true), (26, true), (27, true), (28, true), (29, true), (30, true), (31, true), (32, true), (33, true), (34, true), (35, true), (36, true), (37, true)] (by kernel_rfl) (by kernel_rfl) rfl (by kernel_rfl) (fun x _ _ _ _ h => by cases x <;> exact h) hS0 ?_
        refine wpOrd_take rfl _ (by rfl) (by intro w' hS; obtain ⟨h1, h2, h3, h4⟩ := HQ.out w' hS; obtain ⟨d0, d1, d2, d3, d4⟩ := HD.out; go_simp; try with_reducible rfl) fun KK hKK => ?_
        go_simp
        refine hKK _ ?_
        clear hKK KK
        refine wpOrd_take rfl _ (by rfl) (by intro w' hS; obtain ⟨h1, h2, h3, h4⟩ := HQ.out w' hS; obtain ⟨d0, d1, d2, d3, d4⟩ := HD.out; go_simp; try with_reducible rfl) fun KK hKK => ?_
        go_simp
        refine hKK _ ?_
        clear hKK KK
        refine wpOrd_take rfl _ (by rfl) (by intro w' hS; obtain ⟨h1, h2, h3, h4⟩ := HQ.out w' hS; obtain ⟨d0, d1, d2, d3, d4⟩ := HD.out; go_simp; try with_reducible rfl) fun KK hKK => ?_
        go_simp
        refine hKK _ ?_
        clear hKK KK
        refine wpOrd_take rfl _ (by rfl) (by intro w' hS; obtain ⟨h1, h2, h3, h4⟩ := HQ.out w' hS; obtain ⟨d0, d1, d2, d3, d4⟩ := HD.out; go_simp; try with_reducible rfl) fun KK hKK => ?_
        go_simp
        refine hKK _ ?_
        clear hKK KK
        refine wpOrd_take rfl _ (by rfl) (by intro w' hS; obtain ⟨h1, h2, h3, h4⟩ := HQ.out w' hS; obtain ⟨d0, d1, d2, d3, d4⟩ := HD.out; go_simp; try with_reducible rfl) fun KK hKK => ?_
        go_simp
        refine hKK _ ?_
        clear hKK KK
        refine wpOrd_take rfl _ (by rfl) (by intro w' hS; obtain ⟨h1, h2, h3, h4⟩ := HQ.out w' hS; obtain ⟨d0, d1, d2, d3, d4⟩ := HD.out; go_simp; try with_reducible rfl) fun KK hKK => ?_
        go_simp
        refine hKK _ ?_
        clear hKK KK
        refine wpOrd_take rfl _ (by rfl) (by intro w' hS; obtain ⟨h1, h2, h3, h4⟩ := HQ.out w' hS; obtain ⟨d0, d1, d2, d3, d4⟩ := HD.out; go_simp; try with_reducible rfl) fun KK hKK => ?_
        go_simp
        refine hKK _ ?_
        clear hKK KK
        refine wpOrd_take rfl _ (by rfl) (by intro w' hS; obtain ⟨h1, h2, h3, h4⟩ := HQ.out w' hS; obtain ⟨d0, d1, d2, d3, d4⟩ := HD.out; go_simp; try with_reducible rfl) fun KK hKK => ?_
        go_simp
        refine hKK _ ?_
        clear hKK KK
        refine wpOrd_take rfl _ (by rfl) (by intro w' hS; obtain ⟨h1, h2, h3, h4⟩ := HQ.out w' hS; obtain ⟨d0, d1, d2, d3, d4⟩ := HD.out; go_simp; try with_reducible rfl) fun KK hKK => ?_
        go_simp
        refine hKK _ ?_
        clear hKK KK
        refine wpOrd_take rfl _ (by rfl) (by intro w' hS; obtain ⟨h1, h2, h3, h4⟩ := HQ.out w' hS; obtain ⟨d0, d1, d2, d3, d4⟩ := HD.out; go_simp; try with_reducible rfl) fun KK hKK => ?_
        go_simp
        refine hKK _ ?_
        clear hKK KK
        refine wpOrd_take rfl _ (by rfl) (by intro w' hS; obtain ⟨h1, h2, h3, h4⟩ := HQ.out w' hS; obtain ⟨d0, d1, d2, d3, d4⟩ := HD.out; go_simp; try with_reducible rfl) fun KK hKK => ?_
        go_simp
        refine hKK _ ?_
        clear hKK KK
        refine wpOrd_take rfl _ (by rfl) (by intro w' hS; obtain ⟨h1, h2, h3, h4⟩ := HQ.out w' hS; obtain ⟨d0, d1, d2, d3, d4⟩ := HD.out; go_simp; try with_reducible rfl) fun KK hKK => ?_
        go_simp
        refine hKK _ ?_
        clear hKK KK
        refine wpOrd_take rfl _ (by rfl) (by intro w' hS; obtain ⟨h1, h2, h3, h4⟩ := HQ.out w' hS; obtain ⟨d0, d1, d2, d3, d4⟩ := HD.out; go_simp; try with_reducible rfl) fun KK hKK => ?_
        go_simp
        refine hKK _ ?_
        clear hKK KK
        refine wpOrd_take rfl _ (by rfl) (by intro w' hS; obtain ⟨h1, h2, h3, h4⟩ := HQ.out w' hS; obtain ⟨d0, d1, d2, d3, d4⟩ := HD.out; go_simp; try with_reducible rfl) fun KK hKK => ?_
        go_simp
        refine hKK _ ?_
        clear hKK KK
        refine wpOrd_take rfl _ (by rfl) (by intro w' hS; obtain ⟨h1, h2, h3, h4⟩ := HQ.out w' hS; obtain ⟨d0, d1, d2, d3, d4⟩ := HD.out; go_simp; try with_reducible rfl) fun KK hKK => ?_
        go_simp
        refine hKK _ ?_
        clear hKK KK
        refine wpOrd_take rfl _ (by rfl) (by intro w' hS; obtain ⟨h1, h2, h3, h4⟩ := HQ.out w' hS; obtain ⟨d0, d1, d2, d3, d4⟩ := HD.out; go_simp; try with_reducible rfl) fun KK hKK => ?_
        go_simp
        refine hKK _ ?_
        clear hKK KK
        refine wpOrd_take rfl _ (by rfl) (by intro w' hS; obtain ⟨h1, h2, h3, h4⟩ := HQ.out w' hS; obtain ⟨d0, d1, d2, d3, d4⟩ := HD.out; go_simp; try with_reducible rfl) fun KK hKK => ?_
        go_simp
        refine hKK _ ?_
        clear hKK KK
        refine wpOrd_take rfl _ (by rfl) (by intro w' hS; obtain ⟨h1, h2, h3, h4⟩ := HQ.out w' hS; obtain ⟨d0, d1, d2, d3, d4⟩ := HD.out; go_simp; try with_reducible rfl) fun KK hKK => ?_
        go_simp
        refine hKK _ ?_
        clear hKK KK
        refine wpOrd_take rfl _ (by rfl) (by intro w' hS; obtain ⟨h1, h2, h3, h4⟩ := HQ.out w' hS; obtain ⟨d0, d1, d2, d3, d4⟩ := HD.out; go_simp; try with_reducible rfl) fun KK hKK => ?_
        go_simp
        refine hKK _ ?_
        clear hKK KK
        refine wpOrd_take rfl _ (by rfl) (by intro w' hS; obtain ⟨h1, h2, h3, h4⟩ := HQ.out w' hS; obtain ⟨d0, d1, d2, d3, d4⟩ := HD.out; go_simp; try with_reducible rfl) fun KK hKK => ?_
        go_simp
        refine hKK _ ?_
        clear hKK KK
        refine wpOrd_take rfl _ (by rfl) (by intro w' hS; obtain ⟨h1, h2, h3, h4⟩ := HQ.out w' hS; obtain ⟨d0, d1, d2, d3, d4⟩ := HD.out; go_simp; try with_reducible rfl) fun KK hKK => ?_
        go_simp
        refine hKK _ ?_
        clear hKK KK
        refine wpOrd_take rfl _ (by rfl) (by intro w' hS; obtain ⟨h1, h2, h3, h4⟩ := HQ.out w' hS; obtain ⟨d0, d1, d2, d3, d4⟩ := HD.out; go_simp; try with_reducible rfl) fun KK hKK => ?_
        go_simp
        refine hKK _ ?_
        clear hKK KK
        refine wpOrd_take rfl _ (by rfl) (by intro w' hS; obtain ⟨h1, h2, h3, h4⟩ := HQ.out w' hS; obtain ⟨d0, d1, d2, d3, d4⟩ := HD.out; go_simp; try with_reducible rfl) fun KK hKK => ?_
        go_simp
        refine hKK _ ?_
        clear hKK KK
        refine wpOrd_take rfl _ (by rfl) (by intro w' hS; obtain ⟨h1, h2, h3, h4⟩ := HQ.out w' hS; obtain ⟨d0, d1, d2, d3, d4⟩ := HD.out; go_simp; try with_reducible rfl) fun KK hKK => ?_
        go_simp
        refine hKK _ ?_
        clear hKK KK
        refine wpOrd_skip rfl (by rfl) fun KK hKK => ?_
        go_simp
        refine hKK _ ?_
        clear hKK KK
        refine wpOrd_skip rfl (by rfl) fun KK hKK => ?_
        go_simp
        refine hKK _ ?_
        clear hKK KK
        refine wpOrd_skip rfl (by rfl) fun KK hKK => ?_
        go_simp
        refine hKK _ ?_
        clear hKK KK
        refine wpOrd_skip rfl (by rfl) fun KK hKK => ?_
        go_simp
        refine hKK _ ?_
        clear hKK KK
        refine wpOrd_take rfl _ (by rfl) (by intro w' hS; obtain ⟨h1, h2, h3, h4⟩ := HQ.out w' hS; obtain ⟨d0, d1, d2, d3, d4⟩ := HD.out; go_simp; try with_reducible rfl) fun KK hKK => ?_
        go_simp
        refine hKK _ ?_
        clear hKK KK
        refine wpOrd_take rfl _ (by rfl) (by intro w' hS; obtain ⟨h1, h2, h3, h4⟩ := HQ.out w' hS; obtain ⟨d0, d1, d2, d3, d4⟩ := HD.out; go_simp; try with_reducible rfl) fun KK hKK => ?_
        go_simp
        refine hKK _ ?_
        clear hKK KK
        refine wpOrd_skip rfl (by rfl) fun KK hKK => ?_
        go_simp
        refine hKK _ ?_
        clear hKK KK
        refine wpOrd_skip rfl (by rfl) fun KK hKK => ?_
        go_simp
        refine hKK _ ?_
        clear hKK KK
        refine wpOrd_skip rfl (by rfl) fun KK hKK => ?_
        go_simp
        refine hKK _ ?_
        clear hKK KK
        refine wpOrd_skip rfl (by rfl) fun KK hKK => ?_
        go_simp
        refine hKK _ ?_
        clear hKK KK
        refine wpOrd_skip rfl (by rfl) fun KK hKK => ?_
        go_simp
        refine hKK _ ?_
        clear hKK KK
        refine wpOrd_skip rfl (by rfl) fun KK hKK => ?_
        go_simp
        refine hKK _ ?_
        clear hKK KK
        refine wpOrd_skip rfl (by rfl) fun KK hKK => ?_
        go_simp
        refine hKK _ ?_
        clear hKK KK
        refine wpOrd_take rfl _ (by rfl) (by intro w' hS; obtain ⟨h1, h2, h3, h4⟩ := HQ.out w' hS; obtain ⟨d0, d1, d2, d3, d4⟩ := HD.out; go_simp; try with_reducible rfl) fun KK hKK => ?_
        go_simp
        refine hKK _ ?_
        clear hKK KK
        refine wpOrd_nil ?_
        show Kz _ _
        refine hKz _ _ ?_
        clear hKz
        go_wp2
        go_ret
        exact ⟨by rw [HCHK.out]; rfl, HB2.out.trans (hS0.mono HB2.out.size)⟩
      subst q3
      by_cases q4 : 65536 < dl
      · skip
        have p4 : (65536 : Int) < (dl : Int) := by omega
        have e0 : decide (N < 0) = false := decide_eq_false q0
        have e1 : decide (24 ≤ N) = false := decide_eq_false q1
        have e4 : decide ((65536 : Int) < (dl : Int)) = true := decide_eq_true p4
        have HD := Lib.hid (And.intro e0 (And.intro e1 (And.intro True.intro (And.intro True.intro e4))))
        clear e0
        clear e1
        clear e4
        have hps : Ch.passB K L k k = false := by rw [HPS.out]; exact decide_eq_false fun h => by have := h.2.2.2.2.1; omega
        have HCHK : Hid (Ch.chk K L = 80) := by show _ = _; unfold Ch.chk; rw [if_neg (by rw [rnot_all (by rw [HLL.out]; exact hlt) hps]; simp)]
        clear hps HPS
        go_wp2_with (first
          | (refine wpList_load_cells rfl 37 (.tmp 16) rfl ⟨b, o + k * 35, none⟩ (by rfl) X _ HCX.out Tryd.underlying37 (by rfl) HI.out ?_)
          | (refine wpList_store_cells rfl 37 (.tmp 4) (.tmp 17) rfl wr.heap.size X (by rfl) (by rfl) 37 _ (heap_alloc_new wr _) (by rw [HXX.out.2]; rfl) HI.out HXX.out.1 ?_; intro w2 hR2 hg2)
          | fail)
        rename_i Kz hKz
        have hB2 : Below wr.heap.size wr w2 := ((Below.refl _ wr).alloc (Nat.le_refl _) _).grown hg2 (by simp) (fun k e => by injection e with e; omega)
        have hX2 := hR2.lt
        have hS0 : Below w2.heap.size w2 w2.drew := (Below.refl _ _).drew
        have hQ : ∀ W, Below w2.heap.size w2 W → W.cell? ⟨wr.heap.size, 0, none⟩ = some (.int .i64 N) ∧ W.cell? ⟨wr.heap.size, 1, none⟩ = some (.int .i64 (k : Int)) ∧ W.cell? ⟨wr.heap.size, 34, none⟩ = some (.slice dA dl dc) ∧ W.cell? ⟨b, o, none⟩ = some (.int .i64 N) := fun W hW =>
          ⟨(hR2.below hW hX2).cell HCC.out.1, (hR2.below hW hX2).cell HCC.out.2.1, (hR2.below hW hX2).cell HCC.out.2.2.1, (hW.cell (p := ⟨b, o, none⟩) (Nat.lt_of_lt_of_le hbw2 hB2.size)).trans ((hB2.cell (p := ⟨b, o, none⟩) hbw2).trans c00)⟩
        have hPr : ∀ W, Below w2.heap.size w2 W → ∀ (j : Nat) (v : Value), (P.map (Value.int .u8))[j]? = some v → W.cell? ((⟨wr.heap.size, 2, none⟩ : Addr).add j) = some v := fun W hW => ints_cells (fun i hi => (hR2.below hW hX2).cell (HCC.out.2.2.2 i (by have h1 := HID.out; have h2 : (Tryd.prog.info? 35).map (·.size) = some 32 := (by kernel_rfl); rw [h2] at h1; have h3 : (32 : Nat) = (P.map (Value.int .u8)).length := Option.some.inj h1; rw [List.length_map] at h3; omega)))
        have HQ := Lib.hid hQ
        have HPR := Lib.hid hPr
        have HB2 := Lib.hid (HBR.out.trans (hB2.mono HBR.out.size))
        clear hQ hPr hB2 hR2 hg2
        refine wp_region_ord (fun w' => Below w2.heap.size w2 w') [(0, true), (1, true), (2, true), (3, true), (4, true), (5, true), (6, true), (7, true), (8, true), (9, true), (10, true), (11, true), (12, true), (13, true), (14, true), (15, true), (16, true), (17, true), (18, true), (19, true), (20, true), (21, true), (22, true), (23, true), (24, true), (25, true), (26, true), (27, true), (28, true), (29, true), (30, true), (31, true), (32, true), (33, true), (34, true), (35, true), (36, true), (37, true)] (by kernel_rfl) (by kernel_rfl) rfl (by kernel_rfl) (fun x _ _ _ _ h => by cases x <;> exact h) hS0 ?_
        refine wpOrd_take rfl _ (by rfl) (by intro w' hS; obtain ⟨h1, h2, h3, h4⟩ := HQ.out w' hS; obtain ⟨d0, d1, d2, d3, d4⟩ := HD.out; go_simp; try with_reducible rfl) fun KK hKK => ?_
        go_simp
        refine hKK _ ?_
        clear hKK KK
        refine wpOrd_take rfl _ (by rfl) (by intro w' hS; obtain ⟨h1, h2, h3, h4⟩ := HQ.out w' hS; obtain ⟨d0, d1, d2, d3, d4⟩ := HD.out; go_simp; try with_reducible rfl) fun KK hKK => ?_
        go_simp
        refine hKK _ ?_
        clear hKK KK
        refine wpOrd_take rfl _ (by rfl) (by intro w' hS; obtain ⟨h1, h2, h3, h4⟩ := HQ.out w' hS; obtain ⟨d0, d1, d2, d3, d4⟩ := HD.out; go_simp; try with_reducible rfl) fun KK hKK => ?_
        go_simp
        refine hKK _ ?_
        clear hKK KK
        refine wpOrd_take rfl _ (by rfl) (by intro w' hS; obtain ⟨h1, h2, h3, h4⟩ := HQ.out w' hS; obtain ⟨d0, d1, d2, d3, d4⟩ := HD.out; go_simp; try with_reducible rfl) fun KK hKK => ?_
        go_simp
        refine hKK _ ?_
        clear hKK KK
        refine wpOrd_take rfl _ (by rfl) (by intro w' hS; obtain ⟨h1, h2, h3, h4⟩ := HQ.out w' hS; obtain ⟨d0, d1, d2, d3, d4⟩ := HD.out; go_simp; try with_reducible rfl) fun KK hKK => ?_
        go_simp
        refine hKK _ ?_
        clear hKK KK
        refine wpOrd_take rfl _ (by rfl) (by intro w' hS; obtain ⟨h1, h2, h3, h4⟩ := HQ.out w' hS; obtain ⟨d0, d1, d2, d3, d4⟩ := HD.out; go_simp; try with_reducible rfl) fun KK hKK => ?_
        go_simp
        refine hKK _ ?_
        clear hKK KK
        refine wpOrd_take rfl _ (by rfl) (by intro w' hS; obtain ⟨h1, h2, h3, h4⟩ := HQ.out w' hS; obtain ⟨d0, d1, d2, d3, d4⟩ := HD.out; go_simp; try with_reducible rfl) fun KK hKK => ?_
        go_simp
        refine hKK _ ?_
        clear hKK KK
        refine wpOrd_take rfl _ (by rfl) (by intro w' hS; obtain ⟨h1, h2, h3, h4⟩ := HQ.out w' hS; obtain ⟨d0, d1, d2, d3, d4⟩ := HD.out; go_simp; try with_reducible rfl) fun KK hKK => ?_
        go_simp
        refine hKK _ ?_
        clear hKK KK
        refine wpOrd_take rfl _ (by rfl) (by intro w' hS; obtain ⟨h1, h2, h3, h4⟩ := HQ.out w' hS; obtain ⟨d0, d1, d2, d3, d4⟩ := HD.out; go_simp; try with_reducible rfl) fun KK hKK => ?_
        go_simp
        refine hKK _ ?_
        clear hKK KK
        refine wpOrd_take rfl _ (by rfl) (by intro w' hS; obtain ⟨h1, h2, h3, h4⟩ := HQ.out w' hS; obtain ⟨d0, d1, d2, d3, d4⟩ := HD.out; go_simp; try with_reducible rfl) fun KK hKK => ?_
        go_simp
        refine hKK _ ?_
        clear hKK KK
        refine wpOrd_take rfl _ (by rfl) (by intro w' hS; obtain ⟨h1, h2, h3, h4⟩ := HQ.out w' hS; obtain ⟨d0, d1, d2, d3, d4⟩ := HD.out; go_simp; try with_reducible rfl) fun KK hKK => ?_
        go_simp
        refine hKK _ ?_
        clear hKK KK
        refine wpOrd_take rfl _ (by rfl) (by intro w' hS; obtain ⟨h1, h2, h3, h4⟩ := HQ.out w' hS; obtain ⟨d0, d1, d2, d3, d4⟩ := HD.out; go_simp; try with_reducible rfl) fun KK hKK => ?_
        go_simp
        refine hKK _ ?_
        clear hKK KK
        refine wpOrd_take rfl _ (by rfl) (by intro w' hS; obtain ⟨h1, h2, h3, h4⟩ := HQ.out w' hS; obtain ⟨d0, d1, d2, d3, d4⟩ := HD.out; go_simp; try with_reducible rfl) fun KK hKK => ?_
        go_simp
        refine hKK _ ?_
        clear hKK KK
        refine wpOrd_take rfl _ (by rfl) (by intro w' hS; obtain ⟨h1, h2, h3, h4⟩ := HQ.out w' hS; obtain ⟨d0, d1, d2, d3, d4⟩ := HD.out; go_simp; try with_reducible rfl) fun KK hKK => ?_
        go_simp
        refine hKK _ ?_
        clear hKK KK
        refine wpOrd_take rfl _ (by rfl) (by intro w' hS; obtain ⟨h1, h2, h3, h4⟩ := HQ.out w' hS; obtain ⟨d0, d1, d2, d3, d4⟩ := HD.out; go_simp; try with_reducible rfl) fun KK hKK => ?_
        go_simp
        refine hKK _ ?_
        clear hKK KK
        refine wpOrd_take rfl _ (by rfl) (by intro w' hS; obtain ⟨h1, h2, h3, h4⟩ := HQ.out w' hS; obtain ⟨d0, d1, d2, d3, d4⟩ := HD.out; go_simp; try with_reducible rfl) fun KK hKK => ?_
        go_simp
        refine hKK _ ?_
        clear hKK KK
        refine wpOrd_take rfl _ (by rfl) (by intro w' hS; obtain ⟨h1, h2, h3, h4⟩ := HQ.out w' hS; obtain ⟨d0, d1, d2, d3, d4⟩ := HD.out; go_simp; try with_reducible rfl) fun KK hKK => ?_
        go_simp
        refine hKK _ ?_
        clear hKK KK
        refine wpOrd_take rfl _ (by rfl) (by intro w' hS; obtain ⟨h1, h2, h3, h4⟩ := HQ.out w' hS; obtain ⟨d0, d1, d2, d3, d4⟩ := HD.out; go_simp; try with_reducible rfl) fun KK hKK => ?_
        go_simp
        refine hKK _ ?_
        clear hKK KK
        refine wpOrd_take rfl _ (by rfl) (by intro w' hS; obtain ⟨h1, h2, h3, h4⟩ := HQ.out w' hS; obtain ⟨d0, d1, d2, d3, d4⟩ := HD.out; go_simp; try with_reducible rfl) fun KK hKK => ?_
        go_simp
        refine hKK _ ?_
        clear hKK KK
        refine wpOrd_take rfl _ (by rfl) (by intro w' hS; obtain ⟨h1, h2, h3, h4⟩ := HQ.out w' hS; obtain ⟨d0, d1, d2, d3, d4⟩ := HD.out; go_simp; try with_reducible rfl) fun KK hKK => ?_
        go_simp
        refine hKK _ ?_
        clear hKK KK
        refine wpOrd_take rfl _ (by rfl) (by intro w' hS; obtain ⟨h1, h2, h3, h4⟩ := HQ.out w' hS; obtain ⟨d0, d1, d2, d3, d4⟩ := HD.out; go_simp; try with_reducible rfl) fun KK hKK => ?_
        go_simp
        refine hKK _ ?_
        clear hKK KK
        refine wpOrd_take rfl _ (by rfl) (by intro w' hS; obtain ⟨h1, h2, h3, h4⟩ := HQ.out w' hS; obtain ⟨d0, d1, d2, d3, d4⟩ := HD.out; go_simp; try with_reducible rfl) fun KK hKK => ?_
        go_simp
        refine hKK _ ?_
        clear hKK KK
        refine wpOrd_take rfl _ (by rfl) (by intro w' hS; obtain ⟨h1, h2, h3, h4⟩ := HQ.out w' hS; obtain ⟨d0, d1, d2, d3, d4⟩ := HD.out; go_simp; try with_reducible rfl) fun KK hKK => ?_
        go_simp
        refine hKK _ ?_
        clear hKK KK
        refine wpOrd_take rfl _ (by rfl) (by intro w' hS; obtain ⟨h1, h2, h3, h4⟩ := HQ.out w' hS; obtain ⟨d0, d1, d2, d3, d4⟩ := HD.out; go_simp; try with_reducible rfl) fun KK hKK => ?_
        go_simp
        refine hKK _ ?_
        clear hKK KK
        refine wpOrd_take rfl _ (by rfl) (by intro w' hS; obtain ⟨h1, h2, h3, h4⟩ := HQ.out w' hS; obtain ⟨d0, d1, d2, d3, d4⟩ := HD.out; go_simp; try with_reducible rfl) fun KK hKK => ?_
        go_simp
        refine hKK _ ?_
        clear hKK KK
        refine wpOrd_take rfl _ (by rfl) (by intro w' hS; obtain ⟨h1, h2, h3, h4⟩ := HQ.out w' hS; obtain ⟨d0, d1, d2, d3, d4⟩ := HD.out; go_simp; try with_reducible rfl) fun KK hKK => ?_
        go_simp
        refine hKK _ ?_
        clear hKK KK
        refine wpOrd_take rfl _ (by rfl) (by intro w' hS; obtain ⟨h1, h2, h3, h4⟩ := HQ.out w' hS; obtain ⟨d0, d1, d2, d3, d4⟩ := HD.out; go_simp; try with_reducible rfl) fun KK hKK => ?_
        go_simp
        refine hKK _ ?_
        clear hKK KK
        refine wpOrd_take rfl _ (by rfl) (by intro w' hS; obtain ⟨h1, h2, h3, h4⟩ := HQ.out w' hS; obtain ⟨d0, d1, d2, d3, d4⟩ := HD.out; go_simp; try with_reducible rfl) fun KK hKK => ?_
        go_simp
        refine hKK _ ?_
        clear hKK KK
        refine wpOrd_take rfl _ (by rfl) (by intro w' hS; obtain ⟨h1, h2, h3, h4⟩ := HQ.out w' hS; obtain ⟨d0, d1, d2, d3, d4⟩ := HD.out; go_simp; try with_reducible rfl) fun KK hKK => ?_
        go_simp
        refine hKK _ ?_
        clear hKK KK
        refine wpOrd_take rfl _ (by rfl) (by intro w' hS; obtain ⟨h1, h2, h3, h4⟩ := HQ.out w' hS; obtain ⟨d0, d1, d2, d3, d4⟩ := HD.out; go_simp; try with_reducible rfl) fun KK hKK => ?_
        go_simp
        refine hKK _ ?_
        clear hKK KK
        refine wpOrd_skip rfl (by rfl) fun KK hKK => ?_
        go_simp
        refine hKK _ ?_
        clear hKK KK
        refine wpOrd_skip rfl (by rfl) fun KK hKK => ?_
        go_simp
        refine hKK _ ?_
        clear hKK KK
        refine wpOrd_skip rfl (by rfl) fun KK hKK => ?_
        go_simp
        refine hKK _ ?_
        clear hKK KK
        refine wpOrd_skip rfl (by rfl) fun KK hKK => ?_
        go_simp
        refine hKK _ ?_
        clear hKK KK
        refine wpOrd_skip rfl (by rfl) fun KK hKK => ?_
        go_simp
        refine hKK _ ?_
        clear hKK KK
        refine wpOrd_skip rfl (by rfl) fun KK hKK => ?_
        go_simp
        refine hKK _ ?_
        clear hKK KK
        refine wpOrd_skip rfl (by rfl) fun KK hKK => ?_
        go_simp
        refine hKK _ ?_
        clear hKK KK
        refine wpOrd_take rfl _ (by rfl) (by intro w' hS; obtain ⟨h1, h2, h3, h4⟩ := HQ.out w' hS; obtain ⟨d0, d1, d2, d3, d4⟩ := HD.out; go_simp; try with_reducible rfl) fun KK hKK => ?_
        go_simp
        refine hKK _ ?_
        clear hKK KK
        refine wpOrd_nil ?_
        show Kz _ _
        refine hKz _ _ ?_
        clear hKz
        go_wp2
        go_ret
        exact ⟨by rw [HCHK.out]; rfl, HB2.out.trans (hS0.mono HB2.out.size)⟩
      have p4 : ¬ (65536 : Int) < (dl : Int) := by omega
      have p5 : (dl : Int) ≤ 65536 := by omega
      by_cases q5 : P = H
      rotate_left
      · skip
        rw [decide_eq_false q5] at heq
        have e0 : decide (N < 0) = false := decide_eq_false q0
        have e1 : decide (24 ≤ N) = false := decide_eq_false q1
        have e4 : decide ((65536 : Int) < (dl : Int)) = false := decide_eq_false p4
        have HD := Lib.hid (And.intro e0 (And.intro e1 (And.intro True.intro (And.intro True.intro e4))))
        clear e0
        clear e1
        clear e4
        have hps : Ch.passB K L k k = false := by rw [HPS.out]; exact decide_eq_false fun h => q5 h.2.2.2.2.2
        have HCHK : Hid (Ch.chk K L = 80) := by show _ = _; unfold Ch.chk; rw [if_neg (by rw [rnot_all (by rw [HLL.out]; exact hlt) hps]; simp)]
        clear hps HPS
        go_wp2_with (first
          | (refine wpList_load_cells rfl 37 (.tmp 16) rfl ⟨b, o + k * 35, none⟩ (by rfl) X _ HCX.out Tryd.underlying37 (by rfl) HI.out ?_)
          | (refine wpList_store_cells rfl 37 (.tmp 4) (.tmp 17) rfl wr.heap.size X (by rfl) (by rfl) 37 _ (heap_alloc_new wr _) (by rw [HXX.out.2]; rfl) HI.out HXX.out.1 ?_; intro w2 hR2 hg2)
          | fail)
        rename_i Kz hKz
        have hB2 : Below wr.heap.size wr w2 := ((Below.refl _ wr).alloc (Nat.le_refl _) _).grown hg2 (by simp) (fun k e => by injection e with e; omega)
        have hX2 := hR2.lt
        have hS0 : Below w2.heap.size w2 w2.drew := (Below.refl _ _).drew
        have hQ : ∀ W, Below w2.heap.size w2 W → W.cell? ⟨wr.heap.size, 0, none⟩ = some (.int .i64 N) ∧ W.cell? ⟨wr.heap.size, 1, none⟩ = some (.int .i64 (k : Int)) ∧ W.cell? ⟨wr.heap.size, 34, none⟩ = some (.slice dA dl dc) ∧ W.cell? ⟨b, o, none⟩ = some (.int .i64 N) := fun W hW =>
          ⟨(hR2.below hW hX2).cell HCC.out.1, (hR2.below hW hX2).cell HCC.out.2.1, (hR2.below hW hX2).cell HCC.out.2.2.1, (hW.cell (p := ⟨b, o, none⟩) (Nat.lt_of_lt_of_le hbw2 hB2.size)).trans ((hB2.cell (p := ⟨b, o, none⟩) hbw2).trans c00)⟩
        have hPr : ∀ W, Below w2.heap.size w2 W → ∀ (j : Nat) (v : Value), (P.map (Value.int .u8))[j]? = some v → W.cell? ((⟨wr.heap.size, 2, none⟩ : Addr).add j) = some v := fun W hW => ints_cells (fun i hi => (hR2.below hW hX2).cell (HCC.out.2.2.2 i (by have h1 := HID.out; have h2 : (Tryd.prog.info? 35).map (·.size) = some 32 := (by kernel_rfl); rw [h2] at h1; have h3 : (32 : Nat) = (P.map (Value.int .u8)).length := Option.some.inj h1; rw [List.length_map] at h3; omega)))
        have HQ := Lib.hid hQ
        have HPR := Lib.hid hPr
        have HB2 := Lib.hid (HBR.out.trans (hB2.mono HBR.out.size))
        clear hQ hPr hB2 hR2 hg2
        refine wp_region_ord (fun w' => Below w2.heap.size w2 w') [(0, true), (1, true), (2, true), (3, true), (4, true), (5, true), (6, true), (7, true), (8, true), (9, true), (10, true), (11, true), (12, true), (13, true), (14, true), (15, true), (16, true), (17, true), (18, true), (19, true), (20, true), (21, true), (22, true), (23, true), (24, true), (25, true), (26, true), (27, true), (28, true), (29, true), (30, true), (31, true), (32, true), (33, true), (34, true), (35, false), (36, true), (37, true)] (by kernel_rfl) (by kernel_rfl) rfl (by kernel_rfl) (fun x _ _ _ _ h => by cases x <;> exact h) hS0 ?_
        refine wpOrd_take rfl _ (by rfl) (by intro w' hS; obtain ⟨h1, h2, h3, h4⟩ := HQ.out w' hS; obtain ⟨d0, d1, d2, d3, d4⟩ := HD.out; go_simp; try with_reducible rfl) fun KK hKK => ?_
        go_simp
        refine hKK _ ?_
        clear hKK KK
        refine wpOrd_take rfl _ (by rfl) (by intro w' hS; obtain ⟨h1, h2, h3, h4⟩ := HQ.out w' hS; obtain ⟨d0, d1, d2, d3, d4⟩ := HD.out; go_simp; try with_reducible rfl) fun KK hKK => ?_
        go_simp
        refine hKK _ ?_
        clear hKK KK
        refine wpOrd_take rfl _ (by rfl) (by intro w' hS; obtain ⟨h1, h2, h3, h4⟩ := HQ.out w' hS; obtain ⟨d0, d1, d2, d3, d4⟩ := HD.out; go_simp; try with_reducible rfl) fun KK hKK => ?_
        go_simp
        refine hKK _ ?_
        clear hKK KK
        refine wpOrd_take rfl _ (by rfl) (by intro w' hS; obtain ⟨h1, h2, h3, h4⟩ := HQ.out w' hS; obtain ⟨d0, d1, d2, d3, d4⟩ := HD.out; go_simp; try with_reducible rfl) fun KK hKK => ?_
        go_simp
        refine hKK _ ?_
        clear hKK KK
        refine wpOrd_take rfl _ (by rfl) (by intro w' hS; obtain ⟨h1, h2, h3, h4⟩ := HQ.out w' hS; obtain ⟨d0, d1, d2, d3, d4⟩ := HD.out; go_simp; try with_reducible rfl) fun KK hKK => ?_
        go_simp
        refine hKK _ ?_
        clear hKK KK
        refine wpOrd_take rfl _ (by rfl) (by intro w' hS; obtain ⟨h1, h2, h3, h4⟩ := HQ.out w' hS; obtain ⟨d0, d1, d2, d3, d4⟩ := HD.out; go_simp; try with_reducible rfl) fun KK hKK => ?_
        go_simp
        refine hKK _ ?_
        clear hKK KK
        refine wpOrd_take rfl _ (by rfl) (by intro w' hS; obtain ⟨h1, h2, h3, h4⟩ := HQ.out w' hS; obtain ⟨d0, d1, d2, d3, d4⟩ := HD.out; go_simp; try with_reducible rfl) fun KK hKK => ?_
        go_simp
        refine hKK _ ?_
        clear hKK KK
        refine wpOrd_take rfl _ (by rfl) (by intro w' hS; obtain ⟨h1, h2, h3, h4⟩ := HQ.out w' hS; obtain ⟨d0, d1, d2, d3, d4⟩ := HD.out; go_simp; try with_reducible rfl) fun KK hKK => ?_
        go_simp
        refine hKK _ ?_
        clear hKK KK
        refine wpOrd_take rfl _ (by rfl) (by intro w' hS; obtain ⟨h1, h2, h3, h4⟩ := HQ.out w' hS; obtain ⟨d0, d1, d2, d3, d4⟩ := HD.out; go_simp; try with_reducible rfl) fun KK hKK => ?_
        go_simp
        refine hKK _ ?_
        clear hKK KK
        refine wpOrd_take rfl _ (by rfl) (by intro w' hS; obtain ⟨h1, h2, h3, h4⟩ := HQ.out w' hS; obtain ⟨d0, d1, d2, d3, d4⟩ := HD.out; go_simp; try with_reducible rfl) fun KK hKK => ?_
        go_simp
        refine hKK _ ?_
        clear hKK KK
        refine wpOrd_take rfl _ (by rfl) (by intro w' hS; obtain ⟨h1, h2, h3, h4⟩ := HQ.out w' hS; obtain ⟨d0, d1, d2, d3, d4⟩ := HD.out; go_simp; try with_reducible rfl) fun KK hKK => ?_
        go_simp
        refine hKK _ ?_
        clear hKK KK
        refine wpOrd_take rfl _ (by rfl) (by intro w' hS; obtain ⟨h1, h2, h3, h4⟩ := HQ.out w' hS; obtain ⟨d0, d1, d2, d3, d4⟩ := HD.out; go_simp; try with_reducible rfl) fun KK hKK => ?_
        go_simp
        refine hKK _ ?_
        clear hKK KK
        refine wpOrd_take rfl _ (by rfl) (by intro w' hS; obtain ⟨h1, h2, h3, h4⟩ := HQ.out w' hS; obtain ⟨d0, d1, d2, d3, d4⟩ := HD.out; go_simp; try with_reducible rfl) fun KK hKK => ?_
        go_simp
        refine hKK _ ?_
        clear hKK KK
        refine wpOrd_take rfl _ (by rfl) (by intro w' hS; obtain ⟨h1, h2, h3, h4⟩ := HQ.out w' hS; obtain ⟨d0, d1, d2, d3, d4⟩ := HD.out; go_simp; try with_reducible rfl) fun KK hKK => ?_
        go_simp
        refine hKK _ ?_
        clear hKK KK
        refine wpOrd_take rfl _ (by rfl) (by intro w' hS; obtain ⟨h1, h2, h3, h4⟩ := HQ.out w' hS; obtain ⟨d0, d1, d2, d3, d4⟩ := HD.out; go_simp; try with_reducible rfl) fun KK hKK => ?_
        go_simp
        refine hKK _ ?_
        clear hKK KK
        refine wpOrd_take rfl _ (by rfl) (by intro w' hS; obtain ⟨h1, h2, h3, h4⟩ := HQ.out w' hS; obtain ⟨d0, d1, d2, d3, d4⟩ := HD.out; go_simp; try with_reducible rfl) fun KK hKK => ?_
        go_simp
        refine hKK _ ?_
        clear hKK KK
        refine wpOrd_take rfl _ (by rfl) (by intro w' hS; obtain ⟨h1, h2, h3, h4⟩ := HQ.out w' hS; obtain ⟨d0, d1, d2, d3, d4⟩ := HD.out; go_simp; try with_reducible rfl) fun KK hKK => ?_
        go_simp
        refine hKK _ ?_
        clear hKK KK
        refine wpOrd_take rfl _ (by rfl) (by intro w' hS; obtain ⟨h1, h2, h3, h4⟩ := HQ.out w' hS; obtain ⟨d0, d1, d2, d3, d4⟩ := HD.out; go_simp; try with_reducible rfl) fun KK hKK => ?_
        go_simp
        refine hKK _ ?_
        clear hKK KK
        refine wpOrd_take rfl _ (by rfl) (by intro w' hS; obtain ⟨h1, h2, h3, h4⟩ := HQ.out w' hS; obtain ⟨d0, d1, d2, d3, d4⟩ := HD.out; go_simp; try with_reducible rfl) fun KK hKK => ?_
        go_simp
        refine hKK _ ?_
        clear hKK KK
        refine wpOrd_take rfl _ (by rfl) (by intro w' hS; obtain ⟨h1, h2, h3, h4⟩ := HQ.out w' hS; obtain ⟨d0, d1, d2, d3, d4⟩ := HD.out; go_simp; try with_reducible rfl) fun KK hKK => ?_
        go_simp
        refine hKK _ ?_
        clear hKK KK
        refine wpOrd_take rfl _ (by rfl) (by intro w' hS; obtain ⟨h1, h2, h3, h4⟩ := HQ.out w' hS; obtain ⟨d0, d1, d2, d3, d4⟩ := HD.out; go_simp; try with_reducible rfl) fun KK hKK => ?_
        go_simp
        refine hKK _ ?_
        clear hKK KK
        refine wpOrd_take rfl _ (by rfl) (by intro w' hS; obtain ⟨h1, h2, h3, h4⟩ := HQ.out w' hS; obtain ⟨d0, d1, d2, d3, d4⟩ := HD.out; go_simp; try with_reducible rfl) fun KK hKK => ?_
        go_simp
        refine hKK _ ?_
        clear hKK KK
        refine wpOrd_take rfl _ (by rfl) (by intro w' hS; obtain ⟨h1, h2, h3, h4⟩ := HQ.out w' hS; obtain ⟨d0, d1, d2, d3, d4⟩ := HD.out; go_simp; try with_reducible rfl) fun KK hKK => ?_
        go_simp
        refine hKK _ ?_
        clear hKK KK
        refine wpOrd_take rfl _ (by rfl) (by intro w' hS; obtain ⟨h1, h2, h3, h4⟩ := HQ.out w' hS; obtain ⟨d0, d1, d2, d3, d4⟩ := HD.out; go_simp; try with_reducible rfl) fun KK hKK => ?_
        go_simp
        refine hKK _ ?_
        clear hKK KK
        refine wpOrd_take rfl _ (by rfl) (by intro w' hS; obtain ⟨h1, h2, h3, h4⟩ := HQ.out w' hS; obtain ⟨d0, d1, d2, d3, d4⟩ := HD.out; go_simp; try with_reducible rfl) fun KK hKK => ?_
        go_simp
        refine hKK _ ?_
        clear hKK KK
        refine wpOrd_take rfl _ (by rfl) (by intro w' hS; obtain ⟨h1, h2, h3, h4⟩ := HQ.out w' hS; obtain ⟨d0, d1, d2, d3, d4⟩ := HD.out; go_simp; try with_reducible rfl) fun KK hKK => ?_
        go_simp
        refine hKK _ ?_
        clear hKK KK
        refine wpOrd_take rfl _ (by rfl) (by intro w' hS; obtain ⟨h1, h2, h3, h4⟩ := HQ.out w' hS; obtain ⟨d0, d1, d2, d3, d4⟩ := HD.out; go_simp; try with_reducible rfl) fun KK hKK => ?_
        go_simp
        refine hKK _ ?_
        clear hKK KK
        refine wpOrd_take rfl _ (by rfl) (by intro w' hS; obtain ⟨h1, h2, h3, h4⟩ := HQ.out w' hS; obtain ⟨d0, d1, d2, d3, d4⟩ := HD.out; go_simp; try with_reducible rfl) fun KK hKK => ?_
        go_simp
        refine hKK _ ?_
        clear hKK KK
        refine wpOrd_take rfl _ (by rfl) (by intro w' hS; obtain ⟨h1, h2, h3, h4⟩ := HQ.out w' hS; obtain ⟨d0, d1, d2, d3, d4⟩ := HD.out; go_simp; try with_reducible rfl) fun KK hKK => ?_
        go_simp
        refine hKK _ ?_
        clear hKK KK
        refine wpOrd_take rfl _ (by rfl) (by intro w' hS; obtain ⟨h1, h2, h3, h4⟩ := HQ.out w' hS; obtain ⟨d0, d1, d2, d3, d4⟩ := HD.out; go_simp; try with_reducible rfl) fun KK hKK => ?_
        go_simp
        refine hKK _ ?_
        clear hKK KK
        refine wpOrd_take rfl _ (by rfl) (by intro w' hS; obtain ⟨h1, h2, h3, h4⟩ := HQ.out w' hS; obtain ⟨d0, d1, d2, d3, d4⟩ := HD.out; go_simp; try with_reducible rfl) fun KK hKK => ?_
        go_simp
        refine hKK _ ?_
        clear hKK KK
        refine wpOrd_take rfl _ (by rfl) (fun w' hS => run_load_exec 35 (.tmp 48) rfl ⟨wr.heap.size, 2, none⟩ (by rfl) (P.map (Value.int .u8)) _ (HPR.out w' hS) Tryd.underlying35 (by rfl) HID.out) fun KK hKK => ?_
        go_simp
        refine hKK _ ?_
        clear hKK KK
        refine wpOrd_take rfl _ (by rfl) (by intro w' hS; obtain ⟨h1, h2, h3, h4⟩ := HQ.out w' hS; obtain ⟨d0, d1, d2, d3, d4⟩ := HD.out; go_simp; try with_reducible rfl) fun KK hKK => ?_
        go_simp
        refine hKK _ ?_
        clear hKK KK
        refine wpOrd_take rfl _ (by rfl) (by intro w' hS; obtain ⟨h1, h2, h3, h4⟩ := HQ.out w' hS; obtain ⟨d0, d1, d2, d3, d4⟩ := HD.out; go_simp; try with_reducible rfl) fun KK hKK => ?_
        go_simp
        refine hKK _ ?_
        clear hKK KK
        refine wpOrd_take rfl _ (by rfl) (by intro w' hS; have h1 := r1 w'; go_simp; try with_reducible rfl) fun KK hKK => ?_
        go_simp
        refine hKK _ ?_
        clear hKK KK
        refine wpOrd_force rfl (by rfl) fun KK hKK => ?_
        go_simp
        refine (HHD.out _ (HB2.out.trans (hS0.mono HB2.out.size))).mono ?_
        rintro e w3 ⟨rfl, hb3⟩
        have hS3 : Below w2.heap.size w2 w3 := hS0.trans (hb3.mono hS0.size)
        refine hKK _ _ hS3 ?_
        clear hKK KK
        refine wpOrd_take rfl _ (by rfl) (by intro w' hS; obtain ⟨h1, h2, h3, h4⟩ := HQ.out w' hS; obtain ⟨d0, d1, d2, d3, d4⟩ := HD.out; go_simp; try with_reducible rfl) fun KK hKK => ?_
        go_simp
        refine hKK _ ?_
        clear hKK KK
        refine wpOrd_take rfl _ (by rfl) (by intro w' hS; obtain ⟨h1, h2, h3, h4⟩ := HQ.out w' hS; obtain ⟨d0, d1, d2, d3, d4⟩ := HD.out; go_simp; try with_reducible rfl) fun KK hKK => ?_
        go_simp
        refine hKK _ ?_
        clear hKK KK
        refine wpOrd_nil ?_
        show Kz _ _
        refine hKz _ _ ?_
        clear hKz
        go_wp2
        go_ret
        exact ⟨by rw [HCHK.out]; rfl, HB2.out.trans (hS3.mono HB2.out.size)⟩
      have HP1 : Hid (Ch.passB K L k k = true) := by show _ = _; rw [HPS.out]; exact decide_eq_true ⟨rfl, p0, p1, rfl, by omega, q5⟩
      rw [decide_eq_true q5] at heq
      subst q5
      clear HPS
      have e0 : decide (N < 0) = false := decide_eq_false q0
      have e1 : decide (24 ≤ N) = false := decide_eq_false q1
      have e4 : decide ((65536 : Int) < (dl : Int)) = false := decide_eq_false p4
      have HD := Lib.hid (And.intro e0 (And.intro e1 (And.intro True.intro (And.intro True.intro e4))))
      clear e0
      clear e1
      clear e4
      go_wp2_with (first
        | (refine wpList_load_cells rfl 37 (.tmp 16) rfl ⟨b, o + k * 35, none⟩ (by rfl) X _ HCX.out Tryd.underlying37 (by rfl) HI.out ?_)
        | (refine wpList_store_cells rfl 37 (.tmp 4) (.tmp 17) rfl wr.heap.size X (by rfl) (by rfl) 37 _ (heap_alloc_new wr _) (by rw [HXX.out.2]; rfl) HI.out HXX.out.1 ?_; intro w2 hR2 hg2)
        | fail)
      rename_i Kz hKz
      have hB2 : Below wr.heap.size wr w2 := ((Below.refl _ wr).alloc (Nat.le_refl _) _).grown hg2 (by simp) (fun k e => by injection e with e; omega)
      have hX2 := hR2.lt
      have hS0 : Below w2.heap.size w2 w2.drew := (Below.refl _ _).drew
      have hQ : ∀ W, Below w2.heap.size w2 W → W.cell? ⟨wr.heap.size, 0, none⟩ = some (.int .i64 N) ∧ W.cell? ⟨wr.heap.size, 1, none⟩ = some (.int .i64 (k : Int)) ∧ W.cell? ⟨wr.heap.size, 34, none⟩ = some (.slice dA dl dc) ∧ W.cell? ⟨b, o, none⟩ = some (.int .i64 N) := fun W hW =>
        ⟨(hR2.below hW hX2).cell HCC.out.1, (hR2.below hW hX2).cell HCC.out.2.1, (hR2.below hW hX2).cell HCC.out.2.2.1, (hW.cell (p := ⟨b, o, none⟩) (Nat.lt_of_lt_of_le hbw2 hB2.size)).trans ((hB2.cell (p := ⟨b, o, none⟩) hbw2).trans c00)⟩
      have hPr : ∀ W, Below w2.heap.size w2 W → ∀ (j : Nat) (v : Value), (P.map (Value.int .u8))[j]? = some v → W.cell? ((⟨wr.heap.size, 2, none⟩ : Addr).add j) = some v := fun W hW => ints_cells (fun i hi => (hR2.below hW hX2).cell (HCC.out.2.2.2 i (by have h1 := HID.out; have h2 : (Tryd.prog.info? 35).map (·.size) = some 32 := (by kernel_rfl); rw [h2] at h1; have h3 : (32 : Nat) = (P.map (Value.int .u8)).length := Option.some.inj h1; rw [List.length_map] at h3; omega)))
      have HQ := Lib.hid hQ
      have HPR := Lib.hid hPr
      have HB2 := Lib.hid (HBR.out.trans (hB2.mono HBR.out.size))
      clear hQ hPr hB2 hR2 hg2
      refine wp_region_ord (fun w' => Below w2.heap.size w2 w') [(0, true), (1, true), (2, true), (3, true), (4, true), (5, true), (6, true), (7, true), (8, true), (9, true), (10, true), (11, true), (12, true), (13, true), (14, true), (15, true), (16, true), (17, true), (18, true), (19, true), (20, true), (21, true), (22, true), (23, true), (24, true), (25, true), (26, true), (27, true), (28, true), (29, true), (30, true), (31, true), (32, true), (33, true), (34, true), (35, false), (36, true), (37, true)] (by kernel_rfl) (by kernel_rfl) rfl (by kernel_rfl) (fun x _ _ _ _ h => by cases x <;> exact h) hS0 ?_
      refine wpOrd_take rfl _ (by rfl) (by intro w' hS; obtain ⟨h1, h2, h3, h4⟩ := HQ.out w' hS; obtain ⟨d0, d1, d2, d3, d4⟩ := HD.out; go_simp; try with_reducible rfl) fun KK hKK => ?_
      go_simp
      refine hKK _ ?_
      clear hKK KK
      refine wpOrd_take rfl _ (by rfl) (by intro w' hS; obtain ⟨h1, h2, h3, h4⟩ := HQ.out w' hS; obtain ⟨d0, d1, d2, d3, d4⟩ := HD.out; go_simp; try with_reducible rfl) fun KK hKK => ?_
      go_simp
      refine hKK _ ?_
      clear hKK KK
      refine wpOrd_take rfl _ (by rfl) (by intro w' hS; obtain ⟨h1, h2, h3, h4⟩ := HQ.out w' hS; obtain ⟨d0, d1, d2, d3, d4⟩ := HD.out; go_simp; try with_reducible rfl) fun KK hKK => ?_
      go_simp
      refine hKK _ ?_
      clear hKK KK
      refine wpOrd_take rfl _ (by rfl) (by intro w' hS; obtain ⟨h1, h2, h3, h4⟩ := HQ.out w' hS; obtain ⟨d0, d1, d2, d3, d4⟩ := HD.out; go_simp; try with_reducible rfl) fun KK hKK => ?_
      go_simp
      refine hKK _ ?_
      clear hKK KK
      refine wpOrd_take rfl _ (by rfl) (by intro w' hS; obtain ⟨h1, h2, h3, h4⟩ := HQ.out w' hS; obtain ⟨d0, d1, d2, d3, d4⟩ := HD.out; go_simp; try with_reducible rfl) fun KK hKK => ?_
      go_simp
      refine hKK _ ?_
      clear hKK KK
      refine wpOrd_take rfl _ (by rfl) (by intro w' hS; obtain ⟨h1, h2, h3, h4⟩ := HQ.out w' hS; obtain ⟨d0, d1, d2, d3, d4⟩ := HD.out; go_simp; try with_reducible rfl) fun KK hKK => ?_
      go_simp
      refine hKK _ ?_
      clear hKK KK
      refine wpOrd_take rfl _ (by rfl) (by intro w' hS; obtain ⟨h1, h2, h3, h4⟩ := HQ.out w' hS; obtain ⟨d0, d1, d2, d3, d4⟩ := HD.out; go_simp; try with_reducible rfl) fun KK hKK => ?_
      go_simp
      refine hKK _ ?_
      clear hKK KK
      refine wpOrd_take rfl _ (by rfl) (by intro w' hS; obtain ⟨h1, h2, h3, h4⟩ := HQ.out w' hS; obtain ⟨d0, d1, d2, d3, d4⟩ := HD.out; go_simp; try with_reducible rfl) fun KK hKK => ?_
      go_simp
      refine hKK _ ?_
      clear hKK KK
      refine wpOrd_take rfl _ (by rfl) (by intro w' hS; obtain ⟨h1, h2, h3, h4⟩ := HQ.out w' hS; obtain ⟨d0, d1, d2, d3, d4⟩ := HD.out; go_simp; try with_reducible rfl) fun KK hKK => ?_
      go_simp
      refine hKK _ ?_
      clear hKK KK
      refine wpOrd_take rfl _ (by rfl) (by intro w' hS; obtain ⟨h1, h2, h3, h4⟩ := HQ.out w' hS; obtain ⟨d0, d1, d2, d3, d4⟩ := HD.out; go_simp; try with_reducible rfl) fun KK hKK => ?_
      go_simp
      refine hKK _ ?_
      clear hKK KK
      refine wpOrd_take rfl _ (by rfl) (by intro w' hS; obtain ⟨h1, h2, h3, h4⟩ := HQ.out w' hS; obtain ⟨d0, d1, d2, d3, d4⟩ := HD.out; go_simp; try with_reducible rfl) fun KK hKK => ?_
      go_simp
      refine hKK _ ?_
      clear hKK KK
      refine wpOrd_take rfl _ (by rfl) (by intro w' hS; obtain ⟨h1, h2, h3, h4⟩ := HQ.out w' hS; obtain ⟨d0, d1, d2, d3, d4⟩ := HD.out; go_simp; try with_reducible rfl) fun KK hKK => ?_
      go_simp
      refine hKK _ ?_
      clear hKK KK
      refine wpOrd_take rfl _ (by rfl) (by intro w' hS; obtain ⟨h1, h2, h3, h4⟩ := HQ.out w' hS; obtain ⟨d0, d1, d2, d3, d4⟩ := HD.out; go_simp; try with_reducible rfl) fun KK hKK => ?_
      go_simp
      refine hKK _ ?_
      clear hKK KK
      refine wpOrd_take rfl _ (by rfl) (by intro w' hS; obtain ⟨h1, h2, h3, h4⟩ := HQ.out w' hS; obtain ⟨d0, d1, d2, d3, d4⟩ := HD.out; go_simp; try with_reducible rfl) fun KK hKK => ?_
      go_simp
      refine hKK _ ?_
      clear hKK KK
      refine wpOrd_take rfl _ (by rfl) (by intro w' hS; obtain ⟨h1, h2, h3, h4⟩ := HQ.out w' hS; obtain ⟨d0, d1, d2, d3, d4⟩ := HD.out; go_simp; try with_reducible rfl) fun KK hKK => ?_
      go_simp
      refine hKK _ ?_
      clear hKK KK
      refine wpOrd_take rfl _ (by rfl) (by intro w' hS; obtain ⟨h1, h2, h3, h4⟩ := HQ.out w' hS; obtain ⟨d0, d1, d2, d3, d4⟩ := HD.out; go_simp; try with_reducible rfl) fun KK hKK => ?_
      go_simp
      refine hKK _ ?_
      clear hKK KK
      refine wpOrd_take rfl _ (by rfl) (by intro w' hS; obtain ⟨h1, h2, h3, h4⟩ := HQ.out w' hS; obtain ⟨d0, d1, d2, d3, d4⟩ := HD.out; go_simp; try with_reducible rfl) fun KK hKK => ?_
      go_simp
      refine hKK _ ?_
      clear hKK KK
      refine wpOrd_take rfl _ (by rfl) (by intro w' hS; obtain ⟨h1, h2, h3, h4⟩ := HQ.out w' hS; obtain ⟨d0, d1, d2, d3, d4⟩ := HD.out; go_simp; try with_reducible rfl) fun KK hKK => ?_
      go_simp
      refine hKK _ ?_
      clear hKK KK
      refine wpOrd_take rfl _ (by rfl) (by intro w' hS; obtain ⟨h1, h2, h3, h4⟩ := HQ.out w' hS; obtain ⟨d0, d1, d2, d3, d4⟩ := HD.out; go_simp; try with_reducible rfl) fun KK hKK => ?_
      go_simp
      refine hKK _ ?_
      clear hKK KK
      refine wpOrd_take rfl _ (by rfl) (by intro w' hS; obtain ⟨h1, h2, h3, h4⟩ := HQ.out w' hS; obtain ⟨d0, d1, d2, d3, d4⟩ := HD.out; go_simp; try with_reducible rfl) fun KK hKK => ?_
      go_simp
      refine hKK _ ?_
      clear hKK KK
      refine wpOrd_take rfl _ (by rfl) (by intro w' hS; obtain ⟨h1, h2, h3, h4⟩ := HQ.out w' hS; obtain ⟨d0, d1, d2, d3, d4⟩ := HD.out; go_simp; try with_reducible rfl) fun KK hKK => ?_
      go_simp
      refine hKK _ ?_
      clear hKK KK
      refine wpOrd_take rfl _ (by rfl) (by intro w' hS; obtain ⟨h1, h2, h3, h4⟩ := HQ.out w' hS; obtain ⟨d0, d1, d2, d3, d4⟩ := HD.out; go_simp; try with_reducible rfl) fun KK hKK => ?_
      go_simp
      refine hKK _ ?_
      clear hKK KK
      refine wpOrd_take rfl _ (by rfl) (by intro w' hS; obtain ⟨h1, h2, h3, h4⟩ := HQ.out w' hS; obtain ⟨d0, d1, d2, d3, d4⟩ := HD.out; go_simp; try with_reducible rfl) fun KK hKK => ?_
      go_simp
      refine hKK _ ?_
      clear hKK KK
      refine wpOrd_take rfl _ (by rfl) (by intro w' hS; obtain ⟨h1, h2, h3, h4⟩ := HQ.out w' hS; obtain ⟨d0, d1, d2, d3, d4⟩ := HD.out; go_simp; try with_reducible rfl) fun KK hKK => ?_
      go_simp
      refine hKK _ ?_
      clear hKK KK
      refine wpOrd_take rfl _ (by rfl) (by intro w' hS; obtain ⟨h1, h2, h3, h4⟩ := HQ.out w' hS; obtain ⟨d0, d1, d2, d3, d4⟩ := HD.out; go_simp; try with_reducible rfl) fun KK hKK => ?_
      go_simp
      refine hKK _ ?_
      clear hKK KK
      refine wpOrd_take rfl _ (by rfl) (by intro w' hS; obtain ⟨h1, h2, h3, h4⟩ := HQ.out w' hS; obtain ⟨d0, d1, d2, d3, d4⟩ := HD.out; go_simp; try with_reducible rfl) fun KK hKK => ?_
      go_simp
      refine hKK _ ?_
      clear hKK KK
      refine wpOrd_take rfl _ (by rfl) (by intro w' hS; obtain ⟨h1, h2, h3, h4⟩ := HQ.out w' hS; obtain ⟨d0, d1, d2, d3, d4⟩ := HD.out; go_simp; try with_reducible rfl) fun KK hKK => ?_
      go_simp
      refine hKK _ ?_
      clear hKK KK
      refine wpOrd_take rfl _ (by rfl) (by intro w' hS; obtain ⟨h1, h2, h3, h4⟩ := HQ.out w' hS; obtain ⟨d0, d1, d2, d3, d4⟩ := HD.out; go_simp; try with_reducible rfl) fun KK hKK => ?_
      go_simp
      refine hKK _ ?_
      clear hKK KK
      refine wpOrd_take rfl _ (by rfl) (by intro w' hS; obtain ⟨h1, h2, h3, h4⟩ := HQ.out w' hS; obtain ⟨d0, d1, d2, d3, d4⟩ := HD.out; go_simp; try with_reducible rfl) fun KK hKK => ?_
      go_simp
      refine hKK _ ?_
      clear hKK KK
      refine wpOrd_take rfl _ (by rfl) (by intro w' hS; obtain ⟨h1, h2, h3, h4⟩ := HQ.out w' hS; obtain ⟨d0, d1, d2, d3, d4⟩ := HD.out; go_simp; try with_reducible rfl) fun KK hKK => ?_
      go_simp
      refine hKK _ ?_
      clear hKK KK
      refine wpOrd_take rfl _ (by rfl) (by intro w' hS; obtain ⟨h1, h2, h3, h4⟩ := HQ.out w' hS; obtain ⟨d0, d1, d2, d3, d4⟩ := HD.out; go_simp; try with_reducible rfl) fun KK hKK => ?_
      go_simp
      refine hKK _ ?_
      clear hKK KK
      refine wpOrd_take rfl _ (by rfl) (fun w' hS => run_load_exec 35 (.tmp 48) rfl ⟨wr.heap.size, 2, none⟩ (by rfl) (P.map (Value.int .u8)) _ (HPR.out w' hS) Tryd.underlying35 (by rfl) HID.out) fun KK hKK => ?_
      go_simp
      refine hKK _ ?_
      clear hKK KK
      refine wpOrd_take rfl _ (by rfl) (by intro w' hS; obtain ⟨h1, h2, h3, h4⟩ := HQ.out w' hS; obtain ⟨d0, d1, d2, d3, d4⟩ := HD.out; go_simp; try with_reducible rfl) fun KK hKK => ?_
      go_simp
      refine hKK _ ?_
      clear hKK KK
      refine wpOrd_take rfl _ (by rfl) (by intro w' hS; obtain ⟨h1, h2, h3, h4⟩ := HQ.out w' hS; obtain ⟨d0, d1, d2, d3, d4⟩ := HD.out; go_simp; try with_reducible rfl) fun KK hKK => ?_
      go_simp
      refine hKK _ ?_
      clear hKK KK
      refine wpOrd_take rfl _ (by rfl) (by intro w' hS; have h1 := r1 w'; go_simp; try with_reducible rfl) fun KK hKK => ?_
      go_simp
      refine hKK _ ?_
      clear hKK KK
      refine wpOrd_force rfl (by rfl) fun KK hKK => ?_
      go_simp
      refine (HHD.out _ (HB2.out.trans (hS0.mono HB2.out.size))).mono ?_
      rintro e w3 ⟨rfl, hb3⟩
      have hS3 : Below w2.heap.size w2 w3 := hS0.trans (hb3.mono hS0.size)
      refine hKK _ _ hS3 ?_
      clear hKK KK
      refine wpOrd_take rfl _ (by rfl) (by intro w' hS; obtain ⟨h1, h2, h3, h4⟩ := HQ.out w' hS; obtain ⟨d0, d1, d2, d3, d4⟩ := HD.out; go_simp; try with_reducible rfl) fun KK hKK => ?_
      go_simp
      refine hKK _ ?_
      clear hKK KK
      refine wpOrd_take rfl _ (by rfl) (by intro w' hS; obtain ⟨h1, h2, h3, h4⟩ := HQ.out w' hS; obtain ⟨d0, d1, d2, d3, d4⟩ := HD.out; go_simp; try with_reducible rfl) fun KK hKK => ?_
      go_simp
      refine hKK _ ?_
      clear hKK KK
      refine wpOrd_nil ?_
      show Kz _ _
      refine hKz _ _ ?_
      clear hKz
      go_wp2
      go_roundw
      case rel => exact ⟨k + 1, by omega, by go_num, fun j hj => by
        by_cases e : j = k
        · rw [e]; exact HP1.out
        · exact HU.out j (by omega), HB2.out.trans (hS3.mono HB2.out.size)⟩
      case measure => simp [intOf]; omega
    · obtain rfl : k = n := by omega
      have HCHK : Hid (Ch.chk K L = 0) := by
        show _ = _
        exact Ch.chk_of (Ch.allB_iff.2 fun j hj => HU.out j (by rw [HLL.out] at hj; exact hj))
      go_wp2
      go_ret
      exact ⟨by rw [HCHK.out]; rfl, HBR.out⟩
end Go.Proofs.YtpjggokaolnbcaaDoor
