/- sane of the chain laws. -/
import Derived.Test.YtpjggokaolnbcaaDoorLSaneLaw
namespace Go.Proofs.YtpjggokaolnbcaaDoor
open Go.RowKit
attribute [local go_sem] Oper.semAt_some
set_option linter.unusedVariables false
set_option maxRecDepth 100000 in
set_option maxHeartbeats 4000000 in
theorem sane_any (K : Sh.Cst) (w : World) (hL : Laid w) : Calls Tryd.prog 8 #[] w fun e w' => e = .returned (.bool true) ∧ Below w.heap.size w w' := by
  have H1 := Lib.hid (add_byte K none 0 0 [] 120 5 (1, 2) w (lks_nil _ _ _) (by omega) (by omega) (fun x hx => by cases hx) hL (Ch.allB_nil K) (fun h => absurd h (by omega)) (by omega))
  have H2 := fun (W : World) G C x0 (hx : Ch.l0 K x0) (hW : Laid W) (hl : Lks W W.heap.size G 1 [x0]) (hc : 1 ≤ C) b hb => add_byte K G 1 C [x0] b 5 (1, 2) W hl (by omega) hc (by intro x hx1; rw [List.mem_singleton] at hx1; rw [hx1]; exact hx.fit) hW hx.all (fun _ => hx.nd) hb
  have HH2 := Lib.hid H2
  have hB0 : Below w.heap.size w w := Below.refl _ _
  clear H2
  have kc := fun (w : World) (C : Array Value) (n c : Nat) => Lib.run_convert_bytes_const (P := Tryd.prog) w 23 5 C n c Tryd.underlying23 Tryd.underlying5
  go_enter Tryd.func8, Tryd.ntmps8
  go_wp2_with fail
  refine H1.out.mono ?_
  rintro e w1 ⟨G0, C0, A0, c0, rfl, hC0, hCm0, hL0, hB1⟩
  obtain ⟨x0, hx0⟩ : ∃ x0, (⟨3, ((0 : Nat) : Int), Ch.head K [], [120], A0, c0⟩ : LkV) = x0 := ⟨_, rfl⟩
  rw [hx0] at hL0
  have hX0 : Ch.l0 K x0 := by rw [← hx0]; exact ⟨rfl, rfl, rfl, rfl⟩
  have hL1 : Laid w1 := hL.below hB1 hL.size
  clear hx0 H1
  have H2 := Lib.hid (HH2.out w1 G0 C0 x0 hX0 hL1 hL0 hC0 121 (by omega))
  have HX0 := Lib.hid hX0
  have HL0 := Lib.hid hL0
  clear hX0 hL0
  go_wp2_with fail
  refine H2.out.mono ?_
  rintro e w2 ⟨G1, C1, A1, c1, rfl, hC1, hCm1, hL1', hb2⟩
  obtain ⟨x1, hx1⟩ : ∃ x1, (⟨3, ((1 : Nat) : Int), Ch.head K [x0], [121], A1, c1⟩ : LkV) = x1 := ⟨_, rfl⟩
  rw [hx1] at hL1'
  have HX1 : Hid (Ch.l1 K x0 121 x1) := by rw [← hx1]; exact ⟨rfl, rfl, rfl, rfl⟩
  have hB2 := hB1.trans (hb2.mono hB1.size)
  have hL2 : Laid w2 := hL.below hB2 hL.size
  have HL0' := Lib.hid ((HL0.out.below hb2).more hb2.size)
  have HL1 : Hid (Lks w2 w2.heap.size G1 2 [x0, x1]) := hL1'
  clear hx1 H2 hL1' HL0
  have H3 := Lib.hid (HH2.out w2 G0 C0 x0 HX0.out hL2 HL0'.out hC0 122 (by omega))
  go_wp2_with fail
  refine H3.out.mono ?_
  rintro e w3 ⟨G2, C2, A2, c2, rfl, hC2, hCm2, hL2', hb3⟩
  obtain ⟨x2, hx2⟩ : ∃ x2, (⟨3, ((1 : Nat) : Int), Ch.head K [x0], [122], A2, c2⟩ : LkV) = x2 := ⟨_, rfl⟩
  rw [hx2] at hL2'
  have HX2 : Hid (Ch.l1 K x0 122 x2) := by rw [← hx2]; exact ⟨rfl, rfl, rfl, rfl⟩
  have hB3 := hB2.trans (hb3.mono hB2.size)
  have hL3 : Laid w3 := hL.below hB3 hL.size
  have HLa := Lib.hid ((HL0'.out.below hb3).more hb3.size)
  have HLb := Lib.hid ((HL1.out.below hb3).more hb3.size)
  have HLc : Hid (Lks w3 w3.heap.size G2 2 [x0, x2]) := hL2'
  clear hx2 H3 hL2' HL0' HL1 HH2
  have hf0 : ∀ x ∈ [x0], Ch.fit x := by intro x hx; simp at hx; subst hx; exact HX0.out.fit
  have hfb : ∀ x ∈ [x0, x1], Ch.fit x := by intro x hx; simp at hx; rcases hx with rfl | rfl <;> first | exact HX0.out.fit | exact HX1.out.fit
  have hfc : ∀ x ∈ [x0, x2], Ch.fit x := by intro x hx; simp at hx; rcases hx with rfl | rfl <;> first | exact HX0.out.fit | exact HX2.out.fit
  have HF := Lib.hid (And.intro hf0 (And.intro hfb hfc))
  clear hf0 hfb hfc
  have H4 := Lib.hid (add_wide K none 0 0 [] 24 none 0 0 w3 (lks_nil _ _ _) (by omega) (by omega) (fun x hx => by cases hx) hL3 (Ch.allB_nil K) (by omega))
  go_wp2_with fail
  refine H4.out.mono ?_
  rintro e w4 ⟨rfl, hb4⟩
  have hB4 := hB3.trans (hb4.mono hB3.size)
  have hL4 : Laid w4 := hL.below hB4 hL.size
  have HLa := Lib.hid ((HLa.out.below hb4).more hb4.size)
  have HLb := Lib.hid ((HLb.out.below hb4).more hb4.size)
  have HLc := Lib.hid ((HLc.out.below hb4).more hb4.size)
  have H5 := Lib.hid (add_other K G0 1 C0 [x0] 4 none 0 0 w4 HLa.out (by omega) hC0 HF.out.1 hL4 HX0.out.all (by omega) (by omega) (by omega) (by show (4 : Int) ≠ x0.node; rw [HX0.out.nd]; omega))
  clear H4
  go_wp2_with fail
  refine H5.out.mono ?_
  rintro e w5 ⟨rfl, hb5⟩
  have hB5 := hB4.trans (hb5.mono hB4.size)
  have hL5 : Laid w5 := hL.below hB5 hL.size
  have HLa := Lib.hid ((HLa.out.below hb5).more hb5.size)
  have HLb := Lib.hid ((HLb.out.below hb5).more hb5.size)
  have HLc := Lib.hid ((HLc.out.below hb5).more hb5.size)
  have H6 := part_any K G1 G2 2 2 C1 C2 [x0, x1] [x0, x2] w5 HLb.out HLc.out (by omega) (by omega) hC1 hC2 HF.out.2.1 HF.out.2.2 hL5
  rw [Ch.part_two HX0.out HX1.out HX2.out] at H6
  have H6 := Lib.hid H6
  clear H5
  go_wp2_with fail
  refine H6.out.mono ?_
  rintro e w6 ⟨he, hb6⟩
  obtain rfl : e = .returned (.tuple #[.int .i64 1, .bool true, .int .i64 0]) := he
  have hB6 := hB5.trans (hb6.mono hB5.size)
  have hL6 : Laid w6 := hL.below hB6 hL.size
  have HLa := Lib.hid ((HLa.out.below hb6).more hb6.size)
  have HLb := Lib.hid ((HLb.out.below hb6).more hb6.size)
  have H7 := part_any K G0 G1 1 2 C0 C1 [x0] [x0, x1] w6 HLa.out HLb.out (by omega) (by omega) hC0 hC1 HF.out.1 HF.out.2.1 hL6
  rw [Ch.part_one HX0.out HX1.out] at H7
  have H7 := Lib.hid H7
  clear H6
  go_wp2_with fail
  refine H7.out.mono ?_
  rintro e w7 ⟨he, hb7⟩
  obtain rfl : e = .returned (.tuple #[.int .i64 0, .bool false, .int .i64 0]) := he
  have hB7 := hB6.trans (hb7.mono hB6.size)
  have hL7 : Laid w7 := hL.below hB7 hL.size
  have HLa := Lib.hid ((HLa.out.below hb7).more hb7.size)
  have HLb := Lib.hid ((HLb.out.below hb7).more hb7.size)
  have H8 := part_any K none G0 0 1 0 C0 [] [x0] w7 (lks_nil _ _ _) HLa.out (by omega) (by omega) (by omega) hC0 (fun x hx => by cases hx) HF.out.1 hL7
  rw [Ch.part_nil HX0.out] at H8
  have H8 := Lib.hid H8
  clear H7
  go_wp2_with fail
  refine H8.out.mono ?_
  rintro e w8 ⟨he, hb8⟩
  obtain rfl : e = .returned (.tuple #[.int .i64 0, .bool false, .int .i64 0]) := he
  have hB8 := hB7.trans (hb8.mono hB7.size)
  have hL8 : Laid w8 := hL.below hB8 hL.size
  have HLa := Lib.hid ((HLa.out.below hb8).more hb8.size)
  have HLb := Lib.hid ((HLb.out.below hb8).more hb8.size)
  clear H8 hb2 hb3 hb4 hb5 hb6 hb7 hb8 hB1 hB2 hB3 hB4 hB5 hB6 hB7 hL1 hL2 hL3 hL4 hL5 hL6 hL7 HLc HX2
  obtain ⟨b1, o1, rfl, hbb, _⟩ := HLb.out.rd.2 (by omega)
  obtain ⟨b0, o0, rfl, hba, _⟩ := HLa.out.rd.2 (by omega)
  have H9 := check_any K none 0 0 [] w8 (lks_nil _ _ _) (by omega) (by omega) (fun x hx => by cases hx) hL8
  rw [Ch.chk_of (Ch.allB_nil K)] at H9
  have H9 := Lib.hid H9
  go_wp2_with fail
  refine H9.out.mono ?_
  rintro e w9 ⟨rfl, hb9⟩
  have hB9 := hB8.trans (hb9.mono hB8.size)
  have hL9 : Laid w9 := hL.below hB9 hL.size
  have HLa := Lib.hid ((HLa.out.below hb9).more hb9.size)
  have HLb := Lib.hid ((HLb.out.below hb9).more hb9.size)
  have HA := check_any K (some ⟨b1, o1, none⟩) 2 C1 [x0, x1] w9 HLb.out (by omega) hC1 HF.out.2.1 hL9
  rw [Ch.chk_of (HX1.out.all HX0.out)] at HA
  have HA := Lib.hid HA
  clear H9
  go_wp2_with fail
  rename_i Kx hKx
  refine HA.out.mono ?_
  rintro e w10 ⟨rfl, hb10⟩
  have hB10 := hB9.trans (hb10.mono hB9.size)
  have hL10 : Laid w10 := hL.below hB10 hL.size
  have HLa := Lib.hid ((HLa.out.below hb10).more hb10.size)
  have HLb := Lib.hid ((HLb.out.below hb10).more hb10.size)
  clear HA
  refine hKx _ _ ?_
  clear hKx
  iterate 3 (refine wpList_step fun KK hKK => ?_; go_simp; refine hKK _ _ ?_; clear hKK KK)
  have hzl : zeroL.cells.length = 35 := rfl
  have hbl := lks_box w10 zeroL zero_ok 37
  have hcz : Ch.chk K [zeroL] = 80 := Ch.chk_no (by decide)
  have hzf : ∀ x ∈ [zeroL], Ch.fit x := by intro x hx; rw [List.mem_singleton] at hx; subst hx; exact ⟨by decide, by decide, by decide⟩
  have hBz : Below w.heap.size w (w10.alloc (.cells zeroL.cells.toArray 37)) := hB10.alloc hB10.size _
  have HB := check_any K (some ⟨w10.heap.size, 0, none⟩) 1 1 [zeroL] _ hbl (by omega) (by omega) hzf (hL.below hBz hL.size)
  have hzb := zero_built
  rw [hcz] at HB
  obtain ⟨XZ, hXZ⟩ : ∃ XZ, zeroL.cells = XZ := ⟨_, rfl⟩
  rw [hXZ] at HB hBz hzl hzb
  have HB := Lib.hid HB
  have HBZ := Lib.hid hBz
  clear hbl hcz hzf hXZ hBz
  refine wpList_want (by rfl) fun KK hKK => ?_
  refine wp_build_as 37 #[(1, .const (.int .i64 1))] rfl _ (by rfl) _ hzb ?_
  go_simp
  refine hKK _ _ ?_
  clear hKK KK
  refine wpList_want (by rfl) fun KK hKK => ?_
  refine wp_box_link (.tmp 138) rfl XZ (by rfl) hzl ?_
  go_simp
  refine hKK _ _ ?_
  clear hKK KK
  go_wp2_with fail
  refine HB.out.mono ?_
  rintro e w11 ⟨rfl, hb11⟩
  have hB11 := HBZ.out.trans (hb11.mono HBZ.out.size)
  have hb1011 : Below w10.heap.size w10 w11 := ((Below.refl _ w10).alloc (Nat.le_refl _) _).trans (hb11.mono (by simp))
  have hL11 : Laid w11 := hL.below hB11 hL.size
  have HLa := Lib.hid ((HLa.out.below hb1011).more hb1011.size)
  have HLb := Lib.hid ((HLb.out.below hb1011).more hb1011.size)
  have HC := check_any K (some ⟨b1, o1 + 35, none⟩) 1 (C1 - 1) [x1] w11 (lks_rest HLb.out) (by omega) (by omega) (by intro x hx; rw [List.mem_singleton] at hx; rw [hx]; exact HX1.out.fit) hL11
  rw [Ch.chk_no (by rw [HX1.out.no]; decide)] at HC
  have HC := Lib.hid HC
  clear HB HBZ
  go_wp2_with fail
  refine HC.out.mono ?_
  rintro e w12 ⟨rfl, hb12⟩
  have hB12 := hB11.trans (hb12.mono hB11.size)
  have hL12 : Laid w12 := hL.below hB12 hL.size
  have HLa := Lib.hid ((HLa.out.below hb12).more hb12.size)
  have HLb := Lib.hid ((HLb.out.below hb12).more hb12.size)
  have ht := fun w hL => tagged_any K Ch.noneS none 0 0 [] w (by decide) ⟨rfl, fun h => absurd h (by omega)⟩ (by intro x hx; cases hx) (by omega) (by omega) (Nat.zero_le _) hL
  have hN0 : Sh.tagged K (strInts Ch.noneS) [] = Ch.head K [] := rfl
  have hNl := head_len K []
  rw [hN0] at ht
  obtain ⟨N, hN⟩ : ∃ N, Ch.head K [] = N := ⟨_, rfl⟩
  rw [hN] at ht hNl
  have HD := Lib.hid (ht w12 hL12)
  have HN := Lib.hid (And.intro hN hNl)
  have HI : Hid ((Tryd.prog.info? 35).map (·.size) = some N.length) := by show _ = _; rw [hNl]; kernel_rfl
  clear HC ht hN0 hNl hN
  go_wp2_with fail
  refine HD.out.mono ?_
  rintro e w13 ⟨rfl, hb13⟩
  have hB13 := hB12.trans (hb13.mono hB12.size)
  have hL13 : Laid w13 := hL.below hB13 hL.size
  have HLa := Lib.hid ((HLa.out.below hb13).more hb13.size)
  have HLb := Lib.hid ((HLb.out.below hb13).more hb13.size)
  have hNew := Lib.hid (Ints.new w13 35 .u8 (List.replicate 32 0))
  clear HD
  obtain ⟨i0, hi, hz0, hz1, hz2⟩ := info_parts infoU8c
  go_wp2_with (first | (refine wpList_store_ints rfl 35 (.tmp 20) (.tmp 149) rfl w13.heap.size .u8 N (by rfl) (by rfl) 35 _ hNew.out (by rw [HN.out.2]; rfl) HI.out ?_; intro w14 hD14 hg14; have HD14 := Lib.hid hD14; clear hD14) | (at_builtin; refine wpList_append_rd _ rfl (.tmp 150) (.tmp 151) 23 rfl w14.heap.size 5 i0 (.int .u8 0) 1 1 Tryd.underlying23 hi hz0 hz1 hz2 rfl (by decide) _ 8 _ (by rfl) (World.ownsRow_lit (base := w14.heap.size) w14 _ 8 (Nat.le_refl _) (by decide) rfl) w14.heap.size _ 32 _ _ (by rfl) ((rd32 HD14.out HN.out.2).alloc (Nat.le_refl _) _) (u8_one _) (by decide) (by omega) (by simp) ?_; intro v15 w15 ho15 hg15 _) | (at_builtin; refine wpList_append_own_at _ rfl (.tmp 152) (.tmp 153) 23 rfl w14.heap.size 5 i0 (.int .u8 0) 1 1 Tryd.underlying23 hi hz0 hz1 hz2 rfl (by decide) _ (8 + 32) _ (by rfl) (ho15.alloc _) _ 3 3 [.int .u8 2, .int .u8 1, .int .u8 120] (by rfl) rfl (fun j u hj => by rw [Addr.add_flat, Nat.zero_add]; exact (cell_of_row _ _ j _ _ _ (heap_alloc_new _ _)).trans (by simpa using hj)) (by intro u hu; simp at hu; rcases hu with rfl | rfl | rfl <;> rfl) (by decide) (by omega) (by have := hg15.size; simp at this; simp; omega) ?_; intro v16 w16 ho16 hg16 _ _) | fail)
  skip
  rename_i Kz hKz
  have hB1314 : Below w13.heap.size w13 w14 := ((Below.refl _ w13).alloc (Nat.le_refl _) _).grown hg14 (by simp) (fun k e => by injection e with e; omega)
  have hB1415 : Below w14.heap.size w14 w15 := ((Below.refl _ w14).alloc (Nat.le_refl _) _).grown hg15 (by simp) (fun k e => by have e : some w14.heap.size = some k := e; injection e with e; omega)
  have hB1416 : Below w14.heap.size w14 w16 := (hB1415.alloc (by have := hB1415.size; omega) _).grown hg16 (by have := hB1415.size; simp; omega) (fun k e => (ho15.lt k e).1)
  have hB1316 : Below w13.heap.size w13 w16 := hB1314.trans (hB1416.mono hB1314.size)
  have hB16 : Below w.heap.size w w16 := hB13.trans (hB1316.mono hB13.size)
  have hL16 : Laid w16 := hL.below hB16 hL.size
  have HLa := Lib.hid ((HLa.out.below hB1316).more hB1316.size)
  have HLb := Lib.hid ((HLb.out.below hB1316).more hB1316.size)
  have hD16 : Ints w16 w13.heap.size 35 .u8 N := HD14.out.below hB1416 HD14.out.lt
  obtain ⟨A16, c16, rfl, hR16, hc16, hm16⟩ := own_slice' ho16
  obtain ⟨T, hT⟩ : ∃ T, [3, 4, 1, 6, 1, 0, 2, 32] ++ N ++ [2, 1, 120] = T := ⟨_, rfl⟩
  have hR16 : Rd w16 w16.heap.size 1 A16 43 (T.map (Value.int .u8)) := by rw [← hT]; simpa using hR16
  have hxo := HLa.out.all x0 (by simp)
  have hx0p : x0.prev = N := by rw [HX0.out.pv]; exact HN.out.1
  have hTb : ∀ x ∈ T, 0 ≤ x ∧ x < 256 := by
    intro x hx
    rw [← hT] at hx
    simp only [List.mem_append, List.mem_cons, List.not_mem_nil, or_false] at hx
    rcases hx with (h | h) | h
    · omega
    · rw [← hx0p] at h; exact hxo.pbyt x h
    · omega
  have hTx : Ch.text x0 = T := by rw [Ch.text_first x0 HX0.out.nd HX0.out.no HX0.out.dt hxo.plen hxo.pbyt, hx0p, hT]
  have hHd : Sh.tagged K (strInts Ch.linkS) T = Ch.head K [x0] := by rw [← hTx]; rfl
  obtain ⟨H, hH⟩ : ∃ H, Ch.head K [x0] = H := ⟨_, rfl⟩
  have hHl : H.length = 32 := by rw [← hH]; exact head_len K [x0]
  have hx1p : x1.prev = H := by rw [HX1.out.pv]; exact hH
  have C1' : ∀ W, Below w16.heap.size w16 W → Calls Tryd.prog 15 #[.slice none 0 0] W fun e w' => e = .returned (.agg (N.map (Value.int .u8)).toArray) ∧ Below W.heap.size W w' := by
    intro W hW
    have := head_any K none 0 0 [] W (lks_nil _ _ _) (by omega) (fun x hx => by cases hx) (hL16.below hW hL16.size)
    rw [HN.out.1] at this
    exact this
  have C2' : ∀ W, Below w16.heap.size w16 W → Calls Tryd.prog 15 #[.slice (some ⟨b0, o0, none⟩) 1 C0] W fun e w' => e = .returned (.agg (H.map (Value.int .u8)).toArray) ∧ Below W.heap.size W w' := by
    intro W hW
    have := head_any K (some ⟨b0, o0, none⟩) 1 C0 [x0] W ((HLa.out.below hW).more hW.size) (by omega) (fun x hx => by simp at hx; subst hx; exact HX0.out.fit) (hL16.below hW hL16.size)
    rw [hH] at this
    exact this
  have C3' : ∀ W, Below w16.heap.size w16 W → Calls Tryd.prog 19 #[.string Ch.linkS, .slice A16 43 c16] W fun e w' => e = .returned (.agg (H.map (Value.int .u8)).toArray) ∧ Below W.heap.size W w' := by
    intro W hW
    have := tagged_any K Ch.linkS A16 43 c16 T W (by decide) ((hR16.below hW).more hW.size) hTb (by omega) hc16 hm16 (hL16.below hW hL16.size)
    rw [hHd, hH] at this
    exact this
  have P0 : ∀ W, Below w16.heap.size w16 W → ∀ (j : Nat) (v : Value), (N.map (Value.int .u8))[j]? = some v → W.cell? ((⟨b0, o0 + 0 * 35 + 2, none⟩ : Addr).add j) = some v := by
    intro W hW
    have := lks_prev (k := 0) (x := x0) (HLa.out.below hW) rfl
    rw [hx0p] at this
    exact this
  have P1 : ∀ W, Below w16.heap.size w16 W → ∀ (j : Nat) (v : Value), (H.map (Value.int .u8))[j]? = some v → W.cell? ((⟨b1, o1 + 1 * 35 + 2, none⟩ : Addr).add j) = some v := by
    intro W hW
    have := lks_prev (k := 1) (x := x1) (HLb.out.below hW) rfl
    rw [hx1p] at this
    exact this
  have PS : ∀ W, Below w16.heap.size w16 W → ∀ (j : Nat) (v : Value), (N.map (Value.int .u8))[j]? = some v → W.cell? ((⟨w13.heap.size, 0, none⟩ : Addr).add j) = some v := by
    intro W hW
    exact ints_cells (fun i hi => by rw [Nat.zero_add]; exact (hD16.below hW hD16.lt).cell hi)
  have PN : ∀ W, Below w16.heap.size w16 W → W.cell? ⟨b1, o1 + 35 + 1, none⟩ = some (.int .i64 1) := by
    intro W hW
    have := lks_cell (k := 1) (x := x1) (HLb.out.below hW) rfl 1 _ x1.cell_o
    rw [HX1.out.no] at this
    exact this
  have hx1o := HLb.out.all x1 (by simp)
  have PD : ∀ W, Below w16.heap.size w16 W → W.cell? ⟨b1, o1 + 35 + 34, none⟩ = some (.slice x1.A 1 x1.c) := by
    intro W hW
    have := lks_cell (k := 1) (x := x1) (HLb.out.below hW) rfl 34 _ (x1.cell_d hx1o.plen)
    rw [HX1.out.dt] at this
    exact this
  have PC : ∀ W, Below w16.heap.size w16 W → (convert 23 9 (.slice x1.A 1 x1.c)).run Tryd.prog W = .ok (.string ⟨#[121]⟩) W := by
    intro W hW
    have hr := hx1o.rd.below hW
    rw [HX1.out.dt] at hr
    exact conv_text (P := Tryd.prog) (c := x1.c) W 23 9 5 Tryd.underlying23 Tryd.underlying5 Tryd.underlying9 hr
  have hqN := fun w => equal_digest w N N HN.out.2 HN.out.2
  have hqH := fun w => equal_digest w H H hHl hHl
  rw [decide_eq_true rfl] at hqN hqH
  have HIN : Hid ((Tryd.prog.info? 35).map (·.size) = some (N.map (Value.int .u8)).length) := by show _ = _; rw [List.length_map]; exact HI.out
  have HIH : Hid ((Tryd.prog.info? 35).map (·.size) = some (H.map (Value.int .u8)).length) := by show _ = _; rw [List.length_map, hHl, ← HN.out.2]; exact HI.out
  have HC := Lib.hid (And.intro C1' (And.intro C2' C3'))
  have HP := Lib.hid (And.intro P0 (And.intro P1 PS))
  have HB16 := Lib.hid hB16
  clear C1' C2' C3' P0 P1 PS hTb hTx hHd hH hHl hx1p hx0p hxo hT hR16 hD16 hB1314 hB1415 hB1416 hB1316 hB16 hg14 hg15 hg16 ho15 ho16 hL16 hB8 hB9 hB10 hB11 hB12 hB13
  have hS0 : Below w16.heap.size w16 w16.drew := (Below.refl _ _).drew
  refine wp_region_ord (fun w' => Below w16.heap.size w16 w') [(0, true), (1, true), (2, true), (3, true), (4, true), (5, true), (6, true), (8, true), (7, false), (9, true), (10, true), (11, true), (12, true), (14, true), (13, false), (15, false), (16, true), (17, true), (18, true), (19, true), (20, true), (21, true), (22, true), (23, true), (24, false), (25, true), (26, true), (27, true), (28, true), (29, true), (30, true), (31, true), (32, true), (33, true), (34, true), (35, true), (36, true), (37, true), (38, true), (39, true), (40, true), (41, true), (42, true)] (by kernel_rfl) (by kernel_rfl) rfl (by kernel_rfl) (fun x _ _ _ _ h => by cases x <;> exact h) hS0 ?_
  refine wpOrd_take rfl _ (by rfl) (by intro w' _; go_simp; try with_reducible rfl) fun KK hKK => ?_
  go_simp
  refine hKK _ ?_
  clear hKK KK
  refine wpOrd_take rfl _ (by rfl) (by intro w' _; go_simp; try with_reducible rfl) fun KK hKK => ?_
  go_simp
  refine hKK _ ?_
  clear hKK KK
  refine wpOrd_take rfl _ (by rfl) (by intro w' _; go_simp; try with_reducible rfl) fun KK hKK => ?_
  go_simp
  refine hKK _ ?_
  clear hKK KK
  refine wpOrd_take rfl _ (by rfl) (fun w' hS => run_load_exec 35 (.tmp 157) rfl ⟨b0, o0 + 0 * 35 + 2, none⟩ (by rfl) (N.map (Value.int .u8)) _ (HP.out.1 w' hS) Tryd.underlying35 (by rfl) HIN.out) fun KK hKK => ?_
  go_simp
  refine hKK _ ?_
  clear hKK KK
  refine wpOrd_take rfl _ (by rfl) (fun w' hS => run_load_exec 35 (.tmp 20) rfl ⟨w13.heap.size, 0, none⟩ (by rfl) (N.map (Value.int .u8)) _ (HP.out.2.2 w' hS) Tryd.underlying35 (by rfl) HIN.out) fun KK hKK => ?_
  go_simp
  refine hKK _ ?_
  clear hKK KK
  refine wpOrd_take rfl _ (by rfl) (by intro w' _; go_simp; try with_reducible rfl) fun KK hKK => ?_
  go_simp
  refine hKK _ ?_
  clear hKK KK
  refine wpOrd_take rfl _ (by rfl) (by intro w' _; go_simp; try with_reducible rfl) fun KK hKK => ?_
  go_simp
  refine hKK _ ?_
  clear hKK KK
  refine wpOrd_take rfl _ (by rfl) (fun w' hS => run_load_exec 35 (.tmp 20) rfl ⟨w13.heap.size, 0, none⟩ (by rfl) (N.map (Value.int .u8)) _ (HP.out.2.2 w' hS) Tryd.underlying35 (by rfl) HIN.out) fun KK hKK => ?_
  go_simp
  refine hKK _ ?_
  clear hKK KK
  refine wpOrd_force rfl (by rfl) fun KK hKK => ?_
  go_simp
  refine (HC.out.1 _ hS0).mono ?_
  rintro e w17 ⟨rfl, hb17⟩
  have hS17 : Below w16.heap.size w16 w17 := hS0.trans (hb17.mono hS0.size)
  refine hKK _ _ hS17 ?_
  clear hKK KK
  refine wpOrd_take rfl _ (by rfl) (by intro w' _; go_simp; try with_reducible rfl) fun KK hKK => ?_
  go_simp
  refine hKK _ ?_
  clear hKK KK
  refine wpOrd_take rfl _ (by rfl) (by intro w' _; go_simp; try with_reducible rfl) fun KK hKK => ?_
  go_simp
  refine hKK _ ?_
  clear hKK KK
  refine wpOrd_take rfl _ (by rfl) (by intro w' _; go_simp; try with_reducible rfl) fun KK hKK => ?_
  go_simp
  refine hKK _ ?_
  clear hKK KK
  refine wpOrd_take rfl _ (by rfl) (by intro w' _; go_simp; try with_reducible rfl) fun KK hKK => ?_
  go_simp
  refine hKK _ ?_
  clear hKK KK
  refine wpOrd_take rfl _ (by rfl) (by intro w' _; go_simp; try with_reducible rfl) fun KK hKK => ?_
  go_simp
  refine hKK _ ?_
  clear hKK KK
  refine wpOrd_force rfl (by rfl) fun KK hKK => ?_
  go_simp
  refine (HC.out.2.1 _ hS17).mono ?_
  rintro e w18 ⟨rfl, hb18⟩
  have hS18 : Below w16.heap.size w16 w18 := hS17.trans (hb18.mono hS17.size)
  refine hKK _ _ hS18 ?_
  clear hKK KK
  refine wpOrd_force rfl (by rfl) fun KK hKK => ?_
  go_simp
  refine (HC.out.2.2 _ hS18).mono ?_
  rintro e w19 ⟨rfl, hb19⟩
  have hS19 : Below w16.heap.size w16 w19 := hS18.trans (hb19.mono hS18.size)
  refine hKK _ _ hS19 ?_
  clear hKK KK
  refine wpOrd_take rfl _ (by rfl) (by intro w' _; go_simp; try with_reducible rfl) fun KK hKK => ?_
  go_simp
  refine hKK _ ?_
  clear hKK KK
  refine wpOrd_take rfl _ (by rfl) (by intro w' _; go_simp; try with_reducible rfl) fun KK hKK => ?_
  go_simp
  refine hKK _ ?_
  clear hKK KK
  refine wpOrd_take rfl _ (by rfl) (by intro w' _; go_simp; try with_reducible rfl) fun KK hKK => ?_
  go_simp
  refine hKK _ ?_
  clear hKK KK
  refine wpOrd_take rfl _ (by rfl) (by intro w' _; go_simp; try with_reducible rfl) fun KK hKK => ?_
  go_simp
  refine hKK _ ?_
  clear hKK KK
  refine wpOrd_take rfl _ (by rfl) (by intro w' _; go_simp; try with_reducible rfl) fun KK hKK => ?_
  go_simp
  refine hKK _ ?_
  clear hKK KK
  refine wpOrd_take rfl _ (by rfl) (by intro w' _; go_simp; try with_reducible rfl) fun KK hKK => ?_
  go_simp
  refine hKK _ ?_
  clear hKK KK
  refine wpOrd_take rfl _ (by rfl) (fun w' hS => run_load_exec 35 (.tmp 176) rfl ⟨b1, o1 + 1 * 35 + 2, none⟩ (by rfl) (H.map (Value.int .u8)) _ (HP.out.2.1 w' hS) Tryd.underlying35 (by rfl) HIH.out) fun KK hKK => ?_
  go_simp
  refine hKK _ ?_
  clear hKK KK
  refine wpOrd_take rfl _ (by rfl) (by intro w' _; go_simp; try with_reducible rfl) fun KK hKK => ?_
  go_simp
  refine hKK _ ?_
  clear hKK KK
  refine wpOrd_force rfl (by rfl) fun KK hKK => ?_
  go_simp
  refine (HC.out.2.1 _ hS19).mono ?_
  rintro e w20 ⟨rfl, hb20⟩
  have hS20 : Below w16.heap.size w16 w20 := hS19.trans (hb20.mono hS19.size)
  refine hKK _ _ hS20 ?_
  clear hKK KK
  refine wpOrd_take rfl _ (by rfl) (by intro w' _; go_simp; try with_reducible rfl) fun KK hKK => ?_
  go_simp
  refine hKK _ ?_
  clear hKK KK
  refine wpOrd_take rfl _ (by rfl) (by intro w' _; go_simp; try with_reducible rfl) fun KK hKK => ?_
  go_simp
  refine hKK _ ?_
  clear hKK KK
  refine wpOrd_take rfl _ (by rfl) (by intro w' _; go_simp; try with_reducible rfl) fun KK hKK => ?_
  go_simp
  refine hKK _ ?_
  clear hKK KK
  refine wpOrd_take rfl _ (by rfl) (by intro w' _; go_simp; try with_reducible rfl) fun KK hKK => ?_
  go_simp
  refine hKK _ ?_
  clear hKK KK
  refine wpOrd_take rfl _ (by rfl) (by intro w' _; go_simp; try with_reducible rfl) fun KK hKK => ?_
  go_simp
  refine hKK _ ?_
  clear hKK KK
  refine wpOrd_take rfl _ (by rfl) (by intro w' _; go_simp; try with_reducible rfl) fun KK hKK => ?_
  go_simp
  refine hKK _ ?_
  clear hKK KK
  refine wpOrd_take rfl _ (by rfl) (by intro w' hS; have h1 := PN w' hS; go_simp; try with_reducible rfl) fun KK hKK => ?_
  go_simp
  refine hKK _ ?_
  clear hKK KK
  refine wpOrd_take rfl _ (by rfl) (by intro w' _; go_simp; try with_reducible rfl) fun KK hKK => ?_
  go_simp
  refine hKK _ ?_
  clear hKK KK
  refine wpOrd_take rfl _ (by rfl) (by intro w' _; go_simp; try with_reducible rfl) fun KK hKK => ?_
  go_simp
  refine hKK _ ?_
  clear hKK KK
  refine wpOrd_take rfl _ (by rfl) (by intro w' _; go_simp; try with_reducible rfl) fun KK hKK => ?_
  go_simp
  refine hKK _ ?_
  clear hKK KK
  refine wpOrd_take rfl _ (by rfl) (by intro w' _; go_simp; try with_reducible rfl) fun KK hKK => ?_
  go_simp
  refine hKK _ ?_
  clear hKK KK
  refine wpOrd_take rfl _ (by rfl) (by intro w' _; go_simp; try with_reducible rfl) fun KK hKK => ?_
  go_simp
  refine hKK _ ?_
  clear hKK KK
  refine wpOrd_take rfl _ (by rfl) (by intro w' _; go_simp; try with_reducible rfl) fun KK hKK => ?_
  go_simp
  refine hKK _ ?_
  clear hKK KK
  refine wpOrd_take rfl _ (by rfl) (by intro w' hS; have h1 := PD w' hS; go_simp; try with_reducible rfl) fun KK hKK => ?_
  go_simp
  refine hKK _ ?_
  clear hKK KK
  refine wpOrd_take rfl _ (by rfl) (by intro w' hS; have h1 := PC w' hS; go_simp; try with_reducible rfl) fun KK hKK => ?_
  go_simp
  refine hKK _ ?_
  clear hKK KK
  refine wpOrd_take rfl _ (by rfl) (by intro w' _; go_simp; try with_reducible rfl) fun KK hKK => ?_
  go_simp
  refine hKK _ ?_
  clear hKK KK
  refine wpOrd_take rfl _ (by rfl) (by intro w' _; go_simp; try with_reducible rfl) fun KK hKK => ?_
  go_simp
  refine hKK _ ?_
  clear hKK KK
  refine wpOrd_take rfl _ (by rfl) (by intro w' _; go_simp; try with_reducible rfl) fun KK hKK => ?_
  go_simp
  refine hKK _ ?_
  clear hKK KK
  refine wpOrd_nil ?_
  show Kz _ _
  refine hKz _ _ ?_
  clear hKz
  go_wp2
  go_ret
  exact ⟨rfl, HB16.out.trans (hS20.mono HB16.out.size)⟩
end Go.Proofs.YtpjggokaolnbcaaDoor
