/- The reference's Text of a chain (written by gen_lreftext.py). -/
import Derived.Test.YtpjggokaolnbcaaDoorLRefEncode
import Derived.Test.YtpjggokaolnbcaaDoorLGrow
namespace Go.Proofs.YtpjggokaolnbcaaDoor
open Go.RowKit
attribute [local go_sem] Oper.semAt_some
set_option linter.unusedVariables false
set_option maxRecDepth 100000 in
set_option maxHeartbeats 1000000 in
theorem rtext_none (A : Option Addr) (c : Nat) (w : World) : Calls Tryd.prog 31 #[.slice A 0 c] w fun e w' => e = .returned (.tuple #[.string Ch.noneS, .slice none 0 0]) ∧ w' = w := by
  go_enter Tryd.func31, Tryd.ntmps31
  go_wp2
  go_ret2
  exact ⟨rfl, rfl⟩
theorem take_snoc {l : List Int} {k : Nat} (hk : k < l.length) : l.take (k + 1) = l.take k ++ [l.getD k 0] := by
  rw [List.take_add_one, List.getElem?_eq_getElem hk, List.getD_eq_getElem?_getD, List.getElem?_eq_getElem hk]; rfl
set_option maxRecDepth 100000 in
set_option maxHeartbeats 4000000 in
theorem rtext_link (x : LkV) (b o n k c : Nat) (w : World) (hk : n = k + 1) (hn : n ≤ 1000000) (hc : ∀ i v, x.cells[i]? = some v → w.cell? ⟨b, o + k * 35 + i, none⟩ = some v) (hok : x.ok w w.heap.size) (hf : Ch.fit x) :
    Calls Tryd.prog 31 #[.slice (some ⟨b, o, none⟩) n c] w fun e w' => ∃ A' c', e = .returned (.tuple #[.string Ch.linkS, .slice A' (Ch.text x).length c']) ∧ Rd w' w'.heap.size 1 A' (Ch.text x).length ((Ch.text x).map (Value.int .u8)) ∧ (Ch.text x).length ≤ c' ∧ c' ≤ maxLen ∧ Below w.heap.size w w' := by
  obtain ⟨i0, hi, hz0, hz1, hz2⟩ := info_parts infoU8c
  have hnum := rnumber_any
  have htx := rtext_any
  have hen := fun g c w h1 h2 => rEncode_list g c 4 (Ch.parts x) w rfl (by omega) (by omega) (Ch.parts_ok hf hok.plen) h1 h2
  unfold Ch.parts at hen
  obtain ⟨a, ha⟩ : ∃ a : Int, x.node = a := ⟨_, rfl⟩
  obtain ⟨d, hd⟩ : ∃ d : Int, x.no = d := ⟨_, rfl⟩
  obtain ⟨E, hE⟩ : ∃ E, Ch.text x = E := ⟨_, rfl⟩
  have hE2 : encEls [.int a, .int d, .txt (toBA x.prev), .txt (toBA x.data)] = E := by rw [← hE, ← ha, ← hd]; rfl
  rw [ha, hd, hE2] at hen
  rw [hE]
  have htp := fun A n c w h => htx A n c x.prev w h
  have htd := fun A n c w h => htx A n c x.data w h
  obtain ⟨SP, hSP⟩ : ∃ S, toBA x.prev = S := ⟨_, rfl⟩
  obtain ⟨SD, hSD⟩ : ∃ S, toBA x.data = S := ⟨_, rfl⟩
  rw [hSP, hSD] at hen
  rw [hSP] at htp
  rw [hSD] at htd
  unfold intV at hnum
  unfold txtV at htp htd
  unfold listV at hen
  have HEN := Lib.hid hen
  have HTP := Lib.hid htp
  have HTD := Lib.hid htd
  have HNUM := Lib.hid hnum
  have HAD := Lib.hid (And.intro ha hd)
  clear hen htp htd hnum hE hE2 hSP hSD htx ha hd
  have hz : (((n : Int) == 0) : Bool) = false := by simp; omega
  have e1 : (n : Int) - 1 = (k : Int) := by omega
  have k1 : (k : Int) < n := by omega
  have hbl : b < w.heap.size := World.block_lt_of_cell? w _ (hc 0 _ x.cell_n)
  have hlen := LkV.cells_length hok
  have hone := x.one
  have hcw : ∀ (j : Nat) (v : Value), x.cells[j]? = some v → w.cell? ((⟨b, o + k * 35, none⟩ : Addr).add j) = some v := fun j v hv => by
    rw [Addr.add_flat]
    exact hc j v hv
  have c0 := x.cell_n
  have c1 := x.cell_o
  have cd := x.cell_d hok.plen
  have cp := fun i hi => x.cell_p hok.plen i hi
  have hpl := hok.plen
  obtain ⟨CS, hCS⟩ : ∃ CS, x.cells = CS := ⟨_, rfl⟩
  rw [hCS] at hlen hone hcw c0 c1 cd cp
  have HLEN := Lib.hid hlen
  have HI : Hid ((Tryd.prog.info? 37).map (·.size) = some CS.length) := by show _ = _; rw [hlen]; exact info_link
  have HCW := Lib.hid hcw
  have HONE := Lib.hid hone
  have HCC := Lib.hid (And.intro c0 (And.intro c1 (And.intro cd cp)))
  have HOK := Lib.hid hok
  clear hCS hlen hone hcw c0 c1 cd cp hc hk hok
  go_enter Tryd.func31, Tryd.ntmps31
  go_wp2_with (first
    | (refine wpList_load_cells rfl 37 (.tmp 16) rfl ⟨b, o + k * 35, none⟩ (by rfl) CS _ HCW.out Tryd.underlying37 (by rfl) HI.out ?_)
    | (refine wpList_store_cells rfl 37 (.tmp 4) (.tmp 17) rfl w.heap.size CS (by rfl) (by rfl) 37 _ (heap_alloc_new w _) (by rw [HLEN.out]; rfl) HI.out HONE.out ?_; intro w2 hR2 hg2)
    | fail)
  have hX1 := hR2.lt
  have hBw : Below w.heap.size w w2 := ((Below.refl _ w).alloc (Nat.le_refl _) _).grown hg2 (by simp) (fun k e => by injection e with e; omega)
  have HR2 := Lib.hid hR2
  have HBW := Lib.hid hBw
  have HP := Lib.hid hpl
  clear hR2 hg2 hBw hpl
  go_loopw [5, 6] (fun v i wr => ∃ (j : Nat) (u : Value), u = v ∧ j ≤ 32 ∧ i = .int .i64 j ∧ One w2 w2.heap.size wr 5 1 u j ((x.prev.take j).map (Value.int .u8))) (fun _ i _ => 32 - (intOf i).toNat)
  case atStart => exact ⟨0, _, rfl, Nat.zero_le _, rfl, One.start _ _ _⟩
  case round =>
    obtain ⟨j, v, hvu, hj, rfl, T⟩ := hrel
    subst hvu
    by_cases hlt : j < 32
    · have j1 : (j : Int) < 32 := by omega
      have j2 : (0 : Int) ≤ j := by omega
      have hp0 := (HR2.out.below T.bel hX1).cell (HCC.out.2.2.2 j hlt)
      obtain ⟨pk, hpk⟩ : ∃ pk, x.prev.getD j 0 = pk := ⟨_, rfl⟩
      rw [hpk] at hp0
      have hts : x.prev.take (j + 1) = x.prev.take j ++ [pk] := by rw [take_snoc (by rw [HP.out]; exact hlt), hpk]
      have HTS := Lib.hid hts
      clear hpk hts
      go_wp2_with (first | (at_builtin; refine wpList_append_own_at _ rfl (.tmp 22) (.tmp 27) 23 rfl w2.heap.size 5 i0 (.int .u8 0) 1 1 Tryd.underlying23 hi hz0 hz1 hz2 rfl (by decide) _ j _ (by rfl) (T.own.alloc _) _ 1 1 [.int .u8 pk] (by rfl) rfl (one_at _ _ _ _ (by simp)) (fun u hu => by simp at hu; subst hu; rfl) (by unfold maxLen; omega) (by omega) (by have := T.size; simp; omega) ?_; intro v3 w3 ho3 hg3 _ _) | fail)
      have T3 : One w2 w2.heap.size w3 5 1 v3 (j + 1) ((x.prev.take (j + 1)).map (Value.int .u8)) := by
        rw [HTS.out, List.map_append]
        exact (T.alloc _).grew ho3 hg3
      clear T ho3 hg3
      have HT3 := Lib.hid T3
      clear T3
      go_roundw
      case rel => exact ⟨j + 1, v3, rfl, by omega, by go_num, HT3.out⟩
      case measure => simp [intOf]; omega
    · obtain rfl : j = 32 := by omega
      obtain ⟨A5, c5, rfl, hR5, hl5, hc5⟩ := own_slice' T.own
      rw [List.take_of_length_le (by rw [HP.out]; exact Nat.le_refl _)] at hR5
      have hrow := HR2.out.below T.bel hX1
      have hBr := HBW.out.trans (T.bel.mono (Nat.le_of_lt hX1))
      have hXr : w.heap.size < wr.heap.size := Nat.lt_of_lt_of_le hX1 T.size
      obtain ⟨c0, c1, cd, _⟩ := HCC.out
      have q0 := hrow.cell c0
      have q1 := hrow.cell c1
      have qd := hrow.cell cd
      rw [HAD.out.1] at q0
      rw [HAD.out.2] at q1
      have hQ : ∀ W, Below wr.heap.size wr W → W.cell? ⟨w.heap.size, 0, none⟩ = some (.int .i64 a) ∧ W.cell? ⟨w.heap.size, 1, none⟩ = some (.int .i64 d) ∧ W.cell? ⟨w.heap.size, 34, none⟩ = some (.slice x.A x.data.length x.c) := fun W hW =>
        ⟨(hW.cell (p := ⟨w.heap.size, 0, none⟩) hXr).trans q0, (hW.cell (p := ⟨w.heap.size, 1, none⟩) hXr).trans q1, (hW.cell (p := ⟨w.heap.size, 34, none⟩) hXr).trans qd⟩
      have hNM : ∀ z W, Calls Tryd.prog 39 #[.int .i64 z] W fun e w' => e = .returned (.agg #[.int .i64 1, .int .i64 z, .string ⟨#[]⟩, .slice none 0 0]) ∧ Below W.heap.size W w' := fun z W => HNUM.out z W
      have hTP : ∀ W, Below wr.heap.size wr W → Calls Tryd.prog 40 #[.slice A5 32 c5] W fun e w' => e = .returned (.agg #[.int .i64 2, .int .i64 0, .string SP, .slice none 0 0]) ∧ Below W.heap.size W w' := fun W hW => HTP.out A5 32 c5 W ((hR5.below hW).more hW.size)
      have hTD : ∀ W, Below wr.heap.size wr W → Calls Tryd.prog 40 #[.slice x.A x.data.length x.c] W fun e w' => e = .returned (.agg #[.int .i64 2, .int .i64 0, .string SD, .slice none 0 0]) ∧ Below W.heap.size W w' := fun W hW => HTD.out x.A x.data.length x.c W ((HOK.out.rd.below (hBr.trans (hW.mono hBr.size))).more (by have := hBr.size; have := hW.size; omega))
      have HC := Lib.hid (And.intro hNM (And.intro hTP hTD))
      have HQ := Lib.hid hQ
      have HBR := Lib.hid hBr
      have hS0 : Below wr.heap.size wr wr.drew := (Below.refl _ _).drew
      have g32 : ¬ (32 : Int) < 32 := by omega
      clear hNM hTP hTD hQ hBr q0 q1 qd c0 c1 cd hrow T hR5
      go_wp2_with fail
      rename_i Kz hKz
      refine wp_region_ord (fun w' => Below wr.heap.size wr w') [(0, true), (1, true), (3, true), (4, true), (6, true), (8, true), (9, true), (2, false), (5, false), (7, false), (10, false), (11, false), (12, true), (13, false), (14, true), (15, true), (16, true), (17, true), (18, true)] (by kernel_rfl) (by kernel_rfl) rfl (by kernel_rfl) (fun x _ _ _ _ h => by cases x <;> exact h) hS0 ?_
      refine wpOrd_take rfl _ (by rfl) (by intro w' hS; obtain ⟨h1, h2, h3⟩ := HQ.out w' hS; go_simp; try with_reducible rfl) fun KK hKK => ?_
      go_simp
      refine hKK _ ?_
      clear hKK KK
      refine wpOrd_take rfl _ (by rfl) (by intro w' hS; obtain ⟨h1, h2, h3⟩ := HQ.out w' hS; go_simp; try with_reducible rfl) fun KK hKK => ?_
      go_simp
      refine hKK _ ?_
      clear hKK KK
      refine wpOrd_take rfl _ (by rfl) (by intro w' hS; obtain ⟨h1, h2, h3⟩ := HQ.out w' hS; go_simp; try with_reducible rfl) fun KK hKK => ?_
      go_simp
      refine hKK _ ?_
      clear hKK KK
      refine wpOrd_take rfl _ (by rfl) (by intro w' hS; obtain ⟨h1, h2, h3⟩ := HQ.out w' hS; go_simp; try with_reducible rfl) fun KK hKK => ?_
      go_simp
      refine hKK _ ?_
      clear hKK KK
      refine wpOrd_take rfl _ (by rfl) (by intro w' hS; obtain ⟨h1, h2, h3⟩ := HQ.out w' hS; go_simp; try with_reducible rfl) fun KK hKK => ?_
      go_simp
      refine hKK _ ?_
      clear hKK KK
      refine wpOrd_take rfl _ (by rfl) (by intro w' hS; obtain ⟨h1, h2, h3⟩ := HQ.out w' hS; go_simp; try with_reducible rfl) fun KK hKK => ?_
      go_simp
      refine hKK _ ?_
      clear hKK KK
      refine wpOrd_take rfl _ (by rfl) (by intro w' hS; obtain ⟨h1, h2, h3⟩ := HQ.out w' hS; go_simp; try with_reducible rfl) fun KK hKK => ?_
      go_simp
      refine hKK _ ?_
      clear hKK KK
      refine wpOrd_force rfl (by rfl) fun KK hKK => ?_
      go_simp
      refine (HC.out.1 _ _).mono ?_
      rintro e w10 ⟨rfl, hb10⟩
      have hS10 : Below wr.heap.size wr w10 := hS0.trans (hb10.mono hS0.size)
      refine hKK _ _ hS10 ?_
      clear hKK KK
      refine wpOrd_force rfl (by rfl) fun KK hKK => ?_
      go_simp
      refine (HC.out.1 _ _).mono ?_
      rintro e w11 ⟨rfl, hb11⟩
      have hS11 : Below wr.heap.size wr w11 := hS10.trans (hb11.mono hS10.size)
      refine hKK _ _ hS11 ?_
      clear hKK KK
      refine wpOrd_force rfl (by rfl) fun KK hKK => ?_
      go_simp
      refine (HC.out.2.1 _ hS11).mono ?_
      rintro e w12 ⟨rfl, hb12⟩
      have hS12 : Below wr.heap.size wr w12 := hS11.trans (hb12.mono hS11.size)
      refine hKK _ _ hS12 ?_
      clear hKK KK
      refine wpOrd_force rfl (by rfl) fun KK hKK => ?_
      go_simp
      refine (HC.out.2.2 _ hS12).mono ?_
      rintro e w13 ⟨rfl, hb13⟩
      have hS13 : Below wr.heap.size wr w13 := hS12.trans (hb13.mono hS12.size)
      refine hKK _ _ hS13 ?_
      clear hKK KK
      refine wpOrd_force rfl (by rfl) fun KK hKK => ?_
      go_simp
      have hr4 := (rd_four w13 a d SP SD 52).more (B' := (w13.alloc (.cells #[.int .i64 1, .int .i64 a, .string ⟨#[]⟩, .slice none 0 0, .int .i64 1, .int .i64 d, .string ⟨#[]⟩, .slice none 0 0, .int .i64 2, .int .i64 0, .string SP, .slice none 0 0, .int .i64 2, .int .i64 0, .string SD, .slice none 0 0] 52)).heap.size) (by simp)
      have hS14 := hS13.alloc hS13.size (.cells #[.int .i64 1, .int .i64 a, .string ⟨#[]⟩, .slice none 0 0, .int .i64 1, .int .i64 d, .string ⟨#[]⟩, .slice none 0 0, .int .i64 2, .int .i64 0, .string SP, .slice none 0 0, .int .i64 2, .int .i64 0, .string SD, .slice none 0 0] 52)
      refine hKK _ _ hS14 ?_
      clear hKK KK
      refine wpOrd_take rfl _ (by rfl) (by intro w' hS; obtain ⟨h1, h2, h3⟩ := HQ.out w' hS; go_simp; try with_reducible rfl) fun KK hKK => ?_
      go_simp
      refine hKK _ ?_
      clear hKK KK
      refine wpOrd_force rfl (by rfl) fun KK hKK => ?_
      go_simp
      refine (HEN.out _ _ _ hr4 (by omega)).mono ?_
      rintro e w15 ⟨A6, c6, rfl, hR6, hl6, hc6, hb15⟩
      have hS15 : Below wr.heap.size wr w15 := hS14.trans (hb15.mono hS14.size)
      refine hKK _ _ hS15 ?_
      clear hKK KK
      refine wpOrd_take rfl _ (by rfl) (by intro w' hS; obtain ⟨h1, h2, h3⟩ := HQ.out w' hS; go_simp; try with_reducible rfl) fun KK hKK => ?_
      go_simp
      refine hKK _ ?_
      clear hKK KK
      refine wpOrd_take rfl _ (by rfl) (by intro w' hS; obtain ⟨h1, h2, h3⟩ := HQ.out w' hS; go_simp; try with_reducible rfl) fun KK hKK => ?_
      go_simp
      refine hKK _ ?_
      clear hKK KK
      refine wpOrd_take rfl _ (by rfl) (by intro w' hS; obtain ⟨h1, h2, h3⟩ := HQ.out w' hS; go_simp; try with_reducible rfl) fun KK hKK => ?_
      go_simp
      refine hKK _ ?_
      clear hKK KK
      refine wpOrd_take rfl _ (by rfl) (by intro w' hS; obtain ⟨h1, h2, h3⟩ := HQ.out w' hS; go_simp; try with_reducible rfl) fun KK hKK => ?_
      go_simp
      refine hKK _ ?_
      clear hKK KK
      refine wpOrd_take rfl _ (by rfl) (by intro w' hS; obtain ⟨h1, h2, h3⟩ := HQ.out w' hS; go_simp; try with_reducible rfl) fun KK hKK => ?_
      go_simp
      refine hKK _ ?_
      clear hKK KK
      refine wpOrd_nil ?_
      show Kz _ _
      refine hKz _ _ ?_
      clear hKz
      have HF := Lib.hid (And.intro hR6 (And.intro hl6 (And.intro hc6 (HBR.out.trans (hS15.mono HBR.out.size)))))
      clear hR6 hl6 hc6
      go_wp2
      go_ret2
      exact ⟨A6, c6, rfl, HF.out.1, HF.out.2.1, HF.out.2.2.1, HF.out.2.2.2⟩
end Go.Proofs.YtpjggokaolnbcaaDoor
