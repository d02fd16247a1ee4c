/- The head of a chain that has links. -/
import Derived.Test.YtpjggokaolnbcaaDoorLHead
namespace Go.Proofs.YtpjggokaolnbcaaDoor
open Go.RowKit
set_option linter.unusedVariables false
theorem info_link : (Tryd.prog.info? 37).map (·.size) = some 35 := by kernel_rfl
set_option maxRecDepth 100000 in
set_option maxHeartbeats 2000000 in
theorem head_link (K : Sh.Cst) (x : LkV) (b o n k c : Nat) (w : World) (hk : n = k + 1) (hn : n ≤ 1000000) (hc : ∀ i v, x.cells[i]? = some v → w.cell? ⟨b, o + k * 35 + i, none⟩ = some v) (hok : x.ok w w.heap.size) (hf : Ch.fit x) (hL : Laid w) :
    Calls Tryd.prog 15 #[.slice (some ⟨b, o, none⟩) n c] w fun e w' => e = .returned (.agg ((Sh.tagged K (strInts Ch.linkS) (Ch.text x)).map (Value.int .u8)).toArray) ∧ Below w.heap.size w w' := by
  have hnum := number_any
  have htx := text_any
  have hls := clist_any
  have hen := fun g c w h1 h2 => encode_list g c 4 (Ch.parts x) w rfl (by omega) (by omega) (Ch.parts_ok hf hok.plen) h1 h2
  have htl := Ch.text_length hf hok.plen
  have htb := Ch.text_bytes x
  unfold Ch.parts at hen
  obtain ⟨a, ha⟩ : ∃ a : Int, x.node = a := ⟨_, rfl⟩
  obtain ⟨d, hd⟩ : ∃ d : Int, x.no = d := ⟨_, rfl⟩
  obtain ⟨E, hE⟩ : ∃ E, Ch.text x = E := ⟨_, rfl⟩
  have hE2 : encEls [.int a, .int d, .txt (toBA x.prev), .txt (toBA x.data)] = E := by rw [← hE, ← ha, ← hd]; rfl
  have htt := fun A n c w h1 h2 h3 hL => tagged_any K Ch.linkS A n c E w (by decide) h1 (by rw [← hE]; exact htb) h2 h3 hL
  rw [ha, hd, hE2] at hen
  rw [hE] at htl htb ⊢
  have htp := fun A n c w h => htx A n c x.prev w h
  have htd := fun A n c w h => htx A n c x.data w h
  obtain ⟨SP, hSP⟩ : ∃ S, toBA x.prev = S := ⟨_, rfl⟩
  obtain ⟨SD, hSD⟩ : ∃ S, toBA x.data = S := ⟨_, rfl⟩
  rw [hSP, hSD] at hen
  rw [hSP] at htp
  rw [hSD] at htd
  unfold intV at hnum
  unfold txtV at htp htd
  unfold listV at hls hen
  have hUl := Sh.tagged_length K (strInts Ch.linkS) E
  obtain ⟨U, hU⟩ : ∃ U, Sh.tagged K (strInts Ch.linkS) E = U := ⟨_, rfl⟩
  rw [hU] at htt hUl ⊢
  have HTT := Lib.hid htt
  have HEN := Lib.hid hen
  have HTP := Lib.hid htp
  have HTD := Lib.hid htd
  have HNUM := Lib.hid hnum
  have HLS := Lib.hid hls
  have HTL := Lib.hid htl
  have HUl := Lib.hid hUl
  have HAD := Lib.hid (And.intro ha hd)
  clear htt hen htp htd hnum hls htl htb hUl hU hE hE2 hSP hSD htx ha hd
  have hz : (((n : Int) == 0) : Bool) = false := by simp; omega
  have e1 : (n : Int) - 1 = (k : Int) := by omega
  have k1 : (k : Int) < n := by omega
  have hbl : b < w.heap.size := World.block_lt_of_cell? w _ (hc 0 _ x.cell_n)
  have hlen := LkV.cells_length hok
  have hone := x.one
  have hD := Ints.new w 35 .u8 (List.replicate 32 0)
  have hB := (Below.refl w.heap.size w).alloc (Nat.le_refl _) (.cells ((List.replicate 32 (0 : Int)).map (Value.int .u8)).toArray 35)
  have hcw : ∀ (j : Nat) (v : Value), x.cells[j]? = some v → (w.alloc (.cells ((List.replicate 32 (0 : Int)).map (Value.int .u8)).toArray 35)).cell? ((⟨b, o + k * 35, none⟩ : Addr).add j) = some v := fun j v hv => by
    rw [Addr.add_flat]
    exact (hB.cell (p := ⟨b, o + k * 35 + j, none⟩) hbl).trans (hc j v hv)
  have c0 := x.cell_n
  have c1 := x.cell_o
  have cd := x.cell_d hok.plen
  have cp := fun i hi => x.cell_p hok.plen i hi
  obtain ⟨CS, hCS⟩ : ∃ CS, x.cells = CS := ⟨_, rfl⟩
  rw [hCS] at hlen hone hcw c0 c1 cd cp
  have HLEN := Lib.hid hlen
  have HI : Hid ((Tryd.prog.info? 37).map (·.size) = some CS.length) := by show _ = _; rw [hlen]; exact info_link
  have HCW := Lib.hid hcw
  have HONE := Lib.hid hone
  have HCC := Lib.hid (And.intro c0 (And.intro c1 (And.intro cd cp)))
  have HDB := Lib.hid (And.intro hD hB)
  clear hCS hlen hone hcw c0 c1 cd cp hc hD hB hk
  go_enter Tryd.func15, Tryd.ntmps15
  go_wp2_with (first
    | (refine wpList_load_cells rfl 37 (.tmp 14) rfl ⟨b, o + k * 35, none⟩ (by rfl) CS _ HCW.out Tryd.underlying37 (by rfl) HI.out ?_)
    | (obtain ⟨hD, hB⟩ := HDB.out; refine wpList_store_cells rfl 37 (.tmp 3) (.tmp 15) rfl (w.heap.size + 1) CS (by rfl) (by rfl) 37 _ (by have h := heap_alloc_new (w.alloc (.cells ((List.replicate 32 (0 : Int)).map (Value.int .u8)).toArray 35)) (.cells (#[.int .i64 0, .int .i64 0] ++ ((List.replicate 32 (0 : Int)).map (Value.int .u8)).toArray ++ #[.slice none 0 0]) 37); rw [World.size_alloc] at h; exact h) (by rw [HLEN.out]; rfl) HI.out HONE.out ?_; intro w2 hR2 hg2)
    | fail)
  have hX1 := hR2.lt
  have hBw : Below w.heap.size w w2 := (hB.alloc hB.size _).grown hg2 (by simp; omega) (fun k e => by injection e with e; omega)
  have hDw : Ints w2 w.heap.size 35 .u8 (List.replicate 32 0) := (hD.alloc _).grown hg2 (by simp)
  obtain ⟨c0, c1, cd, cp⟩ := HCC.out
  have q0 := hR2.cell c0
  have q1 := hR2.cell c1
  have qd := hR2.cell cd
  rw [HAD.out.1] at q0
  rw [HAD.out.2] at q1
  have hRp : Rd w2 (w.heap.size + 1 + 1) 1 (some ⟨w.heap.size + 1, 2, none⟩) 32 (x.prev.map (Value.int .u8)) := by
    refine ⟨by simp [hok.plen], fun _ => ⟨w.heap.size + 1, 2, rfl, by omega, fun j v hv => ?_⟩⟩
    rw [List.getElem?_map, Option.map_eq_some_iff] at hv
    obtain ⟨y, hy, rfl⟩ := hv
    have hj : j < 32 := by have := (List.getElem?_eq_some_iff.1 hy).1; rwa [hok.plen] at this
    have h := hR2.cell (cp j hj)
    rw [List.getD_eq_getElem?_getD, hy] at h
    exact h
  have hRd := hok.rd.below hBw
  have hK := (Below.refl (w.heap.size + 1 + 1) w2).drew
  have HRP := Lib.hid hRp
  have HRD := Lib.hid hRd
  have HBD := Lib.hid (And.intro hBw hDw)
  clear hg2 hD hB HDB c0 c1 cd cp HCC hRp hRd hBw hDw HCW
  go_region_held3 (fun w' => w'.cell? ⟨w.heap.size + 1, 0, none⟩ = some (.int .i64 a) ∧ w'.cell? ⟨w.heap.size + 1, 1, none⟩ = some (.int .i64 d) ∧ w'.cell? ⟨w.heap.size + 1, 34, none⟩ = some (.slice x.A x.data.length x.c))
    (first
      | (go_keep; done)
      | exact ⟨(hK.cell (p := ⟨w.heap.size + 1, 0, none⟩) (Nat.lt_succ_self _)).trans q0, (hK.cell (p := ⟨w.heap.size + 1, 1, none⟩) (Nat.lt_succ_self _)).trans q1, (hK.cell (p := ⟨w.heap.size + 1, 34, none⟩) (Nat.lt_succ_self _)).trans qd⟩)
    ((first
      | (go_at_call 28; (refine (HNUM.out _ _).mono ?_); rintro e wn ⟨rfl, hb⟩; have hK := hK.trans (hb.mono (Nat.le_trans hX1 hK.size)))
      | (go_at_call 29; (with_reducible refine (HTP.out _ _ _ _ ((HRP.out.below hK).more (Nat.le_trans hX1 hK.size))).mono ?_); rintro e wn ⟨rfl, hb⟩; have hK := hK.trans (hb.mono (Nat.le_trans hX1 hK.size)))
      | (go_at_call 29; (with_reducible refine (HTD.out _ _ _ _ ((HRD.out.below (hK.mono (by omega))).more (by have := hK.size; omega))).mono ?_); rintro e wn ⟨rfl, hb⟩; have hK := hK.trans (hb.mono (Nat.le_trans hX1 hK.size)))
      | (go_at_call 27; (refine (HLS.out _ _ _ _).mono ?_); rintro e wn ⟨rfl, hb⟩; have hE := ((rd_four _ a d SP SD _).below (hb.mono (by simp))).more (by have := hb.size; simpa using this); have hK := (hK.alloc (Nat.le_trans hX1 hK.size) _).trans (hb.mono (by have := hK.size; simp; omega)))
      | (go_at_call 26; (refine (HEN.out _ _ _ hE (by omega)).mono ?_); rintro e wn ⟨A5, c5, rfl, hR5, hl5, hc5, hb⟩; have hK := hK.trans (hb.mono (Nat.le_trans hX1 hK.size)))
      | fail))
  obtain ⟨hBw, hDw⟩ := HBD.out
  have hBn := hBw.trans (hK.mono (by omega))
  have hDn := hDw.below hK (by omega)
  have hLn := hL.below hBn hL.size
  have HF := Lib.hid (And.intro hR5 (And.intro hl5 (And.intro hc5 hLn)))
  have HI73 : Hid ((Tryd.prog.info? 35).map (·.size) = some U.length) := by show _ = _; rw [HUl.out]; kernel_rfl
  clear q0 q1 qd hR5 hl5 hc5 hLn hb hBw hDw hK HBD HRP HRD
  obtain ⟨ln, hln⟩ : ∃ ln, E.length = ln := ⟨_, rfl⟩
  rw [hln] at HF HTL ⊢
  clear hln
  go_wp2_with fail
  refine (HTT.out A5 ln c5 _ HF.out.1 (by have := HTL.out; omega) HF.out.2.1 HF.out.2.2.1 HF.out.2.2.2).mono ?_
  rintro e w7 ⟨rfl, hb7⟩
  have hD7 := hDn.below hb7 hDn.lt
  have hB7 := hBn.trans (hb7.mono hBn.size)
  clear HF hb7 hDn hBn
  go_wp2_with (refine wpList_store_ints rfl 35 (.tmp 2) (.tmp 35) rfl w.heap.size .u8 U (by rfl) (by rfl) 35 _ hD7 (by rw [HUl.out]; rfl) HI73.out ?_; intro w8 hD8 hg8)
  refine bodyPost_ret (results_cell_row rfl _ _ w.heap.size 35 _ (0, 0) _ (by rfl) hD8 Tryd.underlying35 (by rfl) (by simpa using HI73.out)) rfl ?_
  exact ⟨rfl, hB7.grown hg8 hB7.size (fun g e => by injection e with e; omega)⟩
/-- the head of a list of links, where the last one is fit -/
theorem head_any (K : Sh.Cst) (A : Option Addr) (n c : Nat) (xs : List LkV) (w : World) (h : Lks w w.heap.size A n xs) (hn : n ≤ 1000000) (hf : ∀ x, xs.getLast? = some x → Ch.fit x) (hL : Laid w) :
    Calls Tryd.prog 15 #[.slice A n c] w fun e w' => e = .returned (.agg ((Ch.head K xs).map (Value.int .u8)).toArray) ∧ Below w.heap.size w w' := by
  rcases Nat.eq_zero_or_pos n with h0 | h0
  · subst h0
    obtain rfl : xs = [] := List.eq_nil_of_length_eq_zero h.len
    exact head_none K A c w hL
  · obtain ⟨k, rfl⟩ : ∃ k, n = k + 1 := ⟨n - 1, by omega⟩
    obtain ⟨x, hx⟩ : ∃ x, xs[k]? = some x := ⟨_, List.getElem?_eq_getElem (by rw [h.len]; omega)⟩
    have hlast : xs.getLast? = some x := by
      rw [List.getLast?_eq_getElem?, h.len]
      exact hx
    obtain ⟨b, o, rfl, _, hc⟩ := h.at hx
    have e : Ch.head K xs = Sh.tagged K (strInts Ch.linkS) (Ch.text x) := by unfold Ch.head; rw [hlast]
    rw [e]
    exact head_link K x b o (k + 1) k c w rfl hn hc (h.all x (List.mem_of_getElem? hx)) (hf x hlast) hL
end Go.Proofs.YtpjggokaolnbcaaDoor
