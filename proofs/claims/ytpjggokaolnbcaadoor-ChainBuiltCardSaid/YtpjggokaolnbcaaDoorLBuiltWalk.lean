/- ChainBuilt: the walk (written by gen_lbuiltw.py). -/
import Derived.Test.YtpjggokaolnbcaaDoorLPartsWalk
import Derived.Test.YtpjggokaolnbcaaDoorLRows
namespace Go.Proofs.YtpjggokaolnbcaaDoor
open Go.RowKit
attribute [local go_sem] Oper.semAt_some
set_option linter.unusedVariables false
namespace Ch
/-- what the first loop keeps: a chain of a node's, built so far -/
structure made (K : Sh.Cst) (node : Int) (w0 wr : World) (A : Option Addr) (k C : Nat) (L : List LkV) : Prop where
  lks : Lks wr wr.heap.size A k L
  cap : k ≤ C
  nil : A = none → C = 0
  all : allB K L = true
  fits : ∀ y ∈ L, fit y ∧ y.node = node
  bel : Below w0.heap.size w0 wr
theorem made.start (K : Sh.Cst) (node : Int) {w0 wr : World} (h : Below w0.heap.size w0 wr) : made K node w0 wr none 0 0 [] := ⟨lks_nil _ _ _, Nat.le_refl _, fun _ => rfl, allB_nil K, fun y hy => (by cases hy), h⟩
theorem made.hd0 {K : Sh.Cst} {node : Int} {w0 wr : World} {A : Option Addr} {k C : Nat} {L : List LkV} (h : made K node w0 wr A k C L) : 0 < k → (gk L 0).node = node := fun hk =>
  (h.fits _ (gk_mem (L := L) (k := 0) (by rw [h.lks.len]; exact hk)).1).2
theorem made.step {K : Sh.Cst} {node : Int} {w0 wr wx : World} {A : Option Addr} {k C : Nat} {L : List LkV} (h : made K node w0 wr A k C L) (hk : k ≤ 100) (hn : 0 ≤ node ∧ node < 24) {G A' : Option Addr} {C' c' : Nat} {l : List Int} (hl : l.length ≤ 300)
    (hC : k + 1 ≤ C') (hL : Lks wx wx.heap.size G (k + 1) (L ++ [⟨node, k, head K L, l, A', c'⟩])) (hB : Below w0.heap.size w0 wx) : made K node w0 wx G (k + 1) C' (L ++ [⟨node, k, head K L, l, A', c'⟩]) := by
  refine ⟨hL, hC, ?_, ?_, ?_, hB⟩
  · intro e
    obtain ⟨b, o, e', _⟩ := hL.rd.2 (by omega)
    rw [e] at e'; cases e'
  · exact allB_snoc h.all (fun h0 => h.hd0 (by rw [← h.lks.len]; exact h0)) hn (by show (k : Int) = _; rw [h.lks.len]) (by show l.length ≤ 65536; omega) rfl
  · intro y hy
    rcases List.mem_append.1 hy with hy | hy
    · exact h.fits y hy
    · rw [List.mem_singleton] at hy; subst hy
      exact ⟨⟨by show _ ≤ node ∧ node < _; omega, by show _ ≤ (k : Int) ∧ (k : Int) < _; omega, by show l.length ≤ 2000; omega⟩, rfl⟩
end Ch
theorem made_below {K : Sh.Cst} {node : Int} {w0 wr wx : World} {A : Option Addr} {k C : Nat} {L : List LkV} (h : Ch.made K node w0 wr A k C L) (hb : Below wr.heap.size wr wx) : Ch.made K node w0 wx A k C L :=
  ⟨(h.lks.below hb).more hb.size, h.cap, h.nil, h.all, h.fits, h.bel.trans (hb.mono h.bel.size)⟩
set_option maxRecDepth 100000 in
set_option maxHeartbeats 4000000 in
theorem built_walk (K : Sh.Cst) (node : Int) (Al : Option Addr) (n cl : Nat) (R : List RwV) (w : World) (hR : Rws w w.heap.size Al n R) (hLd : Laid w) :
    Calls Tryd.prog 4 #[.int .i64 node, .slice Al n cl] w fun e w' => e = .returned (.bool true) ∧ Below w.heap.size w w' := by
  have HS := Lib.hid (sane_any K w hLd)
  have HR := Lib.hid hR
  have HLd := Lib.hid hLd
  clear hR hLd
  by_cases q1 : 12 < n
  · have f1 : (12 : Int) < (n : Int) := by omega
    go_enter Tryd.func4, Tryd.ntmps4
    go_wp2_with fail
    refine HS.out.mono ?_
    rintro e w1 ⟨rfl, hb1⟩
    go_wp2
    go_ret
    exact ⟨rfl, hb1⟩
  have f1 : ¬ (12 : Int) < (n : Int) := by omega
  have f1' : (n : Int) ≤ 12 := by omega
  by_cases q2 : node < 0
  · go_enter Tryd.func4, Tryd.ntmps4
    go_wp2_with fail
    refine HS.out.mono ?_
    rintro e w1 ⟨rfl, hb1⟩
    go_wp2
    go_ret
    exact ⟨rfl, hb1⟩
  by_cases q3 : 24 ≤ node
  · have q2' : 0 ≤ node := by omega
    go_enter Tryd.func4, Tryd.ntmps4
    go_wp2_with fail
    refine HS.out.mono ?_
    rintro e w1 ⟨rfl, hb1⟩
    go_wp2
    go_ret
    exact ⟨rfl, hb1⟩
  have q2' : 0 ≤ node := by omega
  have q3' : node < 24 := by omega
  go_enter Tryd.func4, Tryd.ntmps4
  go_wp2_with fail
  refine HS.out.mono ?_
  rintro e w1 ⟨rfl, hb1⟩
  have HB1 := Lib.hid hb1
  clear hb1 HS
  go_wp2
  go_loopw [5, 6] (fun x i wr => ∃ (k : Nat) (A : Option Addr) (C : Nat) (L : List LkV), k ≤ n ∧ i = .int .i64 k ∧ x = .slice A k C ∧ Ch.made K node w wr A k C L) (fun _ i _ => n - (intOf i).toNat)
  case atStart => exact ⟨0, none, 0, [], Nat.zero_le _, rfl, rfl, Ch.made.start K node HB1.out⟩
  case round =>
    obtain ⟨k, A, C, L, hk, rfl, rfl, hm⟩ := hrel
    have HM := Lib.hid hm
    clear hm
    by_cases hlt : k < n
    · obtain ⟨r, hr⟩ : ∃ r, R[k]? = some r := ⟨_, List.getElem?_eq_getElem (by rw [HR.out.len]; exact hlt)⟩
      have hRr := HR.out.below HM.out.bel
      have hok := hRr.all r (List.mem_of_getElem? hr)
      obtain ⟨b, o, rfl, hbw, hcell⟩ := hRr.at hr
      obtain ⟨rA, rc, rd⟩ := r
      obtain ⟨m, hrm⟩ : ∃ m, rd.length = m := ⟨_, rfl⟩
      have hcell2 : wr.cell? ⟨b, o + k, none⟩ = some (.slice rA m rc) := by rw [← hrm]; exact hcell
      clear hcell
      have hcell := hcell2
      clear hcell2
      have hrr : Rd wr w.heap.size 1 rA m (rd.map (Value.int .u8)) := by rw [← hrm]; exact hok.rd
      have hrb := hok.byt
      have hk0 : (0 : Int) ≤ (k : Int) := by omega
      have hk1 : (k : Int) < (n : Int) := by omega
      have hk2 : (k : Int) ≤ 12 := by omega
      by_cases h3 : 300 < m
      · have h4 : (300 : Int) < (m : Int) := by omega
        go_wp2
        go_ret
        exact ⟨rfl, HM.out.bel⟩
      · have h4 : ¬ (300 : Int) < (m : Int) := by omega
        have h5 : (m : Int) ≤ 300 := by omega
        have HA := Lib.hid (add_ok K A k C L node rA m rc rd wr HM.out.lks (by omega) HM.out.cap (fun y hy => (HM.out.fits y hy).1) (HLd.out.below HM.out.bel HLd.out.size) HM.out.all q2' q3' HM.out.hd0 (hrr.more HM.out.bel.size) hrb (by omega))
        have HRR := Lib.hid hrr
        have HRB := Lib.hid (And.intro hrb hrm)
        clear hrr hrb hok hRr hrm
        go_wp2_with fail
        refine HA.out.mono ?_
        rintro e w2 ⟨G, C', A', c', rfl, hC', hCm', hL', hb2⟩
        have hB2 := HM.out.bel.trans (hb2.mono HM.out.bel.size)
        have hN := HM.out.step (by omega) ⟨q2', q3'⟩ (l := rd) (by have := HRB.out.2; omega) hC' hL' hB2
        obtain ⟨bG, oG, rfl, hbG, _⟩ := hL'.rd.2 (by omega)
        have hgk : (L ++ [(⟨node, k, Ch.head K L, rd, A', c'⟩ : LkV)])[k]? = some ⟨node, k, Ch.head K L, rd, A', c'⟩ := by rw [List.getElem?_append_right (by rw [HM.out.lks.len]; exact Nat.le_refl _), HM.out.lks.len]; simp
        have hnx := hL'.all _ (List.mem_of_getElem? hgk)
        have hhl := head_len K L
        obtain ⟨H, hH⟩ : ∃ H, Ch.head K L = H := ⟨_, rfl⟩
        have hLW : ∀ W, Below w2.heap.size w2 W → Lks W W.heap.size A k L := fun W hW => (HM.out.lks.below (hb2.trans (hW.mono hb2.size))).more (by have := hb2.size; have := hW.size; omega)
        have C1 : ∀ W, Below w2.heap.size w2 W → Calls Tryd.prog 14 #[.slice (some ⟨bG, oG, none⟩) k C', .slice A k C] W fun e w' => e = .returned (.bool true) ∧ Below W.heap.size W w' := by
          intro W hW
          have h := same_any (some ⟨bG, oG, none⟩) A k k C' C ((L ++ [(⟨node, k, Ch.head K L, rd, A', c'⟩ : LkV)]).take k) L W (((hL'.below hW).more hW.size).take (by omega)) (hLW W hW) (by omega)
          rw [List.take_left' (by rw [HM.out.lks.len])] at h
          have hs : Ch.sameL L L = true := decide_eq_true ⟨rfl, fun j hj => by unfold Ch.sameV; simp⟩
          rw [hs] at h
          exact h
        have C2 : ∀ W, Below w2.heap.size w2 W → Calls Tryd.prog 15 #[.slice A k C] W fun e w' => e = .returned (.agg (H.map (Value.int .u8)).toArray) ∧ Below W.heap.size W w' := by
          intro W hW
          have := head_any K A k C L W (hLW W hW) (by omega) (fun x hx => (HM.out.fits x (List.mem_of_getLast? hx)).1) (HLd.out.below (hB2.trans (hW.mono hB2.size)) HLd.out.size)
          rw [hH] at this
          exact this
        have P0 : ∀ W, Below w2.heap.size w2 W → ∀ (j : Nat) (v : Value), (H.map (Value.int .u8))[j]? = some v → W.cell? ((⟨bG, oG + k * 35 + 2, none⟩ : Addr).add j) = some v := by
          intro W hW
          have := lks_prev (hL'.below hW) hgk
          rw [← hH]
          exact this
        have PN : ∀ W, Below w2.heap.size w2 W → W.cell? ⟨bG, oG + k * 35, none⟩ = some (.int .i64 node) := fun W hW => lks_cell (hL'.below hW) hgk 0 _ (LkV.cell_n _)
        have PO : ∀ W, Below w2.heap.size w2 W → W.cell? ⟨bG, oG + k * 35 + 1, none⟩ = some (.int .i64 k) := fun W hW => lks_cell (hL'.below hW) hgk 1 _ (LkV.cell_o _)
        have PD : ∀ W, Below w2.heap.size w2 W → W.cell? ⟨bG, oG + k * 35 + 34, none⟩ = some (.slice A' m c') := by
          intro W hW
          have := lks_cell (hL'.below hW) hgk 34 _ (LkV.cell_d _ hnx.plen)
          rw [← HRB.out.2]
          exact this
        have PL : ∀ W, Below w2.heap.size w2 W → W.cell? ⟨b, o + k, none⟩ = some (.slice rA m rc) := fun W hW => (((hb2.trans (hW.mono hb2.size)).mono HM.out.bel.size).cell (p := ⟨b, o + k, none⟩) hbw).trans hcell
        obtain ⟨SS, hSS⟩ : ∃ SS, toBA rd = SS := ⟨_, rfl⟩
        have V1 : ∀ W, Below w2.heap.size w2 W → (convert 23 9 (.slice A' m c')).run Tryd.prog W = .ok (.string SS) W := by
          intro W hW
          have hr := hnx.rd.below hW
          have hr : Rd W w2.heap.size 1 A' m (rd.map (Value.int .u8)) := by rw [← HRB.out.2]; exact hr
          rw [← hSS]
          exact conv_text (P := Tryd.prog) (c := c') W 23 9 5 Tryd.underlying23 Tryd.underlying5 Tryd.underlying9 hr
        have V2 : ∀ W, Below w2.heap.size w2 W → (convert 23 9 (.slice rA m rc)).run Tryd.prog W = .ok (.string SS) W := by
          intro W hW
          have hr := HRR.out.below ((hb2.trans (hW.mono hb2.size)).mono HM.out.bel.size)
          rw [← hSS]
          exact conv_text (P := Tryd.prog) (c := rc) W 23 9 5 Tryd.underlying23 Tryd.underlying5 Tryd.underlying9 hr
        rw [hH] at hhl
        have hq := fun w => equal_digest w H H hhl hhl
        rw [decide_eq_true rfl] at hq
        have HI : Hid ((Tryd.prog.info? 35).map (·.size) = some (H.map (Value.int .u8)).length) := by show _ = _; rw [List.length_map, hhl]; kernel_rfl
        have r1 := fun w => run_to (w := w) (some ⟨bG, oG, none⟩) (k + 1) C' k (by omega) (fun h => by cases h)
        have HC := Lib.hid (And.intro C1 C2)
        have HP := Lib.hid P0
        rw [hH] at hN
        have HN := Lib.hid hN
        have hS0 : Below w2.heap.size w2 w2.drew := (Below.refl _ _).drew
        have k1 : (k : Int) < ((k + 1 : Nat) : Int) := by omega
        have k2 : ((k + 1 : Nat) : Int) = (k : Int) + 1 := by omega
        have k3 : (k : Int) < (k : Int) + 1 := by omega
        have kw : IntKind.i64.wrap ((k : Int) + 1) = (k : Int) + 1 := by simp only [IntKind.wrap, IntKind.bits, IntKind.signed]; simp; omega
        have HB2 := Lib.hid hB2
        clear C1 C2 P0 hN hLW hL' hgk hnx hH hSS hhl hB2 HA
        go_wp2_with fail
        rename_i Kz hKz
        refine wp_region_ord (fun w' => Below w2.heap.size w2 w') [(0, true), (1, true), (2, true), (3, true), (4, true), (5, true), (6, true), (7, true), (8, true), (9, true), (10, true), (11, true), (12, true), (13, true), (14, false), (15, true), (16, true), (17, true), (18, true), (19, true), (20, true), (21, true), (22, true), (23, true), (24, false), (25, true), (26, true), (27, true), (28, true), (29, true), (30, true), (31, true), (32, true), (33, true), (34, true), (35, true), (36, true), (37, true), (38, true), (39, true), (40, true), (41, true), (42, true), (43, true), (44, true), (45, true), (46, true), (47, true), (48, true), (49, true), (50, true), (51, true), (52, true), (53, true), (54, true), (55, true), (56, true), (57, true), (58, true)] (by kernel_rfl) (by kernel_rfl) rfl (by kernel_rfl) (fun x _ _ _ _ h => by cases x <;> exact h) hS0 ?_
        refine wpOrd_take rfl _ (by rfl) (by intro w' _; go_simp; try with_reducible rfl) fun KK hKK => ?_
        go_simp
        refine hKK _ ?_
        clear hKK KK
        refine wpOrd_take rfl _ (by rfl) (by intro w' _; go_simp; try with_reducible rfl) fun KK hKK => ?_
        go_simp
        refine hKK _ ?_
        clear hKK KK
        refine wpOrd_take rfl _ (by rfl) (by intro w' _; go_simp; try with_reducible rfl) fun KK hKK => ?_
        go_simp
        refine hKK _ ?_
        clear hKK KK
        refine wpOrd_take rfl _ (by rfl) (by intro w' _; go_simp; try with_reducible rfl) fun KK hKK => ?_
        go_simp
        refine hKK _ ?_
        clear hKK KK
        refine wpOrd_take rfl _ (by rfl) (by intro w' _; go_simp; try with_reducible rfl) fun KK hKK => ?_
        go_simp
        refine hKK _ ?_
        clear hKK KK
        refine wpOrd_take rfl _ (by rfl) (by intro w' _; go_simp; try with_reducible rfl) fun KK hKK => ?_
        go_simp
        refine hKK _ ?_
        clear hKK KK
        refine wpOrd_take rfl _ (by rfl) (by intro w' _; go_simp; try with_reducible rfl) fun KK hKK => ?_
        go_simp
        refine hKK _ ?_
        clear hKK KK
        refine wpOrd_take rfl _ (by rfl) (by intro w' _; go_simp; try with_reducible rfl) fun KK hKK => ?_
        go_simp
        refine hKK _ ?_
        clear hKK KK
        refine wpOrd_take rfl _ (by rfl) (by intro w' _; go_simp; try with_reducible rfl) fun KK hKK => ?_
        go_simp
        refine hKK _ ?_
        clear hKK KK
        refine wpOrd_take rfl _ (by rfl) (by intro w' _; go_simp; try with_reducible rfl) fun KK hKK => ?_
        go_simp
        refine hKK _ ?_
        clear hKK KK
        refine wpOrd_take rfl _ (by rfl) (by intro w' _; go_simp; try with_reducible rfl) fun KK hKK => ?_
        go_simp
        refine hKK _ ?_
        clear hKK KK
        refine wpOrd_take rfl _ (by rfl) (by intro w' _; go_simp; try with_reducible rfl) fun KK hKK => ?_
        go_simp
        refine hKK _ ?_
        clear hKK KK
        refine wpOrd_take rfl _ (by rfl) (by intro w' hS; have h1 := r1 w'; go_simp; try with_reducible rfl) fun KK hKK => ?_
        go_simp
        refine hKK _ ?_
        clear hKK KK
        refine wpOrd_take rfl _ (by rfl) (by intro w' _; go_simp; try with_reducible rfl) fun KK hKK => ?_
        go_simp
        refine hKK _ ?_
        clear hKK KK
        refine wpOrd_force rfl (by rfl) fun KK hKK => ?_
        go_simp
        refine (HC.out.1 _ hS0).mono ?_
        rintro e w3 ⟨rfl, hb3⟩
        have hS3 : Below w2.heap.size w2 w3 := hS0.trans (hb3.mono hS0.size)
        refine hKK _ _ hS3 ?_
        clear hKK KK
        refine wpOrd_take rfl _ (by rfl) (by intro w' _; go_simp; try with_reducible rfl) fun KK hKK => ?_
        go_simp
        refine hKK _ ?_
        clear hKK KK
        refine wpOrd_take rfl _ (by rfl) (by intro w' _; go_simp; try with_reducible rfl) fun KK hKK => ?_
        go_simp
        refine hKK _ ?_
        clear hKK KK
        refine wpOrd_take rfl _ (by rfl) (by intro w' _; go_simp; try with_reducible rfl) fun KK hKK => ?_
        go_simp
        refine hKK _ ?_
        clear hKK KK
        refine wpOrd_take rfl _ (by rfl) (by intro w' _; go_simp; try with_reducible rfl) fun KK hKK => ?_
        go_simp
        refine hKK _ ?_
        clear hKK KK
        refine wpOrd_take rfl _ (by rfl) (by intro w' _; go_simp; try with_reducible rfl) fun KK hKK => ?_
        go_simp
        refine hKK _ ?_
        clear hKK KK
        refine wpOrd_take rfl _ (by rfl) (by intro w' _; go_simp; try with_reducible rfl) fun KK hKK => ?_
        go_simp
        refine hKK _ ?_
        clear hKK KK
        refine wpOrd_take rfl _ (by rfl) (by intro w' _; go_simp; try with_reducible rfl) fun KK hKK => ?_
        go_simp
        refine hKK _ ?_
        clear hKK KK
        refine wpOrd_take rfl _ (by rfl) (fun w' hS => run_load_exec 35 (.tmp 66) rfl ⟨bG, oG + k * 35 + 2, none⟩ (by rfl) (H.map (Value.int .u8)) _ (HP.out w' hS) Tryd.underlying35 (by rfl) HI.out) fun KK hKK => ?_
        go_simp
        refine hKK _ ?_
        clear hKK KK
        refine wpOrd_take rfl _ (by rfl) (by intro w' _; go_simp; try with_reducible rfl) fun KK hKK => ?_
        go_simp
        refine hKK _ ?_
        clear hKK KK
        refine wpOrd_force rfl (by rfl) fun KK hKK => ?_
        go_simp
        refine (HC.out.2 _ hS3).mono ?_
        rintro e w4 ⟨rfl, hb4⟩
        have hS4 : Below w2.heap.size w2 w4 := hS3.trans (hb4.mono hS3.size)
        refine hKK _ _ hS4 ?_
        clear hKK KK
        refine wpOrd_take rfl _ (by rfl) (by intro w' _; go_simp; try with_reducible rfl) fun KK hKK => ?_
        go_simp
        refine hKK _ ?_
        clear hKK KK
        refine wpOrd_take rfl _ (by rfl) (by intro w' _; go_simp; try with_reducible rfl) fun KK hKK => ?_
        go_simp
        refine hKK _ ?_
        clear hKK KK
        refine wpOrd_take rfl _ (by rfl) (by intro w' _; go_simp; try with_reducible rfl) fun KK hKK => ?_
        go_simp
        refine hKK _ ?_
        clear hKK KK
        refine wpOrd_take rfl _ (by rfl) (by intro w' _; go_simp; try with_reducible rfl) fun KK hKK => ?_
        go_simp
        refine hKK _ ?_
        clear hKK KK
        refine wpOrd_take rfl _ (by rfl) (by intro w' _; go_simp; try with_reducible rfl) fun KK hKK => ?_
        go_simp
        refine hKK _ ?_
        clear hKK KK
        refine wpOrd_take rfl _ (by rfl) (by intro w' _; go_simp; try with_reducible rfl) fun KK hKK => ?_
        go_simp
        refine hKK _ ?_
        clear hKK KK
        refine wpOrd_take rfl _ (by rfl) (by intro w' _; go_simp; try with_reducible rfl) fun KK hKK => ?_
        go_simp
        refine hKK _ ?_
        clear hKK KK
        refine wpOrd_take rfl _ (by rfl) (by intro w' hS; have h1 := PO w' hS; go_simp; try with_reducible rfl) fun KK hKK => ?_
        go_simp
        refine hKK _ ?_
        clear hKK KK
        refine wpOrd_take rfl _ (by rfl) (by intro w' _; go_simp; try with_reducible rfl) fun KK hKK => ?_
        go_simp
        refine hKK _ ?_
        clear hKK KK
        refine wpOrd_take rfl _ (by rfl) (by intro w' _; go_simp; try with_reducible rfl) fun KK hKK => ?_
        go_simp
        refine hKK _ ?_
        clear hKK KK
        refine wpOrd_take rfl _ (by rfl) (by intro w' _; go_simp; try with_reducible rfl) fun KK hKK => ?_
        go_simp
        refine hKK _ ?_
        clear hKK KK
        refine wpOrd_take rfl _ (by rfl) (by intro w' _; go_simp; try with_reducible rfl) fun KK hKK => ?_
        go_simp
        refine hKK _ ?_
        clear hKK KK
        refine wpOrd_take rfl _ (by rfl) (by intro w' _; go_simp; try with_reducible rfl) fun KK hKK => ?_
        go_simp
        refine hKK _ ?_
        clear hKK KK
        refine wpOrd_take rfl _ (by rfl) (by intro w' _; go_simp; try with_reducible rfl) fun KK hKK => ?_
        go_simp
        refine hKK _ ?_
        clear hKK KK
        refine wpOrd_take rfl _ (by rfl) (by intro w' _; go_simp; try with_reducible rfl) fun KK hKK => ?_
        go_simp
        refine hKK _ ?_
        clear hKK KK
        refine wpOrd_take rfl _ (by rfl) (by intro w' _; go_simp; try with_reducible rfl) fun KK hKK => ?_
        go_simp
        refine hKK _ ?_
        clear hKK KK
        refine wpOrd_take rfl _ (by rfl) (by intro w' hS; have h1 := PN w' hS; go_simp; try with_reducible rfl) fun KK hKK => ?_
        go_simp
        refine hKK _ ?_
        clear hKK KK
        refine wpOrd_take rfl _ (by rfl) (by intro w' _; go_simp; try with_reducible rfl) fun KK hKK => ?_
        go_simp
        refine hKK _ ?_
        clear hKK KK
        refine wpOrd_take rfl _ (by rfl) (by intro w' _; go_simp; try with_reducible rfl) fun KK hKK => ?_
        go_simp
        refine hKK _ ?_
        clear hKK KK
        refine wpOrd_take rfl _ (by rfl) (by intro w' _; go_simp; try with_reducible rfl) fun KK hKK => ?_
        go_simp
        refine hKK _ ?_
        clear hKK KK
        refine wpOrd_take rfl _ (by rfl) (by intro w' _; go_simp; try with_reducible rfl) fun KK hKK => ?_
        go_simp
        refine hKK _ ?_
        clear hKK KK
        refine wpOrd_take rfl _ (by rfl) (by intro w' _; go_simp; try with_reducible rfl) fun KK hKK => ?_
        go_simp
        refine hKK _ ?_
        clear hKK KK
        refine wpOrd_take rfl _ (by rfl) (by intro w' _; go_simp; try with_reducible rfl) fun KK hKK => ?_
        go_simp
        refine hKK _ ?_
        clear hKK KK
        refine wpOrd_take rfl _ (by rfl) (by intro w' _; go_simp; try with_reducible rfl) fun KK hKK => ?_
        go_simp
        refine hKK _ ?_
        clear hKK KK
        refine wpOrd_take rfl _ (by rfl) (by intro w' _; go_simp; try with_reducible rfl) fun KK hKK => ?_
        go_simp
        refine hKK _ ?_
        clear hKK KK
        refine wpOrd_take rfl _ (by rfl) (by intro w' hS; have h1 := PD w' hS; go_simp; try with_reducible rfl) fun KK hKK => ?_
        go_simp
        refine hKK _ ?_
        clear hKK KK
        refine wpOrd_take rfl _ (by rfl) (by intro w' hS; have h1 := V1 w' hS; go_simp; try with_reducible rfl) fun KK hKK => ?_
        go_simp
        refine hKK _ ?_
        clear hKK KK
        refine wpOrd_take rfl _ (by rfl) (by intro w' _; go_simp; try with_reducible rfl) fun KK hKK => ?_
        go_simp
        refine hKK _ ?_
        clear hKK KK
        refine wpOrd_take rfl _ (by rfl) (by intro w' _; go_simp; try with_reducible rfl) fun KK hKK => ?_
        go_simp
        refine hKK _ ?_
        clear hKK KK
        refine wpOrd_take rfl _ (by rfl) (by intro w' _; go_simp; try with_reducible rfl) fun KK hKK => ?_
        go_simp
        refine hKK _ ?_
        clear hKK KK
        refine wpOrd_take rfl _ (by rfl) (by intro w' hS; have h1 := PL w' hS; go_simp; try with_reducible rfl) fun KK hKK => ?_
        go_simp
        refine hKK _ ?_
        clear hKK KK
        refine wpOrd_take rfl _ (by rfl) (by intro w' hS; have h1 := V2 w' hS; go_simp; try with_reducible rfl) fun KK hKK => ?_
        go_simp
        refine hKK _ ?_
        clear hKK KK
        refine wpOrd_take rfl _ (by rfl) (by intro w' _; go_simp; try with_reducible rfl) fun KK hKK => ?_
        go_simp
        refine hKK _ ?_
        clear hKK KK
        refine wpOrd_take rfl _ (by rfl) (by intro w' _; go_simp; try with_reducible rfl) fun KK hKK => ?_
        go_simp
        refine hKK _ ?_
        clear hKK KK
        refine wpOrd_nil ?_
        show Kz _ _
        refine hKz _ _ ?_
        clear hKz
        have hF : Ch.made K node w w4 (some ⟨bG, oG, none⟩) (k + 1) C' (L ++ [⟨node, k, H, rd, A', c'⟩]) := made_below HN.out hS4
        have HF := Lib.hid hF
        clear hF
        go_wp2
        go_roundw
        case rel => exact ⟨k + 1, some ⟨bG, oG, none⟩, C', _, by omega, by go_num, rfl, HF.out⟩
        case measure => simp [intOf]; omega
    · obtain rfl : k = n := by omega
      have HR' := HM.out
      go_wp2
      go_loopw [9] (fun i wx => ∃ (j : Nat), j ≤ k + 1 ∧ i = .int .i64 j ∧ Below wr.heap.size wr wx) (fun i _ => k + 1 - (intOf i).toNat)
      case atStart => exact ⟨0, Nat.zero_le _, rfl, Below.refl _ _⟩
      case round =>
        obtain ⟨j, hj, rfl, hbx⟩ := hrel
        by_cases hjl : j ≤ k
        · have g1 : (j : Int) ≤ (k : Int) := by omega
          have g2 : (j : Int) ≤ 12 := by omega
          have r1 := fun w => run_to (w := w) A k C j (by have := HM.out.cap; omega) (fun h => ⟨by have := HM.out.cap; have := HM.out.nil h; omega, HM.out.nil h⟩)
          have hbw := HM.out.bel.trans (hbx.mono HM.out.bel.size)
          have HCk := check_any K A j C (L.take j) wr (((HM.out.lks.below hbx).more hbx.size).take hjl) (by omega) (by have := HM.out.cap; omega) (fun y hy => (HM.out.fits y (List.mem_of_mem_take hy)).1) (HLd.out.below hbw HLd.out.size)
          rw [Ch.chk_of (Ch.allB_take HM.out.all j)] at HCk
          have HCk := Lib.hid HCk
          go_wp2_with fail
          refine HCk.out.mono ?_
          rintro e w2 ⟨rfl, hb2⟩
          go_wp2
          go_roundw
          case rel => exact ⟨j + 1, by omega, by go_num, hbx.trans (hb2.mono hbx.size)⟩
          case measure => simp [intOf]; omega
        · obtain rfl : j = k + 1 := by omega
          go_wp2
          go_ret
          exact ⟨rfl, HM.out.bel.trans (hbx.mono HM.out.bel.size)⟩
end Go.Proofs.YtpjggokaolnbcaaDoor
