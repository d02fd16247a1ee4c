/- The reference's codec: numerals. -/
import Derived.Test.YtpjggokaolnbcaaDoorLCodec4
import Derived.Deep.AppendLies
import Derived.Test.YtpjggokaolnbcaaDoorLGrow
import Derived.Test.YtpjggokaolnbcaaDoorLHead2
namespace Go.Proofs.YtpjggokaolnbcaaDoor
open Go.RowKit
set_option linter.unusedVariables false
/-- a byte of a numeral that goes on -/
theorem or128 (u : Nat) : bits .or .u8 (IntKind.u8.wrap (u : Int)) 128 = ((u % 128 + 128 : Nat) : Int) := by
  have h : ∀ x : Fin 256, bits .or .u8 ((x.val : Nat) : Int) 128 = ((x.val % 128 + 128 : Nat) : Int) := by decide +kernel
  have e : IntKind.u8.wrap (u : Int) = ((u % 256 : Nat) : Int) := by
    rw [show IntKind.u8.wrap (u : Int) = (u : Int) % 256 by simp [IntKind.wrap, IntKind.bits, IntKind.signed]]; omega
  rw [e, h ⟨u % 256, Nat.mod_lt _ (by decide)⟩]
  show (((u % 256) % 128 + 128 : Nat) : Int) = _
  omega
/-- a row of bytes of one's own comes back -/
def OwnPost (bs : List Int) (w : World) (e : Ending) (w' : World) : Prop :=
  ∃ g cap, e = .returned (.slice (some ⟨g, 0, none⟩) bs.length cap) ∧ w'.ownsRow w.heap.size 5 1 (.slice (some ⟨g, 0, none⟩) bs.length cap) bs.length (bs.map (Value.int .u8)) ∧ Below w.heap.size w w'
theorem ret_own1 {x y : Int} (w : World) (h : x = y) : OwnPost [y] w (.returned (.slice (some ⟨w.heap.size, 0, none⟩) 1 1)) (w.alloc (.cells #[.int .u8 x] 5)) :=
  ⟨w.heap.size, 1, rfl, h ▸ World.ownsRow_lit w #[.int .u8 x] 1 (Nat.le_refl _) (by decide) rfl, (Below.refl _ _).alloc (Nat.le_refl _) _⟩
theorem numL_pos (u : Nat) : 0 < (Cd.numL u).length := by
  by_cases h : u < 128
  · rw [Cd.numL_small h]; simp
  · rw [Cd.numL_big h]; simp
set_option maxRecDepth 100000 in
set_option maxHeartbeats 1000000 in
theorem rnum_small (u : Nat) (h : u < 128) (w : World) : Calls Tryd.prog 60 #[.int .u64 u] w (OwnPost (Cd.numL u) w) := by
  rw [Cd.numL_small h]
  have h1 : (u : Int) < 128 := by omega
  go_enter Tryd.func60, Tryd.ntmps60
  go_wp2
  go_ret
  exact ret_own1 w (by first | rfl | omega)
set_option maxRecDepth 100000 in
set_option maxHeartbeats 1000000 in
theorem rnum_big (u q r x : Int) (h1 : 128 ≤ u) (h2 : u < 18446744073709551616) (hq : u / 128 = q) (hr : u % 128 = r) (r0 : 0 ≤ r) (r1 : r < 128) (hx : r + 128 = x) (L : List Int) (hLp : 0 < L.length) (hLl : L.length ≤ 10) (ih : ∀ w, Calls Tryd.prog 60 #[.int .u64 q] w (OwnPost L w)) (w : World) :
    Calls Tryd.prog 60 #[.int .u64 u] w (OwnPost (x :: L) w) := by
  obtain ⟨i0, hi, hz0, hz1, hz2⟩ := info_parts infoU8c
  have hown := World.ownsRow_lit (e := 5) (size := 1) (base := w.heap.size) w #[.int .u8 x] 1 (Nat.le_refl _) (by decide) rfl
  have hB := (Below.refl w.heap.size w).alloc (Nat.le_refl _) (.cells #[.int .u8 x] 5)
  have HO := Lib.hid (And.intro hown hB)
  obtain ⟨P, hP⟩ : ∃ P, OwnPost (x :: L) w = P := ⟨_, rfl⟩
  rw [hP]
  have HP := Lib.hid hP
  clear hown hB hP
  go_enter Tryd.func60, Tryd.ntmps60
  go_wp2_with fail
  refine (ih _).mono ?_
  rintro e w2 ⟨g, cap, rfl, ho, hb⟩
  obtain ⟨hown, hB⟩ := HO.out
  have hown2 := own_below hown hb
  have hB2 := hB.trans (hb.mono (by simp))
  have hsz : w.heap.size ≤ w2.heap.size := hB2.size
  have hc : ∀ j u, (L.map (Value.int .u8))[j]? = some u → w2.cell? ((⟨g, 0, none⟩ : Addr).add j) = some u := fun j u hj => by
    have hlt : j < L.length := by have := (List.getElem?_eq_some_iff.1 hj).1; simpa using this
    rw [show (⟨g, 0, none⟩ : Addr).add j = ⟨g, j, none⟩ by (simp [Addr.add]; exact fun h => h.symm), ho.cellAt j (by omega), hj]
  obtain ⟨m, hm⟩ : ∃ m, L.length = m := ⟨_, rfl⟩
  have hNL : (L.map (Value.int .u8)).length = m := by rw [List.length_map, hm]
  rw [hm] at hLp hLl ⊢
  have HM := Lib.hid hm
  clear hb ho hown hm
  go_wp2_with (at_builtin; refine wpList_append_lies _ rfl (.tmp 12) (.tmp 15) 23 rfl w.heap.size 5 i0 (.int .u8 0) 1 1 Tryd.underlying23 hi hz0 hz1 hz2 rfl (by decide) _ 1 _ (by rfl) hown2 ⟨g, 0, none⟩ m cap (L.map (Value.int .u8)) (by rfl) (by omega) hc (fun u hu => by obtain ⟨y, _, rfl⟩ := List.mem_map.1 hu; rfl) hLp (by unfold maxLen; omega) (by omega) hsz _ rfl ?_; intro g3 cap3 w3 ho3 hg3 hl3 hlt3)
  have hB3 := hB2.grown hg3 hB2.size (fun k e => by have e' : some w.heap.size = some k := e; injection e' with e'; omega)
  go_wp2
  have h9 := HP.out
  have h8 := HM.out
  subst h9
  subst h8
  refine ⟨g3, cap3, by rw [List.length_cons, Nat.add_comm L.length 1]; rfl, ?_, hB3⟩
  rw [List.length_cons, Nat.add_comm L.length 1]
  exact ho3
/-- the reference's numeral -/
theorem rnumeral_any : ∀ (k u : Nat), k ≤ 9 → u < 128 ^ (k + 1) → u < 18446744073709551616 → ∀ w, Calls Tryd.prog 60 #[.int .u64 u] w (OwnPost (Cd.numL u) w)
  | 0, u, _, h, _, w => rnum_small u (by simpa using h) w
  | k + 1, u, hk, h, h2, w => by
    by_cases h0 : u < 128
    · exact rnum_small u h0 w
    · have hd : u / 128 < 128 ^ (k + 1) := by
        rw [Nat.div_lt_iff_lt_mul (by decide), ← Nat.pow_succ]; exact h
      have ih := rnumeral_any k (u / 128) (by omega) hd (by omega)
      rw [Cd.numL_big h0, or128 u]
      exact rnum_big u ((u / 128 : Nat) : Int) ((u % 128 : Nat) : Int) ((u % 128 + 128 : Nat) : Int) (by omega) (by omega) (by omega) (by omega) (by omega) (by omega) (by omega) (Cd.numL (u / 128)) (numL_pos _)
        (by have := Cd.numL_len k (u / 128) hd; omega) ih w
end Go.Proofs.YtpjggokaolnbcaaDoor
/- The reference's codec, lists of integers and texts: checks, the unsigned form. -/
namespace Go.Proofs.YtpjggokaolnbcaaDoor
open Go.RowKit
set_option linter.unusedVariables false
def vcells (cs : List Value) : Obj := .cells cs.toArray 52
theorem vbox (w : World) (cs : List Value) (i : Nat) (v : Value) (h : cs[i]? = some v) : (w.alloc (vcells cs)).cell? ⟨w.heap.size, i, none⟩ = some v := by
  unfold vcells
  rw [cell_of_row _ w.heap.size i _ _ _ (heap_alloc_new w _)]; simpa using h
set_option maxRecDepth 100000 in
set_option maxHeartbeats 1000000 in
theorem rformed_el (x : El) (w : World) : Calls Tryd.prog 58 #[.agg x.cells.toArray] w fun e w' => e = .returned (.bool true) ∧ Below w.heap.size w w' := by
  cases x with
  | int z =>
    unfold El.cells
    go_enter Tryd.func58, Tryd.ntmps58
    go_wp2
    go_ret
    exact ⟨rfl, (Below.refl _ _).alloc (Nat.le_refl _) _⟩
  | txt s =>
    unfold El.cells
    go_enter Tryd.func58, Tryd.ntmps58
    go_wp2
    go_ret
    exact ⟨rfl, (Below.refl _ _).alloc (Nat.le_refl _) _⟩
set_option maxRecDepth 100000 in
set_option maxHeartbeats 1000000 in
theorem rdepth_el (x : El) (w : World) : Calls Tryd.prog 59 #[.agg x.cells.toArray] w fun e w' => e = .returned (.int .i64 0) ∧ Below w.heap.size w w' := by
  cases x with
  | int z =>
    unfold El.cells
    go_enter Tryd.func59, Tryd.ntmps59
    go_wp2
    go_ret
    exact ⟨rfl, (Below.refl _ _).alloc (Nat.le_refl _) _⟩
  | txt s =>
    unfold El.cells
    go_enter Tryd.func59, Tryd.ntmps59
    go_wp2
    go_ret
    exact ⟨rfl, (Below.refl _ _).alloc (Nat.le_refl _) _⟩
set_option maxRecDepth 100000 in
set_option maxHeartbeats 2000000 in
theorem rformed_list (g c n : Nat) (l : List El) (w : World) (hl : l.length = n) (hp : 0 < n) (hn : n ≤ 1000) (hr : Rd w w.heap.size 4 (some ⟨g, 0, none⟩) n (elsCells l)) (hnc : n ≤ c) :
    Calls Tryd.prog 58 #[listV (some ⟨g, 0, none⟩) n c] w fun e w' => e = .returned (.bool true) ∧ Below w.heap.size w w' := by
  have hB := (Below.refl w.heap.size w).alloc (Nat.le_refl _) (vcells [.int .i64 3, .int .i64 0, .string ⟨#[]⟩, .slice (some ⟨g, 0, none⟩) n c])
  have hk : ∀ wx, Below (w.heap.size + 1) (w.alloc (vcells [.int .i64 3, .int .i64 0, .string ⟨#[]⟩, .slice (some ⟨g, 0, none⟩) n c])) wx → wx.cell? ⟨w.heap.size, 1, none⟩ = some (.int .i64 0) ∧ wx.cell? ⟨w.heap.size, 2, none⟩ = some (.string ⟨#[]⟩) ∧ wx.cell? ⟨w.heap.size, 3, none⟩ = some (.slice (some ⟨g, 0, none⟩) n c) := fun wx hx =>
    ⟨(hx.cell (p := ⟨w.heap.size, 1, none⟩) (Nat.lt_succ_self _)).trans (vbox w _ 1 _ rfl), (hx.cell (p := ⟨w.heap.size, 2, none⟩) (Nat.lt_succ_self _)).trans (vbox w _ 2 _ rfl), (hx.cell (p := ⟨w.heap.size, 3, none⟩) (Nat.lt_succ_self _)).trans (vbox w _ 3 _ rfl)⟩
  have HL := Lib.hid hl
  have HR := Lib.hid (hr.below hB)
  have HK := Lib.hid hk
  have HB := Lib.hid hB
  have hf := rformed_el
  have hst : (∀ wx, wx = w.alloc (vcells [.int .i64 3, .int .i64 0, .string ⟨#[]⟩, .slice (some ⟨g, 0, none⟩) n c]) → Below (w.heap.size + 1) (w.alloc (vcells [.int .i64 3, .int .i64 0, .string ⟨#[]⟩, .slice (some ⟨g, 0, none⟩) n c])) wx) := fun wx h => h ▸ Below.refl _ _
  have HST := Lib.hid hst
  have hg := rd_lt hr hp
  clear hl hr hk hB hst
  unfold listV
  unfold vcells at *
  go_enter Tryd.func58, Tryd.ntmps58
  go_wp2
  go_loopw [3] (fun i wr => ∃ k : Nat, k ≤ n ∧ i = .int .i64 k ∧ Below (w.heap.size + 1) (w.alloc (.cells ([.int .i64 3, .int .i64 0, .string ⟨#[]⟩, .slice (some ⟨g, 0, none⟩) n c] : List Value).toArray 52)) wr) (fun i _ => n - (intOf i).toNat)
  case atStart => exact ⟨0, Nat.zero_le _, rfl, HST.out _ rfl⟩
  case round =>
    obtain ⟨k, hk, rfl, hx⟩ := hrel
    obtain ⟨k1, k2, k3⟩ := HK.out _ hx
    have hsz := hx.size
    rw [World.size_alloc] at hsz
    by_cases hlt : k < n
    · have j1 : (k : Int) < n := by omega
      have j2 : (0 : Int) ≤ k := by omega
      have hRr := HR.out.below (hx.mono (Nat.le_succ _))
      obtain ⟨x, hxk⟩ : ∃ x, l[k]? = some x := ⟨_, List.getElem?_eq_getElem (by rw [HL.out]; exact hlt)⟩
      have hc : ∀ (j : Nat) (v : Value), x.cells[j]? = some v → wr.cell? ((⟨g, k * 4, none⟩ : Addr).add j) = some v := fun j v hv => by rw [Addr.add_flat]; exact el_at hRr hxk hv
      have HI : Hid ((Tryd.prog.info? 52).map (·.size) = some x.cells.length) := by show _ = _; rw [El.cells_length]; kernel_rfl
      have hfx := hf x
      obtain ⟨X, hX⟩ : ∃ X, x.cells = X := ⟨_, rfl⟩
      rw [hX] at hc HI hfx
      have HC := Lib.hid hc
      have HX := Lib.hid hx
      clear hX hc hRr hx hf hxk
      go_wp2_with (first | (refine wpList_load_cells rfl 52 (.tmp 40) rfl ⟨g, k * 4, none⟩ (by rfl) X _ HC.out Tryd.underlying52 (by rfl) HI.out ?_) | (go_at_call 58; refine (hfx _).mono ?_; rintro e w2 ⟨rfl, hb2⟩) | fail)
      go_roundw
      case rel => exact ⟨k + 1, by omega, by go_num, HX.out.trans (hb2.mono hsz)⟩
      case measure => simp [intOf]; omega
    · obtain rfl : k = n := by omega
      have HX := Lib.hid hx
      clear hx
      go_wp2
      go_ret
      exact ⟨rfl, HB.out.trans (HX.out.mono (Nat.le_succ _))⟩
set_option maxRecDepth 100000 in
set_option maxHeartbeats 2000000 in
theorem rdepth_list (g c n : Nat) (l : List El) (w : World) (hl : l.length = n) (hp : 0 < n) (hn : n ≤ 1000) (hr : Rd w w.heap.size 4 (some ⟨g, 0, none⟩) n (elsCells l)) (hnc : n ≤ c) :
    Calls Tryd.prog 59 #[listV (some ⟨g, 0, none⟩) n c] w fun e w' => e = .returned (.int .i64 1) ∧ Below w.heap.size w w' := by
  have hB := (Below.refl w.heap.size w).alloc (Nat.le_refl _) (vcells [.int .i64 3, .int .i64 0, .string ⟨#[]⟩, .slice (some ⟨g, 0, none⟩) n c])
  have hk : ∀ wx, Below (w.heap.size + 1) (w.alloc (vcells [.int .i64 3, .int .i64 0, .string ⟨#[]⟩, .slice (some ⟨g, 0, none⟩) n c])) wx → wx.cell? ⟨w.heap.size, 1, none⟩ = some (.int .i64 0) ∧ wx.cell? ⟨w.heap.size, 2, none⟩ = some (.string ⟨#[]⟩) ∧ wx.cell? ⟨w.heap.size, 3, none⟩ = some (.slice (some ⟨g, 0, none⟩) n c) := fun wx hx =>
    ⟨(hx.cell (p := ⟨w.heap.size, 1, none⟩) (Nat.lt_succ_self _)).trans (vbox w _ 1 _ rfl), (hx.cell (p := ⟨w.heap.size, 2, none⟩) (Nat.lt_succ_self _)).trans (vbox w _ 2 _ rfl), (hx.cell (p := ⟨w.heap.size, 3, none⟩) (Nat.lt_succ_self _)).trans (vbox w _ 3 _ rfl)⟩
  have HL := Lib.hid hl
  have HR := Lib.hid (hr.below hB)
  have HK := Lib.hid hk
  have HB := Lib.hid hB
  have hf := rdepth_el
  have hst : (∀ wx, wx = w.alloc (vcells [.int .i64 3, .int .i64 0, .string ⟨#[]⟩, .slice (some ⟨g, 0, none⟩) n c]) → Below (w.heap.size + 1) (w.alloc (vcells [.int .i64 3, .int .i64 0, .string ⟨#[]⟩, .slice (some ⟨g, 0, none⟩) n c])) wx) := fun wx h => h ▸ Below.refl _ _
  have HST := Lib.hid hst
  have hg := rd_lt hr hp
  clear hl hr hk hB hst
  unfold listV
  unfold vcells at *
  go_enter Tryd.func59, Tryd.ntmps59
  go_wp2
  go_loopw [3, 4] (fun d i wr => ∃ k : Nat, k ≤ n ∧ i = .int .i64 k ∧ d = .int .i64 0 ∧ Below (w.heap.size + 1) (w.alloc (.cells ([.int .i64 3, .int .i64 0, .string ⟨#[]⟩, .slice (some ⟨g, 0, none⟩) n c] : List Value).toArray 52)) wr) (fun _ i _ => n - (intOf i).toNat)
  case atStart => exact ⟨0, Nat.zero_le _, rfl, rfl, HST.out _ rfl⟩
  case round =>
    obtain ⟨k, hk, rfl, rfl, hx⟩ := hrel
    obtain ⟨k1, k2, k3⟩ := HK.out _ hx
    have hsz := hx.size
    rw [World.size_alloc] at hsz
    by_cases hlt : k < n
    · have j1 : (k : Int) < n := by omega
      have j2 : (0 : Int) ≤ k := by omega
      have hRr := HR.out.below (hx.mono (Nat.le_succ _))
      obtain ⟨x, hxk⟩ : ∃ x, l[k]? = some x := ⟨_, List.getElem?_eq_getElem (by rw [HL.out]; exact hlt)⟩
      have hc : ∀ (j : Nat) (v : Value), x.cells[j]? = some v → wr.cell? ((⟨g, k * 4, none⟩ : Addr).add j) = some v := fun j v hv => by rw [Addr.add_flat]; exact el_at hRr hxk hv
      have HI : Hid ((Tryd.prog.info? 52).map (·.size) = some x.cells.length) := by show _ = _; rw [El.cells_length]; kernel_rfl
      have hfx := hf x
      obtain ⟨X, hX⟩ : ∃ X, x.cells = X := ⟨_, rfl⟩
      rw [hX] at hc HI hfx
      have HC := Lib.hid hc
      have HX := Lib.hid hx
      clear hX hc hRr hx hf hxk
      go_wp2_with (first | (refine wpList_load_cells rfl 52 (.tmp 19) rfl ⟨g, k * 4, none⟩ (by rfl) X _ HC.out Tryd.underlying52 (by rfl) HI.out ?_) | (go_at_call 59; refine (hfx _).mono ?_; rintro e w2 ⟨rfl, hb2⟩) | fail)
      go_roundw
      case rel => exact ⟨k + 1, by omega, by go_num, rfl, HX.out.trans (hb2.mono hsz)⟩
      case measure => simp [intOf]; omega
    · obtain rfl : k = n := by omega
      have HX := Lib.hid hx
      clear hx
      go_wp2
      go_ret
      exact ⟨rfl, HB.out.trans (HX.out.mono (Nat.le_succ _))⟩
theorem rcheck_list (g c n : Nat) (l : List El) (w : World) (hl : l.length = n) (hp : 0 < n) (hn : n ≤ 1000) (hr : Rd w w.heap.size 4 (some ⟨g, 0, none⟩) n (elsCells l)) (hnc : n ≤ c) :
    Calls Tryd.prog 51 #[listV (some ⟨g, 0, none⟩) n c] w fun e w' => e = .returned (.int .i64 0) ∧ Below w.heap.size w w' := by
  have hB := (Below.refl w.heap.size w).alloc (Nat.le_refl _) (vcells [.int .i64 3, .int .i64 0, .string ⟨#[]⟩, .slice (some ⟨g, 0, none⟩) n c])
  have hR := (hr.alloc (Nat.le_refl _) (vcells [.int .i64 3, .int .i64 0, .string ⟨#[]⟩, .slice (some ⟨g, 0, none⟩) n c])).more (B' := w.heap.size + 1) (by omega)
  have k0 : (w.alloc (vcells [.int .i64 3, .int .i64 0, .string ⟨#[]⟩, .slice (some ⟨g, 0, none⟩) n c])).cell? ⟨w.heap.size, 0, none⟩ = some (.int .i64 3) := vbox w _ 0 _ rfl
  have k1 : (w.alloc (vcells [.int .i64 3, .int .i64 0, .string ⟨#[]⟩, .slice (some ⟨g, 0, none⟩) n c])).cell? ⟨w.heap.size, 1, none⟩ = some (.int .i64 0) := vbox w _ 1 _ rfl
  have k2 : (w.alloc (vcells [.int .i64 3, .int .i64 0, .string ⟨#[]⟩, .slice (some ⟨g, 0, none⟩) n c])).cell? ⟨w.heap.size, 2, none⟩ = some (.string ⟨#[]⟩) := vbox w _ 2 _ rfl
  have k3 : (w.alloc (vcells [.int .i64 3, .int .i64 0, .string ⟨#[]⟩, .slice (some ⟨g, 0, none⟩) n c])).cell? ⟨w.heap.size, 3, none⟩ = some (.slice (some ⟨g, 0, none⟩) n c) := vbox w _ 3 _ rfl
  have hs : w.heap.size < (w.alloc (vcells [.int .i64 3, .int .i64 0, .string ⟨#[]⟩, .slice (some ⟨g, 0, none⟩) n c])).heap.size := by simp
  have hRH := Lib.hid hR
  have HL := Lib.hid hl
  have HB := Lib.hid hB
  clear hr hR hl hB
  have hf := fun w h => rformed_list g c n l w HL.out hp hn h hnc
  have hd := fun w h => rdepth_list g c n l w HL.out hp hn h hnc
  unfold vcells at *
  unfold listV at *
  go_enter Tryd.func51, Tryd.ntmps51
  go_wp2_with fail
  refine (hf _ (by rw [World.size_alloc]; exact hRH.out)).mono ?_
  rintro e w1 ⟨rfl, hb1⟩
  have hR1 : Rd w1 w1.heap.size 4 (some ⟨g, 0, none⟩) n (elsCells l) := ((hRH.out.below (hb1.mono (by simp))).more (by have := hb1.size; simp at this; omega))
  have k0 := (hb1.cell (p := ⟨w.heap.size, 0, none⟩) hs).trans k0
  have k1 := (hb1.cell (p := ⟨w.heap.size, 1, none⟩) hs).trans k1
  have k2 := (hb1.cell (p := ⟨w.heap.size, 2, none⟩) hs).trans k2
  have k3 := (hb1.cell (p := ⟨w.heap.size, 3, none⟩) hs).trans k3
  have hB1 := HB.out.trans (hb1.mono HB.out.size)
  have HR1 := Lib.hid hR1
  have HB1 := Lib.hid hB1
  clear hb1 hR1 hf hB1
  go_wp2_with fail
  refine (hd _ HR1.out).mono ?_
  rintro e w2 ⟨rfl, hb2⟩
  have hB2 := HB1.out.trans (hb2.mono HB1.out.size)
  have HB2 := Lib.hid hB2
  clear hb2 hd hB2
  go_wp2
  go_ret
  exact ⟨rfl, HB2.out⟩
set_option maxRecDepth 100000 in
set_option maxHeartbeats 1000000 in
theorem runsigned_I (z : Int) (h : -9223372036854775808 ≤ z ∧ z < 9223372036854775808) (w : World) : Calls Tryd.prog 61 #[.int .i64 z] w fun e w' => e = .returned (.int .u64 (uns z : Int)) ∧ w = w' := by
  obtain ⟨h1, h2⟩ := h
  by_cases h0 : 0 ≤ z
  · have hu : (uns z : Int) = 2 * z := by unfold uns; rw [if_pos h0]; omega
    have HU := Lib.hid hu
    have e1 : IntKind.u64.wrap z = z := by rw [u64_mod]; omega
    have e2 : IntKind.u64.wrap (2 * z) = 2 * z := by rw [u64_mod]; omega
    clear hu
    go_enter Tryd.func61, Tryd.ntmps61
    go_wp2
    go_ret
    exact ⟨retI (by rw [HU.out]), rfl⟩
  · have hu : (uns z : Int) = -2 * z - 1 := by unfold uns; rw [if_neg h0]; omega
    have HU := Lib.hid hu
    have g0 : z < 0 := by omega
    have e1 : IntKind.i64.wrap (z + 1) = z + 1 := by simp only [IntKind.wrap, IntKind.bits, IntKind.signed]; simp; omega
    have e2 : IntKind.i64.wrap (-(z + 1)) = -(z + 1) := by simp only [IntKind.wrap, IntKind.bits, IntKind.signed]; simp; omega
    have e3 : IntKind.u64.wrap (-(z + 1)) = -(z + 1) := by rw [u64_mod]; omega
    have e4 : IntKind.u64.wrap (2 * -(z + 1)) = 2 * -(z + 1) := by rw [u64_mod]; omega
    have e5 : IntKind.u64.wrap (2 * -(z + 1) + 1) = 2 * -(z + 1) + 1 := by rw [u64_mod]; omega
    clear hu
    go_enter Tryd.func61, Tryd.ntmps61
    go_wp2
    go_ret
    exact ⟨retI (by rw [HU.out]; first | omega | (rw [u64_mod]; omega)), rfl⟩
end Go.Proofs.YtpjggokaolnbcaaDoor
/- A drawn region walked in the orders of a tree: at one place two operations may come up, and both orders are walked. -/
namespace Go.Proofs.YtpjggokaolnbcaaDoor
open Go.RowKit
inductive OT where
  | done
  | take (i : Nat) (t : OT)
  | one (i : Nat) (t : OT)
  | two (i : Nat) (t : OT) (j : Nat) (u : OT)
section
variable {P : Program} {ops : Array Oper} {md : Region.Mode} {Q : Exit → Act → World → Prop} {S : World → Prop}
def OT.depth : OT → Nat
  | .done => 0
  | .take _ t => t.depth + 1
  | .one _ t => t.depth + 1
  | .two _ t _ u => max t.depth u.depth + 1
def wpOT (P : Program) (ops : Array Oper) (Q : Exit → Act → World → Prop) (S : World → Prop) : OT → Act → World → Prop
  | .done, a, w => Q .normal a w
  | .take i t, a, w => ∃ o v, ops[i]? = some o ∧ YieldsIf P ops S o v a ∧ wpOT P ops Q S t (a.put o.dst v) w
  | .one i t, a, w => wpOp P ops Q i (fun a' w' => S w' ∧ wpOT P ops Q S t a' w') a w
  | .two i t j u, a, w => wpOp P ops Q i (fun a' w' => S w' ∧ wpOT P ops Q S t a' w') a w ∧ wpOp P ops Q j (fun a' w' => S w' ∧ wpOT P ops Q S u a' w') a w
def otB (md : Region.Mode) (ops : Array Oper) : OT → Array Bool → Bool
  | .done, listed => (Region.ready md ops listed).isEmpty
  | .take i t, listed => (Region.ready md ops listed).contains i && Region.free md ops listed i && otB md ops t (listed.setIfInBounds i true)
  | .one i t, listed => decide (Region.ready md ops listed = [i]) && otB md ops t (listed.setIfInBounds i true)
  | .two i t j u, listed => decide (Region.ready md ops listed = [i, j]) && otB md ops t (listed.setIfInBounds i true) && otB md ops u (listed.setIfInBounds j true)
theorem wpAnyH_of_tree (hsel : Region.noSelect ops = true) (hQ : ∀ (x : Option Tmp) (v : Value) c a w, Q (.panic c) (a.put x v) w → Q (.panic c) a w) :
    ∀ (t : OT) (fuel : Nat) (listed : Array Bool) (a : Act) (w : World), t.depth ≤ fuel → otB md ops t listed = true → S w → wpOT P ops Q S t a w → wpAnyH P md ops Q S fuel listed a w
  | .done, fuel, listed, a, w, _, hB, _, h => wpAnyH_done (by simpa [otB] using hB) h fuel
  | .take i t, 0, _, _, _, hd, _, _, _ => by simp [OT.depth] at hd
  | .one i t, 0, _, _, _, hd, _, _, _ => by simp [OT.depth] at hd
  | .two i t j u, 0, _, _, _, hd, _, _, _ => by simp [OT.depth] at hd
  | .take i t, fuel + 1, listed, a, w, hd, hB, hS, h => by
    simp only [otB, Bool.and_eq_true] at hB
    obtain ⟨o, v, ho, hy, h⟩ := h
    exact wpAnyH_take ho hsel hB.1.2 hB.1.1 (fun c a w h => hQ _ _ c a w h) hy hS (wpAnyH_of_tree hsel hQ t fuel _ _ w (by simp only [OT.depth] at hd; omega) hB.2 hS h)
  | .one i t, fuel + 1, listed, a, w, hd, hB, hS, h => by
    simp only [otB, Bool.and_eq_true, decide_eq_true_eq] at hB
    refine wpAnyH_all hB.1 (by simp) fun j hj => ?_
    rw [List.mem_singleton] at hj
    subst hj
    exact wpOp_mono (fun a' w' h' => ⟨h'.1, wpAnyH_of_tree hsel hQ t fuel _ a' w' (by simp only [OT.depth] at hd; omega) hB.2 h'.1 h'.2⟩) h
  | .two i t j u, fuel + 1, listed, a, w, hd, hB, hS, h => by
    simp only [otB, Bool.and_eq_true, decide_eq_true_eq] at hB
    refine wpAnyH_all hB.1.1 (by simp) fun k hk => ?_
    simp only [List.mem_cons, List.not_mem_nil, or_false] at hk
    rcases hk with rfl | rfl
    · exact wpOp_mono (fun a' w' h' => ⟨h'.1, wpAnyH_of_tree hsel hQ t fuel _ a' w' (by simp only [OT.depth] at hd; omega) hB.1.2 h'.1 h'.2⟩) h.1
    · exact wpOp_mono (fun a' w' h' => ⟨h'.1, wpAnyH_of_tree hsel hQ u fuel _ a' w' (by simp only [OT.depth] at hd; omega) hB.2 h'.1 h'.2⟩) h.2
theorem wp_region_tree {id : Nat} {a : Act} {w : World} {l : List Oper} (S : World → Prop) (t : OT) (hm : P.follows .mixedOrders = true) (hsel : Region.noSelect l.toArray = true) (hd : decide (t.depth ≤ l.length) = true)
    (hB : otB .any l.toArray t (Array.replicate l.length false) = true) (hQ : ∀ (x : Option Tmp) (v : Value) c a w, Q (.panic c) (a.put x v) w → Q (.panic c) a w) (hS : S w.drew)
    (h : wpOT P l.toArray Q S t a w.drew) : (Code.region id l.toArray true).wp P Q a w := by
  refine wp_region_held (S := S) hm ?_
  have := wpAnyH_of_tree (md := .any) hsel hQ t l.length (Array.replicate l.length false) a _ (of_decide_eq_true hd) hB hS h
  simpa using this
theorem wpOT_done {a : Act} {w : World} (h : Q .normal a w) : wpOT P ops Q S .done a w := h
theorem wpOT_take {i : Nat} {t : OT} {a : Act} {w : World} {o : Oper} (ho : ops[i]? = some o) (v : Value) (hw : Region.wanted o (yielded ops a.tmps) = true)
    (hy : ∀ w', S w' → (execOp a.eval o).run P w' = .ok (.value v) w') (h : ∀ K : Act → Prop, (∀ a', wpOT P ops Q S t a' w → K a') → K (a.put o.dst v)) : wpOT P ops Q S (.take i t) a w :=
  ⟨o, v, ho, .inl ⟨hw, hy⟩, h _ fun _ h => h⟩
theorem wpOp_force {i : Nat} {K0 : Act → World → Prop} {a : Act} {w : World} {o : Oper} (ho : ops[i]? = some o) (hw : Region.wanted o (yielded ops a.tmps) = true)
    (h : ∀ K : Act → World → Prop, (∀ a' w', K0 a' w' → K a' w') → o.wp P a w K Q) : wpOp P ops Q i K0 a w := by
  unfold wpOp
  rw [ho]
  show if Region.wanted o (yielded ops a.tmps) = true then _ else _
  rw [if_pos hw]
  exact .inl (h _ fun _ _ h => h)
theorem wpOT_one {i : Nat} {t : OT} {a : Act} {w : World} {o : Oper} (ho : ops[i]? = some o) (hw : Region.wanted o (yielded ops a.tmps) = true)
    (h : ∀ K : Act → World → Prop, (∀ a' w', S w' → wpOT P ops Q S t a' w' → K a' w') → o.wp P a w K Q) : wpOT P ops Q S (.one i t) a w :=
  wpOp_force ho hw fun K hK => h K fun a' w' h1 h2 => hK a' w' ⟨h1, h2⟩
theorem wpOT_two {i j : Nat} {t u : OT} {a : Act} {w : World} {o o' : Oper} (ho : ops[i]? = some o) (hw : Region.wanted o (yielded ops a.tmps) = true) (ho' : ops[j]? = some o') (hw' : Region.wanted o' (yielded ops a.tmps) = true)
    (h : ∀ K : Act → World → Prop, (∀ a' w', S w' → wpOT P ops Q S t a' w' → K a' w') → o.wp P a w K Q)
    (h' : ∀ K : Act → World → Prop, (∀ a' w', S w' → wpOT P ops Q S u a' w' → K a' w') → o'.wp P a w K Q) : wpOT P ops Q S (.two i t j u) a w :=
  ⟨wpOp_force ho hw fun K hK => h K fun a' w' h1 h2 => hK a' w' ⟨h1, h2⟩, wpOp_force ho' hw' fun K hK => h' K fun a' w' h1 h2 => hK a' w' ⟨h1, h2⟩⟩
end
end Go.Proofs.YtpjggokaolnbcaaDoor
/- The reference's codec: the encodings of an integer, a text, a list. -/
namespace Go.Proofs.YtpjggokaolnbcaaDoor
open Go.RowKit
set_option linter.unusedVariables false
set_option maxRecDepth 100000 in
set_option maxHeartbeats 1000000 in
theorem renc_int (u q : Int) (L : List Int) (hLp : 0 < L.length) (hLl : L.length ≤ 10) (hu : ∀ w, Calls Tryd.prog 61 #[.int .i64 u] w fun e w' => e = .returned (.int .u64 q) ∧ w = w')
    (ih : ∀ w, Calls Tryd.prog 60 #[.int .u64 q] w (OwnPost L w)) (w : World) :
    Calls Tryd.prog 52 #[intV u] w (OwnPost (1 :: L) w) := by
  obtain ⟨i0, hi, hz0, hz1, hz2⟩ := info_parts infoU8c
  have hown := World.ownsRow_lit (e := 5) (size := 1) (base := w.heap.size) (w.alloc (.cells #[.int .i64 1, .int .i64 u, .string ⟨#[]⟩, .slice none 0 0] 52)) #[.int .u8 1] 1 (by simp) (by decide) rfl
  rw [World.size_alloc] at hown
  have hB := ((Below.refl w.heap.size w).alloc (Nat.le_refl _) (.cells #[.int .i64 1, .int .i64 u, .string ⟨#[]⟩, .slice none 0 0] 52)).alloc (by simp) (.cells #[.int .u8 1] 5)
  have HO := Lib.hid (And.intro hown hB)
  obtain ⟨P, hP⟩ : ∃ P, OwnPost (1 :: L) w = P := ⟨_, rfl⟩
  rw [hP]
  have HP := Lib.hid hP
  clear hown hB hP
  unfold intV
  go_enter Tryd.func52, Tryd.ntmps52
  go_wp2_with fail
  refine (hu _).mono ?_
  rintro e w' ⟨rfl, rfl⟩
  go_wp2_with fail
  refine (ih _).mono ?_
  rintro e w2 ⟨g, cap, rfl, ho, hb⟩
  obtain ⟨hown, hB⟩ := HO.out
  have hown2 := own_below hown hb
  have hB2 := hB.trans (hb.mono (by simp; omega))
  have hsz : w.heap.size ≤ w2.heap.size := hB2.size
  have hc : ∀ j u, (L.map (Value.int .u8))[j]? = some u → w2.cell? ((⟨g, 0, none⟩ : Addr).add j) = some u := fun j u hj => by
    have hlt : j < L.length := by have := (List.getElem?_eq_some_iff.1 hj).1; simpa using this
    rw [show (⟨g, 0, none⟩ : Addr).add j = ⟨g, j, none⟩ by (simp [Addr.add]; exact fun h => h.symm), ho.cellAt j (by omega), hj]
  obtain ⟨m, hm⟩ : ∃ m, L.length = m := ⟨_, rfl⟩
  have hNL : (L.map (Value.int .u8)).length = m := by rw [List.length_map, hm]
  rw [hm] at hLp hLl ⊢
  have HM := Lib.hid hm
  clear hb ho hown hm
  go_wp2_with (at_builtin; refine wpList_append_lies _ rfl (.tmp 9) (.tmp 13) 23 rfl w.heap.size 5 i0 (.int .u8 0) 1 1 Tryd.underlying23 hi hz0 hz1 hz2 rfl (by decide) _ 1 _ (by rfl) hown2 ⟨g, 0, none⟩ m cap (L.map (Value.int .u8)) (by rfl) (by omega) hc (fun u hu => by obtain ⟨y, _, rfl⟩ := List.mem_map.1 hu; rfl) hLp (by unfold maxLen; omega) (by omega) hsz _ rfl ?_; intro g3 cap3 w3 ho3 hg3 hl3 hlt3)
  have hB3 := hB2.grown hg3 hB2.size (fun k e => by have e' : some (w.heap.size + 1) = some k := e; injection e' with e'; omega)
  go_wp2
  have h9 := HP.out
  have h8 := HM.out
  subst h9
  subst h8
  refine ⟨g3, cap3, by rw [List.length_cons, Nat.add_comm L.length 1]; rfl, ?_, hB3⟩
  rw [List.length_cons, Nat.add_comm L.length 1]
  exact ho3
theorem own_form {w : World} {base size n : Nat} {e : TypeId} {v : Value} {xs : List Value} (h : w.ownsRow base e size v n xs) (hn : 0 < n) : ∃ g cap, v = .slice (some ⟨g, 0, none⟩) n cap := by
  rcases h.2 with ⟨_, h0⟩ | ⟨g, cap, _, hv, _⟩
  · omega
  · exact ⟨g, cap, hv⟩
set_option maxRecDepth 100000 in
set_option maxHeartbeats 4000000 in
theorem renc_txt (s : ByteArray) (L : List Int) (hs : s.size ≤ 100000) (hLp : 0 < L.length) (hLl : L.length ≤ 10)
    (ih : ∀ w, Calls Tryd.prog 60 #[.int .u64 (s.size : Nat)] w (OwnPost L w)) (w : World) :
    Calls Tryd.prog 52 #[txtV s] w (OwnPost ([2] ++ L ++ strInts s) w) := by
  obtain ⟨i0, hi, hz0, hz1, hz2⟩ := info_parts infoU8c
  have hB := (Below.refl w.heap.size w).alloc (Nat.le_refl _) (vcells [.int .i64 2, .int .i64 0, .string s, .slice none 0 0])
  have k2 : (w.alloc (vcells [.int .i64 2, .int .i64 0, .string s, .slice none 0 0])).cell? ⟨w.heap.size, 2, none⟩ = some (.string s) := vbox w _ 2 _ rfl
  have hsz : (w.alloc (vcells [.int .i64 2, .int .i64 0, .string s, .slice none 0 0])).heap.size = w.heap.size + 1 := by simp
  have hu64 : IntKind.u64.wrap (s.size : Int) = (s.size : Int) := by rw [u64_mod]; omega
  have hfin : ∀ (v9 : Value) (w9 : World), w9.ownsRow w.heap.size 5 1 v9 (1 + L.length + s.size) (([2] : List Int).map (Value.int .u8) ++ L.map (Value.int .u8) ++ Lib.strCells s) → Below w.heap.size w w9 → OwnPost ([2] ++ L ++ strInts s) w (.returned v9) w9 := by
    intro v9 w9 ho hb
    have hl : ([2] ++ L ++ strInts s : List Int).length = 1 + L.length + s.size := by simp only [List.length_append, List.length_cons, List.length_nil, strInts_length]
    rw [strCells_ints, ← List.map_append, ← List.map_append, ← hl] at ho
    obtain ⟨g, cap, rfl⟩ := own_form ho (by rw [hl]; omega)
    exact ⟨g, cap, rfl, ho, hb⟩
  obtain ⟨P, hP⟩ : ∃ P, OwnPost ([2] ++ L ++ strInts s) w = P := ⟨_, rfl⟩
  rw [hP] at hfin ⊢
  have HF := Lib.hid hfin
  clear hfin hP
  unfold txtV
  unfold vcells at *
  go_enter Tryd.func52, Tryd.ntmps52
  go_wp2
  rename_i Kz hKz
  generalize (w.alloc (.cells ([.int .i64 2, .int .i64 0, .string s, .slice none 0 0] : List Value).toArray 52)) = w0 at hB k2 hsz ⊢
  have HSZ : Hid (w0.heap.size = w.heap.size + 1) := hsz
  clear hsz
  have hS0 : (fun w' : World => w'.cell? ⟨w.heap.size, 2, none⟩ = some (.string s) ∧ True) w0.drew := ⟨k2, trivial⟩
  refine wp_region_tree (fun w' => w'.cell? ⟨w.heap.size, 2, none⟩ = some (.string s) ∧ True) (.take 1 (.take 2 (.take 3 (.take 4 (.take 7 (.take 8 (.two 0 (.one 5 (.one 6 (.one 9 (.take 10 .done)))) 5 (.one 0 (.one 6 (.one 9 (.take 10 .done))))))))))) (by kernel_rfl) (by kernel_rfl) (by kernel_rfl) (by kernel_rfl) (fun x _ _ _ _ h => by cases x <;> exact h) hS0 ?_
  refine wpOT_take rfl _ (by rfl) (by intro w' hS; have hq := hS.1; go_simp; try with_reducible rfl) fun KK hKK => ?_
  go_simp
  refine hKK _ ?_
  clear hKK KK
  refine wpOT_take rfl _ (by rfl) (by intro w' hS; have hq := hS.1; go_simp; try with_reducible rfl) fun KK hKK => ?_
  go_simp
  refine hKK _ ?_
  clear hKK KK
  refine wpOT_take rfl _ (by rfl) (by intro w' hS; have hq := hS.1; go_simp; try with_reducible rfl) fun KK hKK => ?_
  go_simp
  refine hKK _ ?_
  clear hKK KK
  refine wpOT_take rfl _ (by rfl) (by intro w' hS; have hq := hS.1; go_simp; try with_reducible rfl) fun KK hKK => ?_
  go_simp
  refine hKK _ ?_
  clear hKK KK
  refine wpOT_take rfl _ (by rfl) (by intro w' hS; have hq := hS.1; go_simp; try with_reducible rfl) fun KK hKK => ?_
  go_simp
  refine hKK _ ?_
  clear hKK KK
  refine wpOT_take rfl _ (by rfl) (by intro w' hS; have hq := hS.1; go_simp; try with_reducible rfl) fun KK hKK => ?_
  go_simp
  refine hKK _ ?_
  clear hKK KK
  refine wpOT_two rfl (by rfl) rfl (by rfl) (fun KK hKK => ?_) (fun KK hKK => ?_)
  · go_simp
    have hown0 : (w0.drew.alloc (.cells #[.int .u8 2] 5)).ownsRow w.heap.size 5 1 (.slice (some ⟨w0.heap.size, 0, none⟩) 1 1) 1 (([2] : List Int).map (Value.int .u8)) := World.ownsRow_lit (base := w.heap.size) w0.drew #[.int .u8 2] 1 (by show w.heap.size ≤ w0.heap.size; have := HSZ.out; omega) (by decide) rfl
    have hb0 : Below w.heap.size w (w0.drew.alloc (.cells #[.int .u8 2] 5)) := (hB.drew).alloc (by show w.heap.size ≤ w0.heap.size; have := HSZ.out; omega) _
    have hlt0 : w.heap.size < (w0.drew.alloc (.cells #[.int .u8 2] 5)).heap.size := by rw [World.size_alloc]; show w.heap.size < w0.heap.size + 1; have := HSZ.out; omega
    have hk0 : (w0.drew.alloc (.cells #[.int .u8 2] 5)).cell? ⟨w.heap.size, 2, none⟩ = some (.string s) := (World.cell?_alloc_lt _ _ _ (by show w.heap.size < w0.heap.size; have := HSZ.out; omega)).trans k2
    refine hKK _ _ ⟨hk0, trivial⟩ ?_
    clear hKK KK
    refine wpOT_one rfl (by rfl) fun KK hKK => ?_
    go_simp
    refine (ih _).mono ?_
    rintro e wX ⟨gL, cL, rfl, hoL, hbL⟩
    have hown := own_below hown0 hbL
    have hrL := Rd.of_own hoL
    have hbX := hb0.trans (hbL.mono hb0.size)
    have hlt := Nat.lt_of_lt_of_le hlt0 hbL.size
    have hkX := (hbL.cell (p := ⟨w.heap.size, 2, none⟩) hlt0).trans hk0
    have hne : some w.heap.size ≠ (Value.slice (some ⟨w0.heap.size, 0, none⟩) 1 1).ownBlock := fun e => by have e : some w.heap.size = some w0.heap.size := e; injection e with e; have := HSZ.out; omega
    refine hKK _ _ ⟨hkX, trivial⟩ ?_
    clear hKK KK hown0 hb0 hlt0 hk0
    refine wpOT_one rfl (by rfl) fun KK hKK => ?_
    refine wp_append_rd _ (.tmp 17) (.tmp 22) 23 rfl w.heap.size 5 i0 (.int .u8 0) 1 1 Tryd.underlying23 hi hz0 hz1 hz2 rfl (by omega) _ 1 _ (by rfl) hown _ _ L.length _ _ (by rfl) hrL (u8_one _) (by unfold maxLen; omega) (by omega) hbX.size ?_
    intro v6 w6 ho6 hg6 hb6
    go_simp
    have hk6 : w6.cell? ⟨w.heap.size, 2, none⟩ = some (.string s) := (hg6.cell_far ⟨w.heap.size, 2, none⟩ hlt hne).trans hkX
    have hne6 : some w.heap.size ≠ v6.ownBlock := by rcases hb6 with h | h <;> rw [h]; exact hne; exact fun e => by injection e with e; omega
    have hbX6 := hbX.grown hg6 hbX.size (fun k e => (hown.lt k e).1)
    refine hKK _ _ ⟨hk6, trivial⟩ ?_
    clear hKK KK
    refine wpOT_one rfl (by rfl) fun KK hKK => ?_
    refine wp_append_str (.tmp 23) (.tmp 25) 23 9 rfl w.heap.size 5 i0 Tryd.underlying23 Tryd.underlying9 hi hz0 hz1 hz2 v6 _ _ (by rfl) ho6 (by omega) s (by rfl) (by omega) hbX6.size ?_
    intro v9 w9 ho9 hg9 hb9
    go_simp
    have hk9 : w9.cell? ⟨w.heap.size, 2, none⟩ = some (.string s) := (hg9.cell_far ⟨w.heap.size, 2, none⟩ (Nat.lt_of_lt_of_le hlt hg6.size) hne6).trans hk6
    have hF := HF.out v9 w9 ho9 (hbX6.grown hg9 hbX6.size (fun k e => (ho6.lt k e).1))
    refine hKK _ _ ⟨hk9, trivial⟩ ?_
    clear hKK KK
    refine wpOT_take rfl _ (by rfl) (by intro w' hS; have hq := hS.1; go_simp; try with_reducible rfl) fun KK hKK => ?_
    go_simp
    refine hKK _ ?_
    clear hKK KK
    refine wpOT_done ?_
    show Kz _ _
    refine hKz _ _ ?_
    go_wp2
    exact hF
  · go_simp
    refine (ih _).mono ?_
    rintro e w5 ⟨gL, cL, rfl, hoL, hbL⟩
    have hlt0 : w.heap.size < w0.drew.heap.size := by show w.heap.size < w0.heap.size; have := HSZ.out; omega
    have hb5 : Below w.heap.size w w5 := (hB.drew).trans (hbL.mono (Nat.le_of_lt hlt0))
    have hlt5 := Nat.lt_of_lt_of_le hlt0 hbL.size
    have hk5 : w5.cell? ⟨w.heap.size, 2, none⟩ = some (.string s) := (hbL.cell (p := ⟨w.heap.size, 2, none⟩) hlt0).trans k2
    refine hKK _ _ ⟨hk5, trivial⟩ ?_
    clear hKK KK
    refine wpOT_one rfl (by rfl) fun KK hKK => ?_
    go_simp
    have hown : (w5.alloc (.cells #[.int .u8 2] 5)).ownsRow w.heap.size 5 1 (.slice (some ⟨w5.heap.size, 0, none⟩) 1 1) 1 (([2] : List Int).map (Value.int .u8)) := World.ownsRow_lit (base := w.heap.size) w5 #[.int .u8 2] 1 (by omega) (by decide) rfl
    have hrL := (Rd.of_own hoL).alloc (Nat.le_refl _) (.cells #[.int .u8 2] 5)
    have hbX := hb5.alloc hb5.size (.cells #[.int .u8 2] 5)
    have hlt : w.heap.size < (w5.alloc (.cells #[.int .u8 2] 5)).heap.size := by rw [World.size_alloc]; omega
    have hkX : (w5.alloc (.cells #[.int .u8 2] 5)).cell? ⟨w.heap.size, 2, none⟩ = some (.string s) := (World.cell?_alloc_lt _ _ _ hlt5).trans hk5
    have hne : some w.heap.size ≠ (Value.slice (some ⟨w5.heap.size, 0, none⟩) 1 1).ownBlock := fun e => by have e : some w.heap.size = some w5.heap.size := e; injection e with e; omega
    refine hKK _ _ ⟨hkX, trivial⟩ ?_
    clear hKK KK
    refine wpOT_one rfl (by rfl) fun KK hKK => ?_
    refine wp_append_rd _ (.tmp 17) (.tmp 22) 23 rfl w.heap.size 5 i0 (.int .u8 0) 1 1 Tryd.underlying23 hi hz0 hz1 hz2 rfl (by omega) _ 1 _ (by rfl) hown _ _ L.length _ _ (by rfl) hrL (u8_one _) (by unfold maxLen; omega) (by omega) hbX.size ?_
    intro v6 w6 ho6 hg6 hb6
    go_simp
    have hk6 : w6.cell? ⟨w.heap.size, 2, none⟩ = some (.string s) := (hg6.cell_far ⟨w.heap.size, 2, none⟩ hlt hne).trans hkX
    have hne6 : some w.heap.size ≠ v6.ownBlock := by rcases hb6 with h | h <;> rw [h]; exact hne; exact fun e => by injection e with e; omega
    have hbX6 := hbX.grown hg6 hbX.size (fun k e => (hown.lt k e).1)
    refine hKK _ _ ⟨hk6, trivial⟩ ?_
    clear hKK KK
    refine wpOT_one rfl (by rfl) fun KK hKK => ?_
    refine wp_append_str (.tmp 23) (.tmp 25) 23 9 rfl w.heap.size 5 i0 Tryd.underlying23 Tryd.underlying9 hi hz0 hz1 hz2 v6 _ _ (by rfl) ho6 (by omega) s (by rfl) (by omega) hbX6.size ?_
    intro v9 w9 ho9 hg9 hb9
    go_simp
    have hk9 : w9.cell? ⟨w.heap.size, 2, none⟩ = some (.string s) := (hg9.cell_far ⟨w.heap.size, 2, none⟩ (Nat.lt_of_lt_of_le hlt hg6.size) hne6).trans hk6
    have hF := HF.out v9 w9 ho9 (hbX6.grown hg9 hbX6.size (fun k e => (ho6.lt k e).1))
    refine hKK _ _ ⟨hk9, trivial⟩ ?_
    clear hKK KK
    refine wpOT_take rfl _ (by rfl) (by intro w' hS; have hq := hS.1; go_simp; try with_reducible rfl) fun KK hKK => ?_
    go_simp
    refine hKK _ ?_
    clear hKK KK
    refine wpOT_done ?_
    show Kz _ _
    refine hKz _ _ ?_
    go_wp2
    exact hF
end Go.Proofs.YtpjggokaolnbcaaDoor
/- The reference's codec: the encoding of a list; Encode. -/
namespace Go.Proofs.YtpjggokaolnbcaaDoor
open Go.RowKit
set_option linter.unusedVariables false
theorem renc_el (x : El) (hx : x.ok) (w : World) : Calls Tryd.prog 52 #[.agg x.cells.toArray] w (OwnPost x.enc w) := by
  cases x with
  | int z => exact renc_int z (uns z) (Cd.numL (uns z)) (numL_pos _) (Cd.numL_ten (uns_lt hx)) (fun w => runsigned_I z hx w) (rnumeral_any 9 (uns z) (by omega) (by have := uns_lt hx; omega) (uns_lt hx)) w
  | txt s =>
    have hs : s.size ≤ 2000 := hx
    exact renc_txt s (Cd.numL s.size) (by omega) (numL_pos _) (Cd.numL_ten (by omega)) (rnumeral_any 9 s.size (by omega) (by omega) (by omega)) w
theorem map_len1 (bs cs : List Int) : ((bs ++ cs).map (Value.int .u8)).length = bs.length + cs.length := by simp
set_option maxRecDepth 100000 in
set_option maxHeartbeats 4000000 in
theorem renc_list (g c n : Nat) (l : List El) (w : World) (hl : l.length = n) (hp : 0 < n) (hn : n ≤ 20) (hok : ∀ x ∈ l, x.ok) (hr : Rd w w.heap.size 4 (some ⟨g, 0, none⟩) n (elsCells l)) (hnc : n ≤ c) :
    Calls Tryd.prog 52 #[listV (some ⟨g, 0, none⟩) n c] w (BytesPost (encEls l) w) := by
  obtain ⟨i0, hi, hz0, hz1, hz2⟩ := info_parts infoU8c
  have hB := (Below.refl w.heap.size w).alloc (Nat.le_refl _) (vcells [.int .i64 3, .int .i64 0, .string ⟨#[]⟩, .slice (some ⟨g, 0, none⟩) n c])
  have hk : ∀ wx, Below (w.heap.size + 1) (w.alloc (vcells [.int .i64 3, .int .i64 0, .string ⟨#[]⟩, .slice (some ⟨g, 0, none⟩) n c])) wx → wx.cell? ⟨w.heap.size, 3, none⟩ = some (.slice (some ⟨g, 0, none⟩) n c) := fun wx hx =>
    (hx.cell (p := ⟨w.heap.size, 3, none⟩) (Nat.lt_succ_self _)).trans (vbox w _ 3 _ rfl)
  have hnum := fun w => rnumeral_any 9 n (by omega) (by omega) (by omega) w
  have hten := Cd.numL_ten (u := n) (by omega)
  have hu64 : IntKind.u64.wrap (n : Int) = (n : Int) := by rw [u64_mod]; omega
  have hfin : ∀ (v : Value) (w9 : World), One (w.alloc (vcells [.int .i64 3, .int .i64 0, .string ⟨#[]⟩, .slice (some ⟨g, 0, none⟩) n c])) (w.heap.size + 1) w9 5 1 v ([3] ++ Cd.numL n ++ l.flatMap El.enc).length (([3] ++ Cd.numL n ++ l.flatMap El.enc).map (Value.int .u8)) → BytesPost (encEls l) w (.returned v) w9 := by
    intro v w9 T
    have he : encEls l = [3] ++ Cd.numL n ++ l.flatMap El.enc := by unfold encEls; rw [hl]
    rw [he]
    obtain ⟨A, cc, rfl, hR, hlc, hcm⟩ := own_slice' T.own
    exact ⟨A, cc, rfl, hR, hlc, hcm, hB.trans (T.bel.mono (Nat.le_succ _))⟩
  have hown := World.ownsRow_lit (e := 5) (size := 1) (base := w.heap.size + 1) (w.alloc (vcells [.int .i64 3, .int .i64 0, .string ⟨#[]⟩, .slice (some ⟨g, 0, none⟩) n c])) #[.int .u8 3] 1 (by simp) (by decide) rfl
  rw [World.size_alloc] at hown
  have hB0 := (Below.refl (w.heap.size + 1) (w.alloc (vcells [.int .i64 3, .int .i64 0, .string ⟨#[]⟩, .slice (some ⟨g, 0, none⟩) n c]))).alloc (by simp) (.cells #[.int .u8 3] 5)
  have T0 : One (w.alloc (vcells [.int .i64 3, .int .i64 0, .string ⟨#[]⟩, .slice (some ⟨g, 0, none⟩) n c])) (w.heap.size + 1) ((w.alloc (vcells [.int .i64 3, .int .i64 0, .string ⟨#[]⟩, .slice (some ⟨g, 0, none⟩) n c])).alloc (.cells #[.int .u8 3] 5)) 5 1 (.slice (some ⟨w.heap.size + 1, 0, none⟩) 1 1) 1 (([3] : List Int).map (Value.int .u8)) := ⟨hown, hB0, by simp⟩
  have hR0 := hr.below hB
  have hk3 := hk _ (Below.refl _ _)
  have hg := rd_lt hr hp
  obtain ⟨P, hP⟩ : ∃ P, BytesPost (encEls l) w = P := ⟨_, rfl⟩
  rw [hP] at hfin ⊢
  obtain ⟨Nn, hNn⟩ : ∃ Nn, Cd.numL n = Nn := ⟨_, rfl⟩
  rw [hNn] at hnum hfin hten
  have HF := Lib.hid hfin
  have HK := Lib.hid hk
  have HT := Lib.hid hten
  have HT0 := Lib.hid T0
  have HR := Lib.hid hR0
  have HL := Lib.hid hl
  have HO := Lib.hid hok
  have HNM := Lib.hid hnum
  clear hP hr hB hk hfin hown hB0 T0 hR0 hnum hten hl hok hNn
  unfold listV
  unfold vcells at *
  go_enter Tryd.func52, Tryd.ntmps52
  go_wp2_with fail
  refine (HNM.out _).mono ?_
  rintro e w1 ⟨g1, cap1, rfl, ho1, hb1⟩
  have T1 := HT0.out.below hb1
  have r1 := Rd.of_own ho1
  have hlen1 := HT.out
  clear hk3 HT0 hb1 ho1
  have hk3 := HK.out _ T1.bel
  go_wp2_with (first | (at_builtin; refine wpList_append_rd _ rfl (.tmp 27) (.tmp 32) 23 rfl (w.heap.size + 1) 5 i0 (.int .u8 0) 1 1 Tryd.underlying23 hi hz0 hz1 hz2 rfl (by decide) _ 1 _ (by rfl) T1.own w1.heap.size _ Nn.length _ _ (by rfl) r1 (u8_one _) (by unfold maxLen; omega) (by omega) T1.size ?_; intro v2 w2 ho2 hg2 _; have T2 := T1.grew ho2 hg2; have hk4 := HK.out _ T2.bel; clear hk3 T1 r1 ho2 hg2) | fail)
  have T2' : One (w.alloc (.cells ([.int .i64 3, .int .i64 0, .string ⟨#[]⟩, .slice (some ⟨g, 0, none⟩) n c] : List Value).toArray 52)) (w.heap.size + 1) w2 5 1 v2 ([3] ++ Nn).length (([3] ++ Nn).map (Value.int .u8)) := by
    have h := T2
    rw [← List.map_append] at h
    rw [List.length_append]; exact h
  clear T2
  obtain ⟨X, hX⟩ : ∃ X, [3] ++ Nn = X := ⟨_, rfl⟩
  have hXl : X.length ≤ 11 := by rw [← hX]; simp; omega
  rw [hX] at T2'
  have HX := Lib.hid hX
  clear hX hk4
  go_loopw [3, 4] (fun v i wr => ∃ (k : Nat) (u : Value), u = v ∧ k ≤ n ∧ i = .int .i64 k ∧ One (w.alloc (.cells ([.int .i64 3, .int .i64 0, .string ⟨#[]⟩, .slice (some ⟨g, 0, none⟩) n c] : List Value).toArray 52)) (w.heap.size + 1) wr 5 1 u (X ++ (l.take k).flatMap El.enc).length ((X ++ (l.take k).flatMap El.enc).map (Value.int .u8))) (fun _ i _ => n - (intOf i).toNat)
  case atStart => exact ⟨0, _, rfl, Nat.zero_le _, rfl, by rw [List.take_zero, List.flatMap_nil, List.append_nil]; exact T2'⟩
  case round =>
    clear T2'
    obtain ⟨k, v, hvu, hk, rfl, T⟩ := hrel
    subst hvu
    have hk3 := HK.out _ T.bel
    by_cases hlt : k < n
    · have j1 : (k : Int) < n := by omega
      have j2 : (0 : Int) ≤ k := by omega
      have hRr := HR.out.below (T.bel.mono (Nat.le_succ _))
      obtain ⟨x, hxk⟩ : ∃ x, l[k]? = some x := ⟨_, List.getElem?_eq_getElem (by rw [HL.out]; exact hlt)⟩
      have hxo := HO.out x (List.mem_of_getElem? hxk)
      have hc : ∀ (j : Nat) (v : Value), x.cells[j]? = some v → wr.cell? ((⟨g, k * 4, none⟩ : Addr).add j) = some v := fun j v hv => by rw [Addr.add_flat]; exact el_at hRr hxk hv
      have HI : Hid ((Tryd.prog.info? 52).map (·.size) = some x.cells.length) := by show _ = _; rw [El.cells_length]; kernel_rfl
      have hfx := renc_el x hxo
      have hel := El.enc_length hxo
      have hfl := flat_len (l := l.take k) (fun x hx => HO.out x (List.mem_of_mem_take hx))
      have hfl2 : (X ++ (l.take k).flatMap El.enc).length ≤ 41000 := by
        rw [List.length_take] at hfl
        rw [List.length_append]
        omega
      have htk := take_enc hxk
      obtain ⟨E, hE⟩ : ∃ E, x.enc = E := ⟨_, rfl⟩
      rw [hE] at hfx hel htk
      obtain ⟨XC, hXC⟩ : ∃ X, x.cells = X := ⟨_, rfl⟩
      rw [hXC] at hc HI hfx
      obtain ⟨Y, hY⟩ : ∃ Y, X ++ (l.take k).flatMap El.enc = Y := ⟨_, rfl⟩
      rw [hY] at T hfl2
      have HC := Lib.hid hc
      have HFX := Lib.hid hfx
      have HTK := Lib.hid (And.intro htk hY)
      clear hXC hc hRr hfl hE hY hfx htk hxk hxo
      go_wp2_with (first | (refine wpList_load_cells rfl 52 (.tmp 45) rfl ⟨g, k * 4, none⟩ (by rfl) XC _ HC.out Tryd.underlying52 (by rfl) HI.out ?_) | (go_at_call 52; refine (HFX.out _).mono ?_; rintro e w3 ⟨g3, cap3, rfl, ho3, hb3⟩; have T3 := T.below hb3; have r3 := Rd.of_own ho3; clear ho3 hb3) | (at_builtin; refine wpList_append_rd _ rfl (.tmp 41) (.tmp 47) 23 rfl (w.heap.size + 1) 5 i0 (.int .u8 0) 1 1 Tryd.underlying23 hi hz0 hz1 hz2 rfl (by decide) _ Y.length _ (by rfl) T3.own w3.heap.size _ E.length _ _ (by rfl) r3 (u8_one _) (by unfold maxLen; omega) (by omega) T3.size ?_; intro v4 w4 ho4 hg4 _; have T4 := T3.grew ho4 hg4) | fail)
      have T5 : One (w.alloc (.cells ([.int .i64 3, .int .i64 0, .string ⟨#[]⟩, .slice (some ⟨g, 0, none⟩) n c] : List Value).toArray 52)) (w.heap.size + 1) w4 5 1 v4 (X ++ (l.take (k + 1)).flatMap El.enc).length ((X ++ (l.take (k + 1)).flatMap El.enc).map (Value.int .u8)) := by
        rw [HTK.out.1, ← List.append_assoc, HTK.out.2, List.length_append, List.map_append]
        exact T4
      have HT5 := Lib.hid T5
      clear T5 T4 ho4 hg4 T3 r3
      go_roundw
      case rel => exact ⟨k + 1, v4, rfl, by omega, by go_num, HT5.out⟩
      case measure => simp [intOf]; omega
    · obtain rfl : k = n := by omega
      have T' := T
      rw [List.take_of_length_le (by rw [HL.out]; exact Nat.le_refl _), ← HX.out] at T'
      have hF := HF.out _ _ T'
      have HG := Lib.hid hF
      clear T' hF T
      go_wp2
      exact HG.out
end Go.Proofs.YtpjggokaolnbcaaDoor
/- The reference's Encode of a list; its number and text. -/
namespace Go.Proofs.YtpjggokaolnbcaaDoor
open Go.RowKit
set_option linter.unusedVariables false
set_option maxRecDepth 100000 in
set_option maxHeartbeats 1000000 in
theorem rnumber_any (n : Int) (w : World) : Calls Tryd.prog 39 #[.int .i64 n] w fun e w' => e = .returned (intV n) ∧ Below w.heap.size w w' := by
  unfold intV
  go_enter Tryd.func39, Tryd.ntmps39
  go_wp2
  refine bodyPost_ret (results_cell_row (p := 2) rfl _ _ w.heap.size 52 _ (0, 0) _ (by rfl) (heap_alloc_new w _) Tryd.underlying52 (by rfl) (by kernel_rfl)) rfl ?_
  exact ⟨rfl, (Below.refl _ _).alloc (Nat.le_refl _) _⟩
set_option maxRecDepth 100000 in
set_option maxHeartbeats 1000000 in
theorem rtext_any (A : Option Addr) (n c : Nat) (l : List Int) (w : World) (hr : Rd w w.heap.size 1 A n (l.map (Value.int .u8))) :
    Calls Tryd.prog 40 #[.slice A n c] w fun e w' => e = .returned (txtV (toBA l)) ∧ Below w.heap.size w w' := by
  have hcv := conv_text (P := Tryd.prog) (c := c) (w.alloc (.cells #[.int .i64 0, .int .i64 0, .string ⟨#[]⟩, .slice none 0 0] 52)) 23 9 5 Tryd.underlying23 Tryd.underlying5 Tryd.underlying9 (hr.alloc (Nat.le_refl _) _)
  obtain ⟨S, hS⟩ : ∃ S, toBA l = S := ⟨_, rfl⟩
  rw [hS] at hcv ⊢
  clear hS hr
  unfold txtV
  go_enter Tryd.func40, Tryd.ntmps40
  go_wp2
  refine bodyPost_ret (results_cell_row (p := 2) rfl _ _ w.heap.size 52 _ (0, 0) _ (by rfl) (heap_alloc_new w _) Tryd.underlying52 (by rfl) (by kernel_rfl)) rfl ?_
  exact ⟨rfl, (Below.refl _ _).alloc (Nat.le_refl _) _⟩
set_option maxRecDepth 100000 in
set_option maxHeartbeats 2000000 in
theorem rEncode_list (g c n : Nat) (l : List El) (w : World) (hl : l.length = n) (hp : 0 < n) (hn : n ≤ 20) (hok : ∀ x ∈ l, x.ok) (hr : Rd w w.heap.size 4 (some ⟨g, 0, none⟩) n (elsCells l)) (hnc : n ≤ c) :
    Calls Tryd.prog 38 #[listV (some ⟨g, 0, none⟩) n c] w (EncPost (encEls l) w) := by
  have hR := (hr.alloc (Nat.le_refl _) (vcells [.int .i64 3, .int .i64 0, .string ⟨#[]⟩, .slice (some ⟨g, 0, none⟩) n c])).more (B' := w.heap.size + 1) (by omega)
  have hBx := (Below.refl w.heap.size w).alloc (Nat.le_refl _) (vcells [.int .i64 3, .int .i64 0, .string ⟨#[]⟩, .slice (some ⟨g, 0, none⟩) n c])
  have k0 : (w.alloc (vcells [.int .i64 3, .int .i64 0, .string ⟨#[]⟩, .slice (some ⟨g, 0, none⟩) n c])).cell? ⟨w.heap.size, 0, none⟩ = some (.int .i64 3) := vbox w _ 0 _ rfl
  have k1 : (w.alloc (vcells [.int .i64 3, .int .i64 0, .string ⟨#[]⟩, .slice (some ⟨g, 0, none⟩) n c])).cell? ⟨w.heap.size, 1, none⟩ = some (.int .i64 0) := vbox w _ 1 _ rfl
  have k2 : (w.alloc (vcells [.int .i64 3, .int .i64 0, .string ⟨#[]⟩, .slice (some ⟨g, 0, none⟩) n c])).cell? ⟨w.heap.size, 2, none⟩ = some (.string ⟨#[]⟩) := vbox w _ 2 _ rfl
  have k3 : (w.alloc (vcells [.int .i64 3, .int .i64 0, .string ⟨#[]⟩, .slice (some ⟨g, 0, none⟩) n c])).cell? ⟨w.heap.size, 3, none⟩ = some (.slice (some ⟨g, 0, none⟩) n c) := vbox w _ 3 _ rfl
  have hs : w.heap.size < (w.alloc (vcells [.int .i64 3, .int .i64 0, .string ⟨#[]⟩, .slice (some ⟨g, 0, none⟩) n c])).heap.size := by simp
  have hc := fun w h => rcheck_list g c n l w hl hp (by omega) h hnc
  have he := fun w h => renc_list g c n l w hl hp hn hok h hnc
  obtain ⟨E, hE⟩ : ∃ E, encEls l = E := ⟨_, rfl⟩
  rw [hE] at he ⊢
  obtain ⟨P, hP⟩ : ∃ P, EncPost E w = P := ⟨_, rfl⟩
  rw [hP]
  have HP := Lib.hid hP
  have HR := Lib.hid hR
  have HB := Lib.hid hBx
  clear hr hR hBx hE hP hok hl
  unfold vcells listV at *
  go_enter Tryd.func38, Tryd.ntmps38
  go_wp2_with fail
  refine (hc _ (by rw [World.size_alloc]; exact HR.out)).mono ?_
  rintro e w1 ⟨rfl, hb1⟩
  have hR1 : Rd w1 w1.heap.size 4 (some ⟨g, 0, none⟩) n (elsCells l) := ((HR.out.below (hb1.mono (by simp))).more (by have := hb1.size; simp at this; omega))
  have hB1 := HB.out.trans (hb1.mono HB.out.size)
  have k0 := (hb1.cell (p := ⟨w.heap.size, 0, none⟩) hs).trans k0
  have k1 := (hb1.cell (p := ⟨w.heap.size, 1, none⟩) hs).trans k1
  have k2 := (hb1.cell (p := ⟨w.heap.size, 2, none⟩) hs).trans k2
  have k3 := (hb1.cell (p := ⟨w.heap.size, 3, none⟩) hs).trans k3
  have HR1 := Lib.hid hR1
  have HB1 := Lib.hid hB1
  clear hb1 hR1 hB1 HR HB hc
  go_wp2_with fail
  refine (he _ HR1.out).mono ?_
  rintro e w2 ⟨A, cc, rfl, hR2, hlc, hcm, hb2⟩
  have HF := Lib.hid (And.intro hR2 (And.intro hlc (And.intro hcm (HB1.out.trans (hb2.mono HB1.out.size)))))
  clear hR2 hlc hcm hb2 he
  go_wp2
  have h9 := HP.out
  subst h9
  exact ⟨A, cc, rfl, HF.out.1, HF.out.2.1, HF.out.2.2.1, HF.out.2.2.2⟩
end Go.Proofs.YtpjggokaolnbcaaDoor
