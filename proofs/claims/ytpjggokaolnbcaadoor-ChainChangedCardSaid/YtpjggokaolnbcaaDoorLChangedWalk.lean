/- ChainChanged: the walk (written by gen_lchanged.py). -/
import Derived.Test.YtpjggokaolnbcaaDoorLEqualWalk
import Derived.Test.YtpjggokaolnbcaaDoorLSet
namespace Go.Proofs.YtpjggokaolnbcaaDoor
open Go.RowKit
attribute [local go_sem] Oper.semAt_some
set_option linter.unusedVariables false
set_option maxRecDepth 100000 in
set_option maxHeartbeats 4000000 in
theorem ch_few (K : Sh.Cst) (A : Option Addr) (n c : Nat) (L : List LkV) (at_ : Nat) (x : LkV) (w : World) (hL : Lks w w.heap.size A n L) (hx : x.ok w w.heap.size) (hnc : n ≤ c) (hat : at_ < 256) (hLd : Laid w) (h1 : Ch.few L = false) :
    Calls Tryd.prog 6 #[.slice A n c, .int .u8 at_, .agg x.cells.toArray] w fun e w' => e = .returned (.bool true) ∧ Below w.heap.size w w' := by
  have hB0 : Below w.heap.size w (w.alloc (.cells x.cells.toArray 37)) := (Below.refl _ w).alloc (Nat.le_refl _) _
  have hR0 : Row (w.alloc (.cells x.cells.toArray 37)) w.heap.size 37 x.cells := heap_alloc_new w _
  have HS := sane_any K _ (hLd.below hB0 hLd.size)
  have hX0 : w.heap.size < (w.alloc (.cells x.cells.toArray 37)).heap.size := by simp
  have hxl := LkV.cells_length hx
  have cd := x.cell_d hx.plen
  have hone := x.one
  have hpl := hx.plen
  obtain ⟨XC, hXC⟩ : ∃ XC, x.cells = XC := ⟨_, rfl⟩
  rw [hXC] at hB0 hR0 HS hX0 hxl cd hone ⊢
  obtain ⟨dl, hdl⟩ : ∃ dl, x.data.length = dl := ⟨_, rfl⟩
  rw [hdl] at cd
  have HDL : Hid (x.data.length = dl) := hdl
  have HXC : Hid (x.cells = XC) := hXC
  have HI : Hid ((Tryd.prog.info? 37).map (·.size) = some XC.length) := by show _ = _; rw [hxl]; exact info_link
  have HS := Lib.hid HS
  have HL := Lib.hid hL
  have HX := Lib.hid hx
  have HLd := Lib.hid hLd
  have HB0 := Lib.hid hB0
  have HR0 := Lib.hid hR0
  have HX0 := Lib.hid hX0
  have HCD := Lib.hid (And.intro cd (And.intro hone hxl))
  clear hL hx hLd hB0 hR0 hXC cd hone hxl hdl hX0 hpl
  go_enter Tryd.func6, Tryd.ntmps6
  go_wp2_with fail
  refine HS.out.mono ?_
  rintro e w1 ⟨rfl, hbs⟩
  have hb1 := HB0.out.trans (hbs.mono HB0.out.size)
  have hR1 := HR0.out.below hbs HX0.out
  have hX1 := Nat.lt_of_lt_of_le HX0.out hbs.size
  clear HS HR0
  have h1 := h1
  have H1 := few_any A n c L w1 ((HL.out.below hb1).more hb1.size)
  rw [h1] at H1
  have H1 := Lib.hid H1
  go_wp2_with fail
  refine H1.out.mono ?_
  rintro e w2 ⟨rfl, rfl⟩
  go_wp2
  go_ret
  exact ⟨rfl, hb1⟩
set_option maxRecDepth 100000 in
set_option maxHeartbeats 4000000 in
theorem ch_nil (K : Sh.Cst) (A : Option Addr) (n c : Nat) (L : List LkV) (at_ : Nat) (x : LkV) (w : World) (hL : Lks w w.heap.size A n L) (hx : x.ok w w.heap.size) (hnc : n ≤ c) (hat : at_ < 256) (hLd : Laid w) (h1 : Ch.few L = true) (h2 : n = 0) :
    Calls Tryd.prog 6 #[.slice A n c, .int .u8 at_, .agg x.cells.toArray] w fun e w' => e = .returned (.bool true) ∧ Below w.heap.size w w' := by
  subst h2
  have hB0 : Below w.heap.size w (w.alloc (.cells x.cells.toArray 37)) := (Below.refl _ w).alloc (Nat.le_refl _) _
  have hR0 : Row (w.alloc (.cells x.cells.toArray 37)) w.heap.size 37 x.cells := heap_alloc_new w _
  have HS := sane_any K _ (hLd.below hB0 hLd.size)
  have hX0 : w.heap.size < (w.alloc (.cells x.cells.toArray 37)).heap.size := by simp
  have hxl := LkV.cells_length hx
  have cd := x.cell_d hx.plen
  have hone := x.one
  have hpl := hx.plen
  obtain ⟨XC, hXC⟩ : ∃ XC, x.cells = XC := ⟨_, rfl⟩
  rw [hXC] at hB0 hR0 HS hX0 hxl cd hone ⊢
  obtain ⟨dl, hdl⟩ : ∃ dl, x.data.length = dl := ⟨_, rfl⟩
  rw [hdl] at cd
  have HDL : Hid (x.data.length = dl) := hdl
  have HXC : Hid (x.cells = XC) := hXC
  have HI : Hid ((Tryd.prog.info? 37).map (·.size) = some XC.length) := by show _ = _; rw [hxl]; exact info_link
  have HS := Lib.hid HS
  have HL := Lib.hid hL
  have HX := Lib.hid hx
  have HLd := Lib.hid hLd
  have HB0 := Lib.hid hB0
  have HR0 := Lib.hid hR0
  have HX0 := Lib.hid hX0
  have HCD := Lib.hid (And.intro cd (And.intro hone hxl))
  clear hL hx hLd hB0 hR0 hXC cd hone hxl hdl hX0 hpl
  go_enter Tryd.func6, Tryd.ntmps6
  go_wp2_with fail
  refine HS.out.mono ?_
  rintro e w1 ⟨rfl, hbs⟩
  have hb1 := HB0.out.trans (hbs.mono HB0.out.size)
  have hR1 := HR0.out.below hbs HX0.out
  have hX1 := Nat.lt_of_lt_of_le HX0.out hbs.size
  clear HS HR0
  have H1 := few_any A 0 c L w1 ((HL.out.below hb1).more hb1.size)
  rw [h1] at H1
  have H1 := Lib.hid H1
  go_wp2_with fail
  refine H1.out.mono ?_
  rintro e w2 ⟨rfl, rfl⟩
  go_wp2
  go_ret
  exact ⟨rfl, hb1⟩
set_option maxRecDepth 100000 in
set_option maxHeartbeats 4000000 in
theorem ch_long (K : Sh.Cst) (A : Option Addr) (n c : Nat) (L : List LkV) (at_ : Nat) (x : LkV) (w : World) (hL : Lks w w.heap.size A n L) (hx : x.ok w w.heap.size) (hnc : n ≤ c) (hat : at_ < 256) (hLd : Laid w) (h1 : Ch.few L = true) (h2 : 0 < n) (h3 : 300 < x.data.length) :
    Calls Tryd.prog 6 #[.slice A n c, .int .u8 at_, .agg x.cells.toArray] w fun e w' => e = .returned (.bool true) ∧ Below w.heap.size w w' := by
  have z1 : ¬ (n : Int) = 0 := by omega
  have z2 : ((n : Int) == 0) = false := by simp; omega
  have hB0 : Below w.heap.size w (w.alloc (.cells x.cells.toArray 37)) := (Below.refl _ w).alloc (Nat.le_refl _) _
  have hR0 : Row (w.alloc (.cells x.cells.toArray 37)) w.heap.size 37 x.cells := heap_alloc_new w _
  have HS := sane_any K _ (hLd.below hB0 hLd.size)
  have hX0 : w.heap.size < (w.alloc (.cells x.cells.toArray 37)).heap.size := by simp
  have hxl := LkV.cells_length hx
  have cd := x.cell_d hx.plen
  have hone := x.one
  have hpl := hx.plen
  obtain ⟨XC, hXC⟩ : ∃ XC, x.cells = XC := ⟨_, rfl⟩
  rw [hXC] at hB0 hR0 HS hX0 hxl cd hone ⊢
  obtain ⟨dl, hdl⟩ : ∃ dl, x.data.length = dl := ⟨_, rfl⟩
  rw [hdl] at cd
  have HDL : Hid (x.data.length = dl) := hdl
  have HXC : Hid (x.cells = XC) := hXC
  have HI : Hid ((Tryd.prog.info? 37).map (·.size) = some XC.length) := by show _ = _; rw [hxl]; exact info_link
  have HS := Lib.hid HS
  have HL := Lib.hid hL
  have HX := Lib.hid hx
  have HLd := Lib.hid hLd
  have HB0 := Lib.hid hB0
  have HR0 := Lib.hid hR0
  have HX0 := Lib.hid hX0
  have HCD := Lib.hid (And.intro cd (And.intro hone hxl))
  clear hL hx hLd hB0 hR0 hXC cd hone hxl hdl hX0 hpl
  go_enter Tryd.func6, Tryd.ntmps6
  go_wp2_with fail
  refine HS.out.mono ?_
  rintro e w1 ⟨rfl, hbs⟩
  have hb1 := HB0.out.trans (hbs.mono HB0.out.size)
  have hR1 := HR0.out.below hbs HX0.out
  have hX1 := Nat.lt_of_lt_of_le HX0.out hbs.size
  clear HS HR0
  have z3 : (300 : Int) < (dl : Int) := by have := HDL.out; omega
  have H1 := few_any A n c L w1 ((HL.out.below hb1).more hb1.size)
  rw [h1] at H1
  have H1 := Lib.hid H1
  have hq34 := hR1.cell HCD.out.1
  go_wp2_with fail
  refine H1.out.mono ?_
  rintro e w2 ⟨rfl, rfl⟩
  go_wp2
  go_ret
  exact ⟨rfl, hb1⟩
set_option maxRecDepth 100000 in
set_option maxHeartbeats 4000000 in
theorem ch_chk (K : Sh.Cst) (A : Option Addr) (n c : Nat) (L : List LkV) (at_ : Nat) (x : LkV) (w : World) (hL : Lks w w.heap.size A n L) (hx : x.ok w w.heap.size) (hnc : n ≤ c) (hat : at_ < 256) (hLd : Laid w) (h1 : Ch.few L = true) (h2 : 0 < n) (h3 : x.data.length ≤ 300) (hf : ∀ y ∈ L, Ch.fit y) (h4 : Ch.allB K L = false) :
    Calls Tryd.prog 6 #[.slice A n c, .int .u8 at_, .agg x.cells.toArray] w fun e w' => e = .returned (.bool true) ∧ Below w.heap.size w w' := by
  have z1 : ¬ (n : Int) = 0 := by omega
  have z2 : ((n : Int) == 0) = false := by simp; omega
  have hB0 : Below w.heap.size w (w.alloc (.cells x.cells.toArray 37)) := (Below.refl _ w).alloc (Nat.le_refl _) _
  have hR0 : Row (w.alloc (.cells x.cells.toArray 37)) w.heap.size 37 x.cells := heap_alloc_new w _
  have HS := sane_any K _ (hLd.below hB0 hLd.size)
  have hX0 : w.heap.size < (w.alloc (.cells x.cells.toArray 37)).heap.size := by simp
  have hxl := LkV.cells_length hx
  have cd := x.cell_d hx.plen
  have hone := x.one
  have hpl := hx.plen
  obtain ⟨XC, hXC⟩ : ∃ XC, x.cells = XC := ⟨_, rfl⟩
  rw [hXC] at hB0 hR0 HS hX0 hxl cd hone ⊢
  obtain ⟨dl, hdl⟩ : ∃ dl, x.data.length = dl := ⟨_, rfl⟩
  rw [hdl] at cd
  have HDL : Hid (x.data.length = dl) := hdl
  have HXC : Hid (x.cells = XC) := hXC
  have HI : Hid ((Tryd.prog.info? 37).map (·.size) = some XC.length) := by show _ = _; rw [hxl]; exact info_link
  have HS := Lib.hid HS
  have HL := Lib.hid hL
  have HX := Lib.hid hx
  have HLd := Lib.hid hLd
  have HB0 := Lib.hid hB0
  have HR0 := Lib.hid hR0
  have HX0 := Lib.hid hX0
  have HCD := Lib.hid (And.intro cd (And.intro hone hxl))
  clear hL hx hLd hB0 hR0 hXC cd hone hxl hdl hX0 hpl
  go_enter Tryd.func6, Tryd.ntmps6
  go_wp2_with fail
  refine HS.out.mono ?_
  rintro e w1 ⟨rfl, hbs⟩
  have hb1 := HB0.out.trans (hbs.mono HB0.out.size)
  have hR1 := HR0.out.below hbs HX0.out
  have hX1 := Nat.lt_of_lt_of_le HX0.out hbs.size
  clear HS HR0
  have z3 : ¬ (300 : Int) < (dl : Int) := by have := HDL.out; omega
  have z4 : (dl : Int) ≤ 300 := by omega
  have H1 := few_any A n c L w1 ((HL.out.below hb1).more hb1.size)
  rw [h1] at H1
  have H1 := Lib.hid H1
  have hq34 := hR1.cell HCD.out.1
  go_wp2_with fail
  refine H1.out.mono ?_
  rintro e w2 ⟨rfl, rfl⟩
  have H2 := check_any K A n c L w2 ((HL.out.below hb1).more hb1.size) (by have := HL.out.len; have := (Ch.few_le h1).1; omega) hnc hf (HLd.out.below hb1 HLd.out.size)
  rw [chk_not h4] at H2
  have H2 := Lib.hid H2
  go_wp2_with fail
  refine H2.out.mono ?_
  rintro e w3 ⟨rfl, hbx⟩
  have hb3 := hb1.trans (hbx.mono hb1.size)
  have hR3 := hR1.below hbx hX1
  have hX3 := Nat.lt_of_lt_of_le hX1 hbx.size
  clear hbx
  go_wp2
  go_ret
  exact ⟨rfl, hb3⟩
set_option maxRecDepth 100000 in
set_option maxHeartbeats 4000000 in
theorem ch_same (K : Sh.Cst) (A : Option Addr) (n c : Nat) (L : List LkV) (at_ : Nat) (x : LkV) (w : World) (hL : Lks w w.heap.size A n L) (hx : x.ok w w.heap.size) (hnc : n ≤ c) (hat : at_ < 256) (hLd : Laid w) (h1 : Ch.few L = true) (h2 : 0 < n) (h3 : x.data.length ≤ 300) (hf : ∀ y ∈ L, Ch.fit y) (h4 : Ch.allB K L = true) (hs : Ch.sameV (Ch.gk L (at_ % n)) x = true) :
    Calls Tryd.prog 6 #[.slice A n c, .int .u8 at_, .agg x.cells.toArray] w fun e w' => e = .returned (.bool true) ∧ Below w.heap.size w w' := by
  have hl16 := (Ch.few_le h1).1
  have hLl := hL.len
  obtain ⟨k, hkk⟩ : ∃ k, at_ % n = k := ⟨_, rfl⟩
  have hkn : k < n := by rw [← hkk]; exact Nat.mod_lt _ h2
  rw [hkk] at hs
  have hwr : IntKind.i64.wrap (at_ : Int) = (at_ : Int) := by simp only [IntKind.wrap, IntKind.bits, IntKind.signed]; simp; omega
  have hrem : Int.tmod (at_ : Int) (n : Int) = (k : Int) := by rw [← hkk]; exact (Int.ofNat_tmod at_ n).symm
  have hwk : IntKind.i64.wrap (k : Int) = (k : Int) := by simp only [IntKind.wrap, IntKind.bits, IntKind.signed]; simp; omega
  have kk1 : (k : Int) < (n : Int) := by omega
  have kk2 : (0 : Int) ≤ (k : Int) := by omega
  have kL := (Ch.gk_mem (L := L) (k := k) (by omega))
  obtain ⟨b, o, rfl, hbw, hcell⟩ := hL.at kL.2
  have okL := hL.all _ kL.1
  clear hkk
  have z1 : ¬ (n : Int) = 0 := by omega
  have z2 : ((n : Int) == 0) = false := by simp; omega
  have hB0 : Below w.heap.size w (w.alloc (.cells x.cells.toArray 37)) := (Below.refl _ w).alloc (Nat.le_refl _) _
  have hR0 : Row (w.alloc (.cells x.cells.toArray 37)) w.heap.size 37 x.cells := heap_alloc_new w _
  have HS := sane_any K _ (hLd.below hB0 hLd.size)
  have hX0 : w.heap.size < (w.alloc (.cells x.cells.toArray 37)).heap.size := by simp
  have hxl := LkV.cells_length hx
  have cd := x.cell_d hx.plen
  have hone := x.one
  have hpl := hx.plen
  obtain ⟨XC, hXC⟩ : ∃ XC, x.cells = XC := ⟨_, rfl⟩
  rw [hXC] at hB0 hR0 HS hX0 hxl cd hone ⊢
  obtain ⟨dl, hdl⟩ : ∃ dl, x.data.length = dl := ⟨_, rfl⟩
  rw [hdl] at cd
  have HDL : Hid (x.data.length = dl) := hdl
  have HXC : Hid (x.cells = XC) := hXC
  have HI : Hid ((Tryd.prog.info? 37).map (·.size) = some XC.length) := by show _ = _; rw [hxl]; exact info_link
  have HS := Lib.hid HS
  have HL := Lib.hid hL
  have HX := Lib.hid hx
  have HLd := Lib.hid hLd
  have HB0 := Lib.hid hB0
  have HR0 := Lib.hid hR0
  have HX0 := Lib.hid hX0
  have HCD := Lib.hid (And.intro cd (And.intro hone hxl))
  clear hL hx hLd hB0 hR0 hXC cd hone hxl hdl hX0 hpl
  go_enter Tryd.func6, Tryd.ntmps6
  go_wp2_with fail
  refine HS.out.mono ?_
  rintro e w1 ⟨rfl, hbs⟩
  have hb1 := HB0.out.trans (hbs.mono HB0.out.size)
  have hR1 := HR0.out.below hbs HX0.out
  have hX1 := Nat.lt_of_lt_of_le HX0.out hbs.size
  clear HS HR0
  have z3 : ¬ (300 : Int) < (dl : Int) := by have := HDL.out; omega
  have z4 : (dl : Int) ≤ 300 := by omega
  have H1 := few_any (some ⟨b, o, none⟩) n c L w1 ((HL.out.below hb1).more hb1.size)
  rw [h1] at H1
  have H1 := Lib.hid H1
  have hq34 := hR1.cell HCD.out.1
  go_wp2_with fail
  refine H1.out.mono ?_
  rintro e w2 ⟨rfl, rfl⟩
  have H2 := check_any K (some ⟨b, o, none⟩) n c L w2 ((HL.out.below hb1).more hb1.size) (by have := HL.out.len; have := (Ch.few_le h1).1; omega) hnc hf (HLd.out.below hb1 HLd.out.size)
  rw [Ch.chk_of h4] at H2
  have H2 := Lib.hid H2
  go_wp2_with fail
  refine H2.out.mono ?_
  rintro e w3 ⟨rfl, hbx⟩
  have hb3 := hb1.trans (hbx.mono hb1.size)
  have hR3 := hR1.below hbx hX1
  have hX3 := Nat.lt_of_lt_of_le hX1 hbx.size
  clear hbx
  have okx := HX.out
  have hSL : ∀ W, Below w3.heap.size w3 W → Calls Tryd.prog 18 #[.agg (Ch.gk L k).cells.toArray, .agg XC.toArray] W fun e w' => e = .returned (.bool true) ∧ Below W.heap.size W w' := by
    intro W hW
    have hLW := hb3.trans (hW.mono hb3.size)
    have := samelink_any (Ch.gk L k) x W ((okL.below hLW).more hLW.size) ((okx.below hLW).more hLW.size)
    rw [hs, HXC.out] at this
    exact this
  have cL : ∀ W, Below w3.heap.size w3 W → ∀ (j : Nat) (v : Value), (Ch.gk L k).cells[j]? = some v → W.cell? ((⟨b, o + k * 35, none⟩ : Addr).add j) = some v := by
    intro W hW j v hj
    have hLW := hb3.trans (hW.mono hb3.size)
    rw [Addr.add_flat]
    exact lks_cell (HL.out.below hLW) kL.2 j v hj
  have cX : ∀ W, Below w3.heap.size w3 W → ∀ (j : Nat) (v : Value), XC[j]? = some v → W.cell? ((⟨w.heap.size, 0, none⟩ : Addr).add j) = some v := by
    intro W hW j v hj
    rw [Addr.add_flat, Nat.zero_add]
    exact (hR3.below hW hX3).cell hj
  have HIL : Hid ((Tryd.prog.info? 37).map (·.size) = some (Ch.gk L k).cells.length) := by show _ = _; rw [LkV.cells_length okL]; exact info_link
  obtain ⟨XL, hXL⟩ : ∃ X, (Ch.gk L k).cells = X := ⟨_, rfl⟩
  rw [hXL] at hSL cL HIL
  have HSL := Lib.hid hSL
  have HCL := Lib.hid cL
  have HCX := Lib.hid cX
  have hS0 : Below w3.heap.size w3 w3.drew := (Below.refl _ _).drew
  clear hSL cL cX hXL okL okx
  go_wp2_with fail
  rename_i Kz hKz
  refine wp_region_ord (fun w' => Below w3.heap.size w3 w') [(0, true), (1, true), (2, true), (3, true), (4, true), (5, false)] (by kernel_rfl) (by kernel_rfl) rfl (by kernel_rfl) (fun x _ _ _ _ h => by cases x <;> exact h) hS0 ?_
  refine wpOrd_take rfl _ (by rfl) (by intro w' _; go_simp; try with_reducible rfl) fun KK hKK => ?_
  go_simp
  refine hKK _ ?_
  clear hKK KK
  refine wpOrd_take rfl _ (by rfl) (by intro w' _; go_simp; try with_reducible rfl) fun KK hKK => ?_
  go_simp
  refine hKK _ ?_
  clear hKK KK
  refine wpOrd_take rfl _ (by rfl) (by intro w' _; go_simp; try with_reducible rfl) fun KK hKK => ?_
  go_simp
  refine hKK _ ?_
  clear hKK KK
  refine wpOrd_take rfl _ (by rfl) (fun w' hS => run_load_exec 37 (.tmp 37) rfl ⟨b, o + k * 35, none⟩ (by rfl) XL _ (HCL.out w' hS) Tryd.underlying37 (by rfl) HIL.out) fun KK hKK => ?_
  go_simp
  refine hKK _ ?_
  clear hKK KK
  refine wpOrd_take rfl _ (by rfl) (fun w' hS => run_load_exec 37 (.tmp 5) rfl ⟨w.heap.size, 0, none⟩ (by rfl) XC _ (HCX.out w' hS) Tryd.underlying37 (by rfl) HI.out) fun KK hKK => ?_
  go_simp
  refine hKK _ ?_
  clear hKK KK
  refine wpOrd_force rfl (by rfl) fun KK hKK => ?_
  go_simp
  refine (HSL.out _ hS0).mono ?_
  rintro e w4 ⟨rfl, hb4⟩
  have hS4 : Below w3.heap.size w3 w4 := hS0.trans (hb4.mono hS0.size)
  refine hKK _ _ hS4 ?_
  clear hKK KK
  refine wpOrd_nil ?_
  show Kz _ _
  refine hKz _ _ ?_
  clear hKz
  have hb4 := hb3.trans (hS4.mono hb3.size)
  have hR4 := hR3.below hS4 hX3
  have hX4 := Nat.lt_of_lt_of_le hX3 hS4.size
  go_wp2
  go_ret
  exact ⟨rfl, hb4⟩
set_option maxRecDepth 100000 in
set_option maxHeartbeats 4000000 in
theorem ch_bad (K : Sh.Cst) (A : Option Addr) (n c : Nat) (L : List LkV) (at_ : Nat) (x : LkV) (w : World) (hL : Lks w w.heap.size A n L) (hx : x.ok w w.heap.size) (hnc : n ≤ c) (hat : at_ < 256) (hLd : Laid w) (h1 : Ch.few L = true) (h2 : 0 < n) (h3 : x.data.length ≤ 300) (hf : ∀ y ∈ L, Ch.fit y) (h4 : Ch.allB K L = true) (hfx : Ch.fit x) (hs : Ch.sameV (Ch.gk L (at_ % n)) x = false) (h6 : Ch.allB K (L.set (at_ % n) x) = false) :
    Calls Tryd.prog 6 #[.slice A n c, .int .u8 at_, .agg x.cells.toArray] w fun e w' => e = .returned (.bool true) ∧ Below w.heap.size w w' := by
  have hl16 := (Ch.few_le h1).1
  have hLl := hL.len
  obtain ⟨k, hkk⟩ : ∃ k, at_ % n = k := ⟨_, rfl⟩
  have hkn : k < n := by rw [← hkk]; exact Nat.mod_lt _ h2
  rw [hkk] at hs h6
  have hwr : IntKind.i64.wrap (at_ : Int) = (at_ : Int) := by simp only [IntKind.wrap, IntKind.bits, IntKind.signed]; simp; omega
  have hrem : Int.tmod (at_ : Int) (n : Int) = (k : Int) := by rw [← hkk]; exact (Int.ofNat_tmod at_ n).symm
  have hwk : IntKind.i64.wrap (k : Int) = (k : Int) := by simp only [IntKind.wrap, IntKind.bits, IntKind.signed]; simp; omega
  have kk1 : (k : Int) < (n : Int) := by omega
  have kk2 : (0 : Int) ≤ (k : Int) := by omega
  have kL := (Ch.gk_mem (L := L) (k := k) (by omega))
  obtain ⟨b, o, rfl, hbw, hcell⟩ := hL.at kL.2
  have okL := hL.all _ kL.1
  clear hkk
  have z1 : ¬ (n : Int) = 0 := by omega
  have z2 : ((n : Int) == 0) = false := by simp; omega
  have hB0 : Below w.heap.size w (w.alloc (.cells x.cells.toArray 37)) := (Below.refl _ w).alloc (Nat.le_refl _) _
  have hR0 : Row (w.alloc (.cells x.cells.toArray 37)) w.heap.size 37 x.cells := heap_alloc_new w _
  have HS := sane_any K _ (hLd.below hB0 hLd.size)
  have hX0 : w.heap.size < (w.alloc (.cells x.cells.toArray 37)).heap.size := by simp
  have hxl := LkV.cells_length hx
  have cd := x.cell_d hx.plen
  have hone := x.one
  have hpl := hx.plen
  obtain ⟨XC, hXC⟩ : ∃ XC, x.cells = XC := ⟨_, rfl⟩
  rw [hXC] at hB0 hR0 HS hX0 hxl cd hone ⊢
  obtain ⟨dl, hdl⟩ : ∃ dl, x.data.length = dl := ⟨_, rfl⟩
  rw [hdl] at cd
  have HDL : Hid (x.data.length = dl) := hdl
  have HXC : Hid (x.cells = XC) := hXC
  have HI : Hid ((Tryd.prog.info? 37).map (·.size) = some XC.length) := by show _ = _; rw [hxl]; exact info_link
  have HS := Lib.hid HS
  have HL := Lib.hid hL
  have HX := Lib.hid hx
  have HLd := Lib.hid hLd
  have HB0 := Lib.hid hB0
  have HR0 := Lib.hid hR0
  have HX0 := Lib.hid hX0
  have HCD := Lib.hid (And.intro cd (And.intro hone hxl))
  clear hL hx hLd hB0 hR0 hXC cd hone hxl hdl hX0 hpl
  go_enter Tryd.func6, Tryd.ntmps6
  go_wp2_with fail
  refine HS.out.mono ?_
  rintro e w1 ⟨rfl, hbs⟩
  have hb1 := HB0.out.trans (hbs.mono HB0.out.size)
  have hR1 := HR0.out.below hbs HX0.out
  have hX1 := Nat.lt_of_lt_of_le HX0.out hbs.size
  clear HS HR0
  have z3 : ¬ (300 : Int) < (dl : Int) := by have := HDL.out; omega
  have z4 : (dl : Int) ≤ 300 := by omega
  have H1 := few_any (some ⟨b, o, none⟩) n c L w1 ((HL.out.below hb1).more hb1.size)
  rw [h1] at H1
  have H1 := Lib.hid H1
  have hq34 := hR1.cell HCD.out.1
  go_wp2_with fail
  refine H1.out.mono ?_
  rintro e w2 ⟨rfl, rfl⟩
  have H2 := check_any K (some ⟨b, o, none⟩) n c L w2 ((HL.out.below hb1).more hb1.size) (by have := HL.out.len; have := (Ch.few_le h1).1; omega) hnc hf (HLd.out.below hb1 HLd.out.size)
  rw [Ch.chk_of h4] at H2
  have H2 := Lib.hid H2
  go_wp2_with fail
  refine H2.out.mono ?_
  rintro e w3 ⟨rfl, hbx⟩
  have hb3 := hb1.trans (hbx.mono hb1.size)
  have hR3 := hR1.below hbx hX1
  have hX3 := Nat.lt_of_lt_of_le hX1 hbx.size
  clear hbx
  have okx := HX.out
  have hSL : ∀ W, Below w3.heap.size w3 W → Calls Tryd.prog 18 #[.agg (Ch.gk L k).cells.toArray, .agg XC.toArray] W fun e w' => e = .returned (.bool false) ∧ Below W.heap.size W w' := by
    intro W hW
    have hLW := hb3.trans (hW.mono hb3.size)
    have := samelink_any (Ch.gk L k) x W ((okL.below hLW).more hLW.size) ((okx.below hLW).more hLW.size)
    rw [hs, HXC.out] at this
    exact this
  have cL : ∀ W, Below w3.heap.size w3 W → ∀ (j : Nat) (v : Value), (Ch.gk L k).cells[j]? = some v → W.cell? ((⟨b, o + k * 35, none⟩ : Addr).add j) = some v := by
    intro W hW j v hj
    have hLW := hb3.trans (hW.mono hb3.size)
    rw [Addr.add_flat]
    exact lks_cell (HL.out.below hLW) kL.2 j v hj
  have cX : ∀ W, Below w3.heap.size w3 W → ∀ (j : Nat) (v : Value), XC[j]? = some v → W.cell? ((⟨w.heap.size, 0, none⟩ : Addr).add j) = some v := by
    intro W hW j v hj
    rw [Addr.add_flat, Nat.zero_add]
    exact (hR3.below hW hX3).cell hj
  have HIL : Hid ((Tryd.prog.info? 37).map (·.size) = some (Ch.gk L k).cells.length) := by show _ = _; rw [LkV.cells_length okL]; exact info_link
  obtain ⟨XL, hXL⟩ : ∃ X, (Ch.gk L k).cells = X := ⟨_, rfl⟩
  rw [hXL] at hSL cL HIL
  have HSL := Lib.hid hSL
  have HCL := Lib.hid cL
  have HCX := Lib.hid cX
  have hS0 : Below w3.heap.size w3 w3.drew := (Below.refl _ _).drew
  clear hSL cL cX hXL okL okx
  go_wp2_with fail
  rename_i Kz hKz
  refine wp_region_ord (fun w' => Below w3.heap.size w3 w') [(0, true), (1, true), (2, true), (3, true), (4, true), (5, false)] (by kernel_rfl) (by kernel_rfl) rfl (by kernel_rfl) (fun x _ _ _ _ h => by cases x <;> exact h) hS0 ?_
  refine wpOrd_take rfl _ (by rfl) (by intro w' _; go_simp; try with_reducible rfl) fun KK hKK => ?_
  go_simp
  refine hKK _ ?_
  clear hKK KK
  refine wpOrd_take rfl _ (by rfl) (by intro w' _; go_simp; try with_reducible rfl) fun KK hKK => ?_
  go_simp
  refine hKK _ ?_
  clear hKK KK
  refine wpOrd_take rfl _ (by rfl) (by intro w' _; go_simp; try with_reducible rfl) fun KK hKK => ?_
  go_simp
  refine hKK _ ?_
  clear hKK KK
  refine wpOrd_take rfl _ (by rfl) (fun w' hS => run_load_exec 37 (.tmp 37) rfl ⟨b, o + k * 35, none⟩ (by rfl) XL _ (HCL.out w' hS) Tryd.underlying37 (by rfl) HIL.out) fun KK hKK => ?_
  go_simp
  refine hKK _ ?_
  clear hKK KK
  refine wpOrd_take rfl _ (by rfl) (fun w' hS => run_load_exec 37 (.tmp 5) rfl ⟨w.heap.size, 0, none⟩ (by rfl) XC _ (HCX.out w' hS) Tryd.underlying37 (by rfl) HI.out) fun KK hKK => ?_
  go_simp
  refine hKK _ ?_
  clear hKK KK
  refine wpOrd_force rfl (by rfl) fun KK hKK => ?_
  go_simp
  refine (HSL.out _ hS0).mono ?_
  rintro e w4 ⟨rfl, hb4⟩
  have hS4 : Below w3.heap.size w3 w4 := hS0.trans (hb4.mono hS0.size)
  refine hKK _ _ hS4 ?_
  clear hKK KK
  refine wpOrd_nil ?_
  show Kz _ _
  refine hKz _ _ ?_
  clear hKz
  have hb4 := hb3.trans (hS4.mono hb3.size)
  have hR4 := hR3.below hS4 hX3
  have hX4 := Nat.lt_of_lt_of_le hX3 hS4.size
  obtain ⟨ie, z, hi, hz, hsz, hzs, hby⟩ := link_info
  have hLw : ∀ W, Below w.heap.size w W → ∀ j u, (L.flatMap LkV.cells)[j]? = some u → W.cell? ((⟨b, o, none⟩ : Addr).add j) = some u := by
    intro W hW j u hj
    obtain ⟨b1, o1, e, _, hc⟩ := (HL.out.below hW).rd.2 (by omega)
    injection e with e
    injection e with e1 e2
    subst e1 e2
    rw [Addr.add_flat]
    exact hc j u hj
  have hone2 : ∀ u ∈ L.flatMap LkV.cells, u.oneCell' = true := fun u hu => by
    obtain ⟨y, _, hy⟩ := List.mem_flatMap.1 hu
    exact y.one u hy
  have HLW := Lib.hid (And.intro hLw (And.intro hone2 HL.out.rd.1))
  clear hLw hone2
  go_wp2_with (first
    | (at_builtin; refine wpList_append_grows _ rfl (.tmp 41) (.tmp 42) 22 rfl 37 ie z 35 72 Tryd.underlying22 hi hz hsz hby hzs (by omega) (some ⟨w4.heap.size, 0, none⟩) 0 0 [] (by rfl) (fun h => by cases h) rfl (fun b1 hb1 j u hj => by simp at hj) ⟨b, o, none⟩ n c (L.flatMap LkV.cells) (by rfl) HLW.out.2.2 (HLW.out.1 _ (hb4.alloc hb4.size _)) HLW.out.2.1 (by omega) (by unfold maxLen; omega) (by omega) ?_; intro v5 w5 hown hg5; have hb45 : Below w4.heap.size w4 w5 := (((Below.refl _ w4).alloc (Nat.le_refl _) _).grown hg5 (by simp) (fun k e => by cases e)); have hb5 := hb4.trans (hb45.mono hb4.size); obtain ⟨g, C, cur, rfl, hbg, hO⟩ := lown_of (L := L) (n := n) (fun y hy => ((HL.out.all y hy).below hb5).more hb5.size) HL.out.len h2 (by simpa using hown); have HO := Lib.hid hO; have hX5 := Nat.lt_of_lt_of_le hX4 hb45.size; have hR5 := hR4.below hb45 hX4; have kk3 : k < n := hkn; have kC1 : (k : Int) < (C : Int) := (by have := hO.cap; omega); clear hown hg5 hO)
    | (refine wpList_load_cells rfl 37 (.tmp 5) rfl ⟨w.heap.size, 0, none⟩ (by rfl) XC _ (fun j v hv => by rw [Addr.add_flat, Nat.zero_add]; exact hR5.cell hv) Tryd.underlying37 (by rfl) HI.out ?_)
    | (refine wpList_store_at rfl 37 (.tmp 47) (.tmp 46) rfl g (k * 35) XC (by rfl) (by rfl) 37 cur HO.out.heap (by rw [HCD.out.2.2, HO.out.size]; have := HO.out.cap; omega) HI.out HCD.out.2.1 ?_; intro w6 hg6 hgr6)
    | fail)
  have hb56 : Below w5.heap.size w5 w5 := Below.refl _ _
  have hbg' : w.heap.size ≤ g := Nat.le_trans hb4.size (by omega)
  have hb6 : Below w.heap.size w w6 := hb5.grown hgr6 hb5.size (fun k e => by injection e with e; omega)
  have hxL : ∀ y ∈ L.set k x, y.ok w w.heap.size := fun y hy => by
    rcases List.mem_or_eq_of_mem_set hy with hy | rfl
    · exact HL.out.all y hy
    · exact HX.out
  have hx5 : x.ok w5 w5.heap.size := (HX.out.below hb5).more hb5.size
  obtain ⟨cur', hO6⟩ := HO.out.set (k := k) (x := x) (w' := w6) hkn hx5 (by rw [HXC.out]; exact hg6) (fun y hy => ((hxL y hy).below hb6).more hb6.size)
  have hM6 := hO6.lks
  have hcM := hO6.cap
  have hfM : ∀ y ∈ L.set k x, Ch.fit y := fun y hy => by
    rcases List.mem_or_eq_of_mem_set hy with hy | rfl
    · exact hf y hy
    · exact hfx
  have HM := Lib.hid hM6
  have HFM := Lib.hid hfM
  have H6 := check_any K (some ⟨g, 0, none⟩) n C (L.set k x) w6 hM6 (by omega) hcM hfM (HLd.out.below hb6 HLd.out.size)
  rw [chk_not h6] at H6
  have H6 := Lib.hid H6
  have hnw : IntKind.i64.wrap ((n : Int) - 1) = (n : Int) - 1 := by simp only [IntKind.wrap, IntKind.bits, IntKind.signed]; simp; omega
  clear hO6 hM6 hfM hxL hx5 hg6 hgr6 HO
  go_wp2_with fail
  refine H6.out.mono ?_
  rintro e w7 ⟨rfl, hb67⟩
  have hb7 := hb6.trans (hb67.mono hb6.size)
  go_wp2
  go_ret
  exact ⟨rfl, hb7⟩
set_option maxRecDepth 100000 in
set_option maxHeartbeats 4000000 in
theorem ch_last (K : Sh.Cst) (A : Option Addr) (n c : Nat) (L : List LkV) (at_ : Nat) (x : LkV) (w : World) (hL : Lks w w.heap.size A n L) (hx : x.ok w w.heap.size) (hnc : n ≤ c) (hat : at_ < 256) (hLd : Laid w) (h1 : Ch.few L = true) (h2 : 0 < n) (h3 : x.data.length ≤ 300) (hf : ∀ y ∈ L, Ch.fit y) (h4 : Ch.allB K L = true) (hfx : Ch.fit x) (hs : Ch.sameV (Ch.gk L (at_ % n)) x = false) (h6 : Ch.allB K (L.set (at_ % n) x) = true) (h7 : at_ % n + 1 = n) :
    Calls Tryd.prog 6 #[.slice A n c, .int .u8 at_, .agg x.cells.toArray] w fun e w' => e = .returned (.bool true) ∧ Below w.heap.size w w' := by
  have hl16 := (Ch.few_le h1).1
  have hLl := hL.len
  obtain ⟨k, hkk⟩ : ∃ k, at_ % n = k := ⟨_, rfl⟩
  have hkn : k < n := by rw [← hkk]; exact Nat.mod_lt _ h2
  rw [hkk] at hs h6 h7
  have hwr : IntKind.i64.wrap (at_ : Int) = (at_ : Int) := by simp only [IntKind.wrap, IntKind.bits, IntKind.signed]; simp; omega
  have hrem : Int.tmod (at_ : Int) (n : Int) = (k : Int) := by rw [← hkk]; exact (Int.ofNat_tmod at_ n).symm
  have hwk : IntKind.i64.wrap (k : Int) = (k : Int) := by simp only [IntKind.wrap, IntKind.bits, IntKind.signed]; simp; omega
  have kk1 : (k : Int) < (n : Int) := by omega
  have kk2 : (0 : Int) ≤ (k : Int) := by omega
  have kL := (Ch.gk_mem (L := L) (k := k) (by omega))
  obtain ⟨b, o, rfl, hbw, hcell⟩ := hL.at kL.2
  have okL := hL.all _ kL.1
  clear hkk
  have z1 : ¬ (n : Int) = 0 := by omega
  have z2 : ((n : Int) == 0) = false := by simp; omega
  have hB0 : Below w.heap.size w (w.alloc (.cells x.cells.toArray 37)) := (Below.refl _ w).alloc (Nat.le_refl _) _
  have hR0 : Row (w.alloc (.cells x.cells.toArray 37)) w.heap.size 37 x.cells := heap_alloc_new w _
  have HS := sane_any K _ (hLd.below hB0 hLd.size)
  have hX0 : w.heap.size < (w.alloc (.cells x.cells.toArray 37)).heap.size := by simp
  have hxl := LkV.cells_length hx
  have cd := x.cell_d hx.plen
  have hone := x.one
  have hpl := hx.plen
  obtain ⟨XC, hXC⟩ : ∃ XC, x.cells = XC := ⟨_, rfl⟩
  rw [hXC] at hB0 hR0 HS hX0 hxl cd hone ⊢
  obtain ⟨dl, hdl⟩ : ∃ dl, x.data.length = dl := ⟨_, rfl⟩
  rw [hdl] at cd
  have HDL : Hid (x.data.length = dl) := hdl
  have HXC : Hid (x.cells = XC) := hXC
  have HI : Hid ((Tryd.prog.info? 37).map (·.size) = some XC.length) := by show _ = _; rw [hxl]; exact info_link
  have HS := Lib.hid HS
  have HL := Lib.hid hL
  have HX := Lib.hid hx
  have HLd := Lib.hid hLd
  have HB0 := Lib.hid hB0
  have HR0 := Lib.hid hR0
  have HX0 := Lib.hid hX0
  have HCD := Lib.hid (And.intro cd (And.intro hone hxl))
  clear hL hx hLd hB0 hR0 hXC cd hone hxl hdl hX0 hpl
  go_enter Tryd.func6, Tryd.ntmps6
  go_wp2_with fail
  refine HS.out.mono ?_
  rintro e w1 ⟨rfl, hbs⟩
  have hb1 := HB0.out.trans (hbs.mono HB0.out.size)
  have hR1 := HR0.out.below hbs HX0.out
  have hX1 := Nat.lt_of_lt_of_le HX0.out hbs.size
  clear HS HR0
  have z3 : ¬ (300 : Int) < (dl : Int) := by have := HDL.out; omega
  have z4 : (dl : Int) ≤ 300 := by omega
  have H1 := few_any (some ⟨b, o, none⟩) n c L w1 ((HL.out.below hb1).more hb1.size)
  rw [h1] at H1
  have H1 := Lib.hid H1
  have hq34 := hR1.cell HCD.out.1
  go_wp2_with fail
  refine H1.out.mono ?_
  rintro e w2 ⟨rfl, rfl⟩
  have H2 := check_any K (some ⟨b, o, none⟩) n c L w2 ((HL.out.below hb1).more hb1.size) (by have := HL.out.len; have := (Ch.few_le h1).1; omega) hnc hf (HLd.out.below hb1 HLd.out.size)
  rw [Ch.chk_of h4] at H2
  have H2 := Lib.hid H2
  go_wp2_with fail
  refine H2.out.mono ?_
  rintro e w3 ⟨rfl, hbx⟩
  have hb3 := hb1.trans (hbx.mono hb1.size)
  have hR3 := hR1.below hbx hX1
  have hX3 := Nat.lt_of_lt_of_le hX1 hbx.size
  clear hbx
  have okx := HX.out
  have hSL : ∀ W, Below w3.heap.size w3 W → Calls Tryd.prog 18 #[.agg (Ch.gk L k).cells.toArray, .agg XC.toArray] W fun e w' => e = .returned (.bool false) ∧ Below W.heap.size W w' := by
    intro W hW
    have hLW := hb3.trans (hW.mono hb3.size)
    have := samelink_any (Ch.gk L k) x W ((okL.below hLW).more hLW.size) ((okx.below hLW).more hLW.size)
    rw [hs, HXC.out] at this
    exact this
  have cL : ∀ W, Below w3.heap.size w3 W → ∀ (j : Nat) (v : Value), (Ch.gk L k).cells[j]? = some v → W.cell? ((⟨b, o + k * 35, none⟩ : Addr).add j) = some v := by
    intro W hW j v hj
    have hLW := hb3.trans (hW.mono hb3.size)
    rw [Addr.add_flat]
    exact lks_cell (HL.out.below hLW) kL.2 j v hj
  have cX : ∀ W, Below w3.heap.size w3 W → ∀ (j : Nat) (v : Value), XC[j]? = some v → W.cell? ((⟨w.heap.size, 0, none⟩ : Addr).add j) = some v := by
    intro W hW j v hj
    rw [Addr.add_flat, Nat.zero_add]
    exact (hR3.below hW hX3).cell hj
  have HIL : Hid ((Tryd.prog.info? 37).map (·.size) = some (Ch.gk L k).cells.length) := by show _ = _; rw [LkV.cells_length okL]; exact info_link
  obtain ⟨XL, hXL⟩ : ∃ X, (Ch.gk L k).cells = X := ⟨_, rfl⟩
  rw [hXL] at hSL cL HIL
  have HSL := Lib.hid hSL
  have HCL := Lib.hid cL
  have HCX := Lib.hid cX
  have hS0 : Below w3.heap.size w3 w3.drew := (Below.refl _ _).drew
  clear hSL cL cX hXL okL okx
  go_wp2_with fail
  rename_i Kz hKz
  refine wp_region_ord (fun w' => Below w3.heap.size w3 w') [(0, true), (1, true), (2, true), (3, true), (4, true), (5, false)] (by kernel_rfl) (by kernel_rfl) rfl (by kernel_rfl) (fun x _ _ _ _ h => by cases x <;> exact h) hS0 ?_
  refine wpOrd_take rfl _ (by rfl) (by intro w' _; go_simp; try with_reducible rfl) fun KK hKK => ?_
  go_simp
  refine hKK _ ?_
  clear hKK KK
  refine wpOrd_take rfl _ (by rfl) (by intro w' _; go_simp; try with_reducible rfl) fun KK hKK => ?_
  go_simp
  refine hKK _ ?_
  clear hKK KK
  refine wpOrd_take rfl _ (by rfl) (by intro w' _; go_simp; try with_reducible rfl) fun KK hKK => ?_
  go_simp
  refine hKK _ ?_
  clear hKK KK
  refine wpOrd_take rfl _ (by rfl) (fun w' hS => run_load_exec 37 (.tmp 37) rfl ⟨b, o + k * 35, none⟩ (by rfl) XL _ (HCL.out w' hS) Tryd.underlying37 (by rfl) HIL.out) fun KK hKK => ?_
  go_simp
  refine hKK _ ?_
  clear hKK KK
  refine wpOrd_take rfl _ (by rfl) (fun w' hS => run_load_exec 37 (.tmp 5) rfl ⟨w.heap.size, 0, none⟩ (by rfl) XC _ (HCX.out w' hS) Tryd.underlying37 (by rfl) HI.out) fun KK hKK => ?_
  go_simp
  refine hKK _ ?_
  clear hKK KK
  refine wpOrd_force rfl (by rfl) fun KK hKK => ?_
  go_simp
  refine (HSL.out _ hS0).mono ?_
  rintro e w4 ⟨rfl, hb4⟩
  have hS4 : Below w3.heap.size w3 w4 := hS0.trans (hb4.mono hS0.size)
  refine hKK _ _ hS4 ?_
  clear hKK KK
  refine wpOrd_nil ?_
  show Kz _ _
  refine hKz _ _ ?_
  clear hKz
  have hb4 := hb3.trans (hS4.mono hb3.size)
  have hR4 := hR3.below hS4 hX3
  have hX4 := Nat.lt_of_lt_of_le hX3 hS4.size
  obtain ⟨ie, z, hi, hz, hsz, hzs, hby⟩ := link_info
  have hLw : ∀ W, Below w.heap.size w W → ∀ j u, (L.flatMap LkV.cells)[j]? = some u → W.cell? ((⟨b, o, none⟩ : Addr).add j) = some u := by
    intro W hW j u hj
    obtain ⟨b1, o1, e, _, hc⟩ := (HL.out.below hW).rd.2 (by omega)
    injection e with e
    injection e with e1 e2
    subst e1 e2
    rw [Addr.add_flat]
    exact hc j u hj
  have hone2 : ∀ u ∈ L.flatMap LkV.cells, u.oneCell' = true := fun u hu => by
    obtain ⟨y, _, hy⟩ := List.mem_flatMap.1 hu
    exact y.one u hy
  have HLW := Lib.hid (And.intro hLw (And.intro hone2 HL.out.rd.1))
  clear hLw hone2
  go_wp2_with (first
    | (at_builtin; refine wpList_append_grows _ rfl (.tmp 41) (.tmp 42) 22 rfl 37 ie z 35 72 Tryd.underlying22 hi hz hsz hby hzs (by omega) (some ⟨w4.heap.size, 0, none⟩) 0 0 [] (by rfl) (fun h => by cases h) rfl (fun b1 hb1 j u hj => by simp at hj) ⟨b, o, none⟩ n c (L.flatMap LkV.cells) (by rfl) HLW.out.2.2 (HLW.out.1 _ (hb4.alloc hb4.size _)) HLW.out.2.1 (by omega) (by unfold maxLen; omega) (by omega) ?_; intro v5 w5 hown hg5; have hb45 : Below w4.heap.size w4 w5 := (((Below.refl _ w4).alloc (Nat.le_refl _) _).grown hg5 (by simp) (fun k e => by cases e)); have hb5 := hb4.trans (hb45.mono hb4.size); obtain ⟨g, C, cur, rfl, hbg, hO⟩ := lown_of (L := L) (n := n) (fun y hy => ((HL.out.all y hy).below hb5).more hb5.size) HL.out.len h2 (by simpa using hown); have HO := Lib.hid hO; have hX5 := Nat.lt_of_lt_of_le hX4 hb45.size; have hR5 := hR4.below hb45 hX4; have kk3 : k < n := hkn; have kC1 : (k : Int) < (C : Int) := (by have := hO.cap; omega); clear hown hg5 hO)
    | (refine wpList_load_cells rfl 37 (.tmp 5) rfl ⟨w.heap.size, 0, none⟩ (by rfl) XC _ (fun j v hv => by rw [Addr.add_flat, Nat.zero_add]; exact hR5.cell hv) Tryd.underlying37 (by rfl) HI.out ?_)
    | (refine wpList_store_at rfl 37 (.tmp 47) (.tmp 46) rfl g (k * 35) XC (by rfl) (by rfl) 37 cur HO.out.heap (by rw [HCD.out.2.2, HO.out.size]; have := HO.out.cap; omega) HI.out HCD.out.2.1 ?_; intro w6 hg6 hgr6)
    | fail)
  have hb56 : Below w5.heap.size w5 w5 := Below.refl _ _
  have hbg' : w.heap.size ≤ g := Nat.le_trans hb4.size (by omega)
  have hb6 : Below w.heap.size w w6 := hb5.grown hgr6 hb5.size (fun k e => by injection e with e; omega)
  have hxL : ∀ y ∈ L.set k x, y.ok w w.heap.size := fun y hy => by
    rcases List.mem_or_eq_of_mem_set hy with hy | rfl
    · exact HL.out.all y hy
    · exact HX.out
  have hx5 : x.ok w5 w5.heap.size := (HX.out.below hb5).more hb5.size
  obtain ⟨cur', hO6⟩ := HO.out.set (k := k) (x := x) (w' := w6) hkn hx5 (by rw [HXC.out]; exact hg6) (fun y hy => ((hxL y hy).below hb6).more hb6.size)
  have hM6 := hO6.lks
  have hcM := hO6.cap
  have hfM : ∀ y ∈ L.set k x, Ch.fit y := fun y hy => by
    rcases List.mem_or_eq_of_mem_set hy with hy | rfl
    · exact hf y hy
    · exact hfx
  have HM := Lib.hid hM6
  have HFM := Lib.hid hfM
  have H6 := check_any K (some ⟨g, 0, none⟩) n C (L.set k x) w6 hM6 (by omega) hcM hfM (HLd.out.below hb6 HLd.out.size)
  rw [Ch.chk_of h6] at H6
  have H6 := Lib.hid H6
  have hnw : IntKind.i64.wrap ((n : Int) - 1) = (n : Int) - 1 := by simp only [IntKind.wrap, IntKind.bits, IntKind.signed]; simp; omega
  clear hO6 hM6 hfM hxL hx5 hg6 hgr6 HO
  have kn1 : ((k : Int) == (n : Int) - 1) = true := by simp; omega
  have kn2 : (k : Int) = (n : Int) - 1 := by omega
  go_wp2_with fail
  refine H6.out.mono ?_
  rintro e w7 ⟨rfl, hb67⟩
  have hb7 := hb6.trans (hb67.mono hb6.size)
  go_wp2
  go_ret
  exact ⟨rfl, hb7⟩
set_option maxRecDepth 100000 in
set_option maxHeartbeats 4000000 in
theorem ch_clash (K : Sh.Cst) (A : Option Addr) (n c : Nat) (L : List LkV) (at_ : Nat) (x : LkV) (w : World) (hL : Lks w w.heap.size A n L) (hx : x.ok w w.heap.size) (hnc : n ≤ c) (hat : at_ < 256) (hLd : Laid w) (h1 : Ch.few L = true) (h2 : 0 < n) (h3 : x.data.length ≤ 300) (hf : ∀ y ∈ L, Ch.fit y) (h4 : Ch.allB K L = true) (hfx : Ch.fit x) (hs : Ch.sameV (Ch.gk L (at_ % n)) x = false) (h6 : Ch.allB K (L.set (at_ % n) x) = true) (h7 : at_ % n + 1 ≠ n) :
    Calls Tryd.prog 6 #[.slice A n c, .int .u8 at_, .agg x.cells.toArray] w fun e w' => e = .returned (.bool true) ∧ Below w.heap.size w w' := by
  have hl16 := (Ch.few_le h1).1
  have hLl := hL.len
  obtain ⟨k, hkk⟩ : ∃ k, at_ % n = k := ⟨_, rfl⟩
  have hkn : k < n := by rw [← hkk]; exact Nat.mod_lt _ h2
  rw [hkk] at hs h6 h7
  have hwr : IntKind.i64.wrap (at_ : Int) = (at_ : Int) := by simp only [IntKind.wrap, IntKind.bits, IntKind.signed]; simp; omega
  have hrem : Int.tmod (at_ : Int) (n : Int) = (k : Int) := by rw [← hkk]; exact (Int.ofNat_tmod at_ n).symm
  have hwk : IntKind.i64.wrap (k : Int) = (k : Int) := by simp only [IntKind.wrap, IntKind.bits, IntKind.signed]; simp; omega
  have kk1 : (k : Int) < (n : Int) := by omega
  have kk2 : (0 : Int) ≤ (k : Int) := by omega
  have kL := (Ch.gk_mem (L := L) (k := k) (by omega))
  obtain ⟨b, o, rfl, hbw, hcell⟩ := hL.at kL.2
  have okL := hL.all _ kL.1
  clear hkk
  have z1 : ¬ (n : Int) = 0 := by omega
  have z2 : ((n : Int) == 0) = false := by simp; omega
  have hB0 : Below w.heap.size w (w.alloc (.cells x.cells.toArray 37)) := (Below.refl _ w).alloc (Nat.le_refl _) _
  have hR0 : Row (w.alloc (.cells x.cells.toArray 37)) w.heap.size 37 x.cells := heap_alloc_new w _
  have HS := sane_any K _ (hLd.below hB0 hLd.size)
  have hX0 : w.heap.size < (w.alloc (.cells x.cells.toArray 37)).heap.size := by simp
  have hxl := LkV.cells_length hx
  have cd := x.cell_d hx.plen
  have hone := x.one
  have hpl := hx.plen
  obtain ⟨XC, hXC⟩ : ∃ XC, x.cells = XC := ⟨_, rfl⟩
  rw [hXC] at hB0 hR0 HS hX0 hxl cd hone ⊢
  obtain ⟨dl, hdl⟩ : ∃ dl, x.data.length = dl := ⟨_, rfl⟩
  rw [hdl] at cd
  have HDL : Hid (x.data.length = dl) := hdl
  have HXC : Hid (x.cells = XC) := hXC
  have HI : Hid ((Tryd.prog.info? 37).map (·.size) = some XC.length) := by show _ = _; rw [hxl]; exact info_link
  have HS := Lib.hid HS
  have HL := Lib.hid hL
  have HX := Lib.hid hx
  have HLd := Lib.hid hLd
  have HB0 := Lib.hid hB0
  have HR0 := Lib.hid hR0
  have HX0 := Lib.hid hX0
  have HCD := Lib.hid (And.intro cd (And.intro hone hxl))
  clear hL hx hLd hB0 hR0 hXC cd hone hxl hdl hX0 hpl
  go_enter Tryd.func6, Tryd.ntmps6
  go_wp2_with fail
  refine HS.out.mono ?_
  rintro e w1 ⟨rfl, hbs⟩
  have hb1 := HB0.out.trans (hbs.mono HB0.out.size)
  have hR1 := HR0.out.below hbs HX0.out
  have hX1 := Nat.lt_of_lt_of_le HX0.out hbs.size
  clear HS HR0
  have z3 : ¬ (300 : Int) < (dl : Int) := by have := HDL.out; omega
  have z4 : (dl : Int) ≤ 300 := by omega
  have H1 := few_any (some ⟨b, o, none⟩) n c L w1 ((HL.out.below hb1).more hb1.size)
  rw [h1] at H1
  have H1 := Lib.hid H1
  have hq34 := hR1.cell HCD.out.1
  go_wp2_with fail
  refine H1.out.mono ?_
  rintro e w2 ⟨rfl, rfl⟩
  have H2 := check_any K (some ⟨b, o, none⟩) n c L w2 ((HL.out.below hb1).more hb1.size) (by have := HL.out.len; have := (Ch.few_le h1).1; omega) hnc hf (HLd.out.below hb1 HLd.out.size)
  rw [Ch.chk_of h4] at H2
  have H2 := Lib.hid H2
  go_wp2_with fail
  refine H2.out.mono ?_
  rintro e w3 ⟨rfl, hbx⟩
  have hb3 := hb1.trans (hbx.mono hb1.size)
  have hR3 := hR1.below hbx hX1
  have hX3 := Nat.lt_of_lt_of_le hX1 hbx.size
  clear hbx
  have okx := HX.out
  have hSL : ∀ W, Below w3.heap.size w3 W → Calls Tryd.prog 18 #[.agg (Ch.gk L k).cells.toArray, .agg XC.toArray] W fun e w' => e = .returned (.bool false) ∧ Below W.heap.size W w' := by
    intro W hW
    have hLW := hb3.trans (hW.mono hb3.size)
    have := samelink_any (Ch.gk L k) x W ((okL.below hLW).more hLW.size) ((okx.below hLW).more hLW.size)
    rw [hs, HXC.out] at this
    exact this
  have cL : ∀ W, Below w3.heap.size w3 W → ∀ (j : Nat) (v : Value), (Ch.gk L k).cells[j]? = some v → W.cell? ((⟨b, o + k * 35, none⟩ : Addr).add j) = some v := by
    intro W hW j v hj
    have hLW := hb3.trans (hW.mono hb3.size)
    rw [Addr.add_flat]
    exact lks_cell (HL.out.below hLW) kL.2 j v hj
  have cX : ∀ W, Below w3.heap.size w3 W → ∀ (j : Nat) (v : Value), XC[j]? = some v → W.cell? ((⟨w.heap.size, 0, none⟩ : Addr).add j) = some v := by
    intro W hW j v hj
    rw [Addr.add_flat, Nat.zero_add]
    exact (hR3.below hW hX3).cell hj
  have HIL : Hid ((Tryd.prog.info? 37).map (·.size) = some (Ch.gk L k).cells.length) := by show _ = _; rw [LkV.cells_length okL]; exact info_link
  obtain ⟨XL, hXL⟩ : ∃ X, (Ch.gk L k).cells = X := ⟨_, rfl⟩
  rw [hXL] at hSL cL HIL
  have HSL := Lib.hid hSL
  have HCL := Lib.hid cL
  have HCX := Lib.hid cX
  have hS0 : Below w3.heap.size w3 w3.drew := (Below.refl _ _).drew
  clear hSL cL cX hXL okL okx
  go_wp2_with fail
  rename_i Kz hKz
  refine wp_region_ord (fun w' => Below w3.heap.size w3 w') [(0, true), (1, true), (2, true), (3, true), (4, true), (5, false)] (by kernel_rfl) (by kernel_rfl) rfl (by kernel_rfl) (fun x _ _ _ _ h => by cases x <;> exact h) hS0 ?_
  refine wpOrd_take rfl _ (by rfl) (by intro w' _; go_simp; try with_reducible rfl) fun KK hKK => ?_
  go_simp
  refine hKK _ ?_
  clear hKK KK
  refine wpOrd_take rfl _ (by rfl) (by intro w' _; go_simp; try with_reducible rfl) fun KK hKK => ?_
  go_simp
  refine hKK _ ?_
  clear hKK KK
  refine wpOrd_take rfl _ (by rfl) (by intro w' _; go_simp; try with_reducible rfl) fun KK hKK => ?_
  go_simp
  refine hKK _ ?_
  clear hKK KK
  refine wpOrd_take rfl _ (by rfl) (fun w' hS => run_load_exec 37 (.tmp 37) rfl ⟨b, o + k * 35, none⟩ (by rfl) XL _ (HCL.out w' hS) Tryd.underlying37 (by rfl) HIL.out) fun KK hKK => ?_
  go_simp
  refine hKK _ ?_
  clear hKK KK
  refine wpOrd_take rfl _ (by rfl) (fun w' hS => run_load_exec 37 (.tmp 5) rfl ⟨w.heap.size, 0, none⟩ (by rfl) XC _ (HCX.out w' hS) Tryd.underlying37 (by rfl) HI.out) fun KK hKK => ?_
  go_simp
  refine hKK _ ?_
  clear hKK KK
  refine wpOrd_force rfl (by rfl) fun KK hKK => ?_
  go_simp
  refine (HSL.out _ hS0).mono ?_
  rintro e w4 ⟨rfl, hb4⟩
  have hS4 : Below w3.heap.size w3 w4 := hS0.trans (hb4.mono hS0.size)
  refine hKK _ _ hS4 ?_
  clear hKK KK
  refine wpOrd_nil ?_
  show Kz _ _
  refine hKz _ _ ?_
  clear hKz
  have hb4 := hb3.trans (hS4.mono hb3.size)
  have hR4 := hR3.below hS4 hX3
  have hX4 := Nat.lt_of_lt_of_le hX3 hS4.size
  obtain ⟨ie, z, hi, hz, hsz, hzs, hby⟩ := link_info
  have hLw : ∀ W, Below w.heap.size w W → ∀ j u, (L.flatMap LkV.cells)[j]? = some u → W.cell? ((⟨b, o, none⟩ : Addr).add j) = some u := by
    intro W hW j u hj
    obtain ⟨b1, o1, e, _, hc⟩ := (HL.out.below hW).rd.2 (by omega)
    injection e with e
    injection e with e1 e2
    subst e1 e2
    rw [Addr.add_flat]
    exact hc j u hj
  have hone2 : ∀ u ∈ L.flatMap LkV.cells, u.oneCell' = true := fun u hu => by
    obtain ⟨y, _, hy⟩ := List.mem_flatMap.1 hu
    exact y.one u hy
  have HLW := Lib.hid (And.intro hLw (And.intro hone2 HL.out.rd.1))
  clear hLw hone2
  go_wp2_with (first
    | (at_builtin; refine wpList_append_grows _ rfl (.tmp 41) (.tmp 42) 22 rfl 37 ie z 35 72 Tryd.underlying22 hi hz hsz hby hzs (by omega) (some ⟨w4.heap.size, 0, none⟩) 0 0 [] (by rfl) (fun h => by cases h) rfl (fun b1 hb1 j u hj => by simp at hj) ⟨b, o, none⟩ n c (L.flatMap LkV.cells) (by rfl) HLW.out.2.2 (HLW.out.1 _ (hb4.alloc hb4.size _)) HLW.out.2.1 (by omega) (by unfold maxLen; omega) (by omega) ?_; intro v5 w5 hown hg5; have hb45 : Below w4.heap.size w4 w5 := (((Below.refl _ w4).alloc (Nat.le_refl _) _).grown hg5 (by simp) (fun k e => by cases e)); have hb5 := hb4.trans (hb45.mono hb4.size); obtain ⟨g, C, cur, rfl, hbg, hO⟩ := lown_of (L := L) (n := n) (fun y hy => ((HL.out.all y hy).below hb5).more hb5.size) HL.out.len h2 (by simpa using hown); have HO := Lib.hid hO; have hX5 := Nat.lt_of_lt_of_le hX4 hb45.size; have hR5 := hR4.below hb45 hX4; have kk3 : k < n := hkn; have kC1 : (k : Int) < (C : Int) := (by have := hO.cap; omega); clear hown hg5 hO)
    | (refine wpList_load_cells rfl 37 (.tmp 5) rfl ⟨w.heap.size, 0, none⟩ (by rfl) XC _ (fun j v hv => by rw [Addr.add_flat, Nat.zero_add]; exact hR5.cell hv) Tryd.underlying37 (by rfl) HI.out ?_)
    | (refine wpList_store_at rfl 37 (.tmp 47) (.tmp 46) rfl g (k * 35) XC (by rfl) (by rfl) 37 cur HO.out.heap (by rw [HCD.out.2.2, HO.out.size]; have := HO.out.cap; omega) HI.out HCD.out.2.1 ?_; intro w6 hg6 hgr6)
    | fail)
  have hb56 : Below w5.heap.size w5 w5 := Below.refl _ _
  have hbg' : w.heap.size ≤ g := Nat.le_trans hb4.size (by omega)
  have hb6 : Below w.heap.size w w6 := hb5.grown hgr6 hb5.size (fun k e => by injection e with e; omega)
  have hxL : ∀ y ∈ L.set k x, y.ok w w.heap.size := fun y hy => by
    rcases List.mem_or_eq_of_mem_set hy with hy | rfl
    · exact HL.out.all y hy
    · exact HX.out
  have hx5 : x.ok w5 w5.heap.size := (HX.out.below hb5).more hb5.size
  obtain ⟨cur', hO6⟩ := HO.out.set (k := k) (x := x) (w' := w6) hkn hx5 (by rw [HXC.out]; exact hg6) (fun y hy => ((hxL y hy).below hb6).more hb6.size)
  have hM6 := hO6.lks
  have hcM := hO6.cap
  have hfM : ∀ y ∈ L.set k x, Ch.fit y := fun y hy => by
    rcases List.mem_or_eq_of_mem_set hy with hy | rfl
    · exact hf y hy
    · exact hfx
  have HM := Lib.hid hM6
  have HFM := Lib.hid hfM
  have H6 := check_any K (some ⟨g, 0, none⟩) n C (L.set k x) w6 hM6 (by omega) hcM hfM (HLd.out.below hb6 HLd.out.size)
  rw [Ch.chk_of h6] at H6
  have H6 := Lib.hid H6
  have hnw : IntKind.i64.wrap ((n : Int) - 1) = (n : Int) - 1 := by simp only [IntKind.wrap, IntKind.bits, IntKind.signed]; simp; omega
  clear hO6 hM6 hfM hxL hx5 hg6 hgr6 HO
  have kn2 : ¬ (k : Int) = (n : Int) - 1 := by omega
  have kn1 : ((k : Int) == (n : Int) - 1) = false := by simpa using kn2
  go_wp2_with fail
  refine H6.out.mono ?_
  rintro e w7 ⟨rfl, hb67⟩
  have hb7 := hb6.trans (hb67.mono hb6.size)
  have hcl : Ch.clashB K L (L.set k x) k = true := Ch.changed (by have := HL.out.len; omega) h4 h6 hs (lks_byts HL.out) ⟨HX.out.pbyt, HX.out.dbyt⟩
  have hM7 := (HM.out.below hb67).more hb67.size
  have kw : IntKind.i64.wrap ((k : Int) + 1) = (k : Int) + 1 := by simp only [IntKind.wrap, IntKind.bits, IntKind.signed]; simp; omega
  have r1 := fun w => run_to (w := w) (some ⟨b, o, none⟩) n c (k + 1) (by omega) (fun h => by cases h)
  have r2 := fun w => run_to (w := w) (some ⟨g, 0, none⟩) n C (k + 1) (by omega) (fun h => by cases h)
  rw [show (((k + 1 : Nat) : Int)) = (k : Int) + 1 from by omega] at r1 r2
  have hC : ∀ W, Below w7.heap.size w7 W → Calls Tryd.prog 17 #[.slice (some ⟨b, o, none⟩) (k + 1) c, .slice (some ⟨g, 0, none⟩) (k + 1) C] W fun e w' => e = .returned (.bool true) ∧ Below W.heap.size W w' := by
    intro W hW
    have hLW := hb7.trans (hW.mono hb7.size)
    have h := clash_any K (some ⟨b, o, none⟩) (some ⟨g, 0, none⟩) k c C (L.take (k + 1)) ((L.set k x).take (k + 1)) W (((HL.out.below hLW).more hLW.size).take (by omega)) (((hM7.below hW).more hW.size).take (by omega)) (by omega) (by omega) (by omega) (fun y hy => hf y (List.mem_of_mem_take hy)) (fun y hy => HFM.out y (List.mem_of_mem_take hy)) (HLd.out.below hLW HLd.out.size)
    rw [Ch.gk_take (Nat.lt_succ_self k), Ch.gk_take (Nat.lt_succ_self k)] at h
    unfold Ch.clashB at hcl
    rw [hcl] at h
    exact h
  have HC := Lib.hid hC
  have hS70 : Below w7.heap.size w7 w7.drew := (Below.refl _ _).drew
  clear hC hM7 hcl
  go_wp2_with fail
  rename_i Kz hKz
  refine wp_region_ord (fun w' => Below w7.heap.size w7 w') [(0, true), (1, true), (2, true), (3, true), (4, true), (5, true), (6, true), (7, true), (8, false), (9, true)] (by kernel_rfl) (by kernel_rfl) rfl (by kernel_rfl) (fun x _ _ _ _ h => by cases x <;> exact h) hS70 ?_
  refine wpOrd_take rfl _ (by rfl) (by intro w' _; go_simp; try with_reducible rfl) fun KK hKK => ?_
  go_simp
  refine hKK _ ?_
  clear hKK KK
  refine wpOrd_take rfl _ (by rfl) (by intro w' _; go_simp; try with_reducible rfl) fun KK hKK => ?_
  go_simp
  refine hKK _ ?_
  clear hKK KK
  refine wpOrd_take rfl _ (by rfl) (by intro w' _; go_simp; try with_reducible rfl) fun KK hKK => ?_
  go_simp
  refine hKK _ ?_
  clear hKK KK
  refine wpOrd_take rfl _ (by rfl) (by intro w' hS; have h1 := r1 w'; go_simp; try with_reducible rfl) fun KK hKK => ?_
  go_simp
  refine hKK _ ?_
  clear hKK KK
  refine wpOrd_take rfl _ (by rfl) (by intro w' _; go_simp; try with_reducible rfl) fun KK hKK => ?_
  go_simp
  refine hKK _ ?_
  clear hKK KK
  refine wpOrd_take rfl _ (by rfl) (by intro w' _; go_simp; try with_reducible rfl) fun KK hKK => ?_
  go_simp
  refine hKK _ ?_
  clear hKK KK
  refine wpOrd_take rfl _ (by rfl) (by intro w' _; go_simp; try with_reducible rfl) fun KK hKK => ?_
  go_simp
  refine hKK _ ?_
  clear hKK KK
  refine wpOrd_take rfl _ (by rfl) (by intro w' hS; have h1 := r2 w'; go_simp; try with_reducible rfl) fun KK hKK => ?_
  go_simp
  refine hKK _ ?_
  clear hKK KK
  refine wpOrd_force rfl (by rfl) fun KK hKK => ?_
  go_simp
  refine (HC.out _ hS70).mono ?_
  rintro e w8 ⟨rfl, hb8⟩
  have hS8 : Below w7.heap.size w7 w8 := hS70.trans (hb8.mono hS70.size)
  refine hKK _ _ hS8 ?_
  clear hKK KK
  refine wpOrd_take rfl _ (by rfl) (by intro w' _; go_simp; try with_reducible rfl) fun KK hKK => ?_
  go_simp
  refine hKK _ ?_
  clear hKK KK
  refine wpOrd_nil ?_
  show Kz _ _
  refine hKz _ _ ?_
  clear hKz
  go_wp2
  go_ret
  exact ⟨rfl, hb7.trans (hS8.mono hb7.size)⟩
theorem changed_walk (K : Sh.Cst) (A : Option Addr) (n c : Nat) (L : List LkV) (a1 : Int) (x : LkV) (w : World) (hL : Lks w w.heap.size A n L) (hx : x.ok w w.heap.size) (hnc : n ≤ c) (ha : (Lit.int .u8 a1).wf = true)
    (hw : ∀ x ∈ L, (-9223372036854775808 ≤ x.node ∧ x.node < 9223372036854775808) ∧ (-9223372036854775808 ≤ x.no ∧ x.no < 9223372036854775808)) (hwx : (-9223372036854775808 ≤ x.node ∧ x.node < 9223372036854775808) ∧ (-9223372036854775808 ≤ x.no ∧ x.no < 9223372036854775808)) (hLd : Laid w) :
    Calls Tryd.prog 6 #[.slice A n c, .int .u8 a1, .agg x.cells.toArray] w fun e w' => e = .returned (.bool true) ∧ Below w.heap.size w w' := by
  obtain ⟨ha0, ha1⟩ := wf_u8 ha
  obtain ⟨at_, rfl⟩ : ∃ at_ : Nat, a1 = (at_ : Int) := ⟨a1.toNat, by omega⟩
  have hat : at_ < 256 := by omega
  cases h1 : Ch.few L with
  | false => exact ch_few K A n c L at_ x w hL hx hnc hat hLd h1
  | true =>
    have hf : ∀ y ∈ L, Ch.fit y := fun y hy => ⟨(hw y hy).1, (hw y hy).2, by have := (Ch.few_le h1).2 y hy; omega⟩
    rcases Nat.eq_zero_or_pos n with h2 | h2
    · exact ch_nil K A n c L at_ x w hL hx hnc hat hLd h1 h2
    · rcases Nat.lt_or_ge 300 x.data.length with h3 | h3
      · exact ch_long K A n c L at_ x w hL hx hnc hat hLd h1 h2 h3
      · have hfx : Ch.fit x := ⟨hwx.1, hwx.2, by omega⟩
        cases h4 : Ch.allB K L with
        | false => exact ch_chk K A n c L at_ x w hL hx hnc hat hLd h1 h2 h3 hf h4
        | true =>
          cases hs : Ch.sameV (Ch.gk L (at_ % n)) x with
          | true => exact ch_same K A n c L at_ x w hL hx hnc hat hLd h1 h2 h3 hf h4 hs
          | false =>
            cases h6 : Ch.allB K (L.set (at_ % n) x) with
            | false => exact ch_bad K A n c L at_ x w hL hx hnc hat hLd h1 h2 h3 hf h4 hfx hs h6
            | true =>
              by_cases h7 : at_ % n + 1 = n
              · exact ch_last K A n c L at_ x w hL hx hnc hat hLd h1 h2 h3 hf h4 hfx hs h6 h7
              · exact ch_clash K A n c L at_ x w hL hx hnc hat hLd h1 h2 h3 hf h4 hfx hs h6 h7
end Go.Proofs.YtpjggokaolnbcaaDoor
