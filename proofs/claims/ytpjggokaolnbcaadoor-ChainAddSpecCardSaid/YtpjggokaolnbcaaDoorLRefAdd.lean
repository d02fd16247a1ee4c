/- Add and the reference's Add: where they refuse; where the reference adds (written by gen_lrefadd.py). -/
import Derived.Test.YtpjggokaolnbcaaDoorLRefCheck
import Derived.Test.YtpjggokaolnbcaaDoorLEqualWalk
namespace Go.Proofs.YtpjggokaolnbcaaDoor
open Go.RowKit
attribute [local go_sem] Oper.semAt_some
set_option linter.unusedVariables false
set_option maxRecDepth 100000 in
set_option maxHeartbeats 4000000 in
theorem add_chk (K : Sh.Cst) (A : Option Addr) (n c : Nat) (L : List LkV) (node : Int) (B : Option Addr) (m cd : Nat) (w : World) (hL : Lks w w.heap.size A n L) (hn : n ≤ 1000) (hnc : n ≤ c) (hA : A = none → c = 0) (hf : ∀ x ∈ L, Ch.fit x) (hLd : Laid w) (h1 : Ch.allB K L = false) :
    Calls Tryd.prog 10 #[.slice A n c, .int .i64 node, .slice B m cd] w fun e w' => e = .returned (.tuple #[.slice none 0 0, .int .i64 80]) ∧ Below w.heap.size w w' := by
  have H1 := check_any K A n c L w hL hn hnc hf hLd
  rw [chk_not h1] at H1
  have H1 := Lib.hid H1
  have HL := Lib.hid hL
  clear hL
  go_enter Tryd.func10, Tryd.ntmps10
  go_wp2_with fail
  refine H1.out.mono ?_
  rintro e w1 ⟨rfl, hb1⟩
  go_wp2
  go_ret2
  exact ⟨rfl, hb1⟩
set_option maxRecDepth 100000 in
set_option maxHeartbeats 4000000 in
theorem add_neg (K : Sh.Cst) (A : Option Addr) (n c : Nat) (L : List LkV) (node : Int) (B : Option Addr) (m cd : Nat) (w : World) (hL : Lks w w.heap.size A n L) (hn : n ≤ 1000) (hnc : n ≤ c) (hA : A = none → c = 0) (hf : ∀ x ∈ L, Ch.fit x) (hLd : Laid w) (h1 : Ch.allB K L = true) (h2 : node < 0) :
    Calls Tryd.prog 10 #[.slice A n c, .int .i64 node, .slice B m cd] w fun e w' => e = .returned (.tuple #[.slice none 0 0, .int .i64 1]) ∧ Below w.heap.size w w' := by
  have g1 : node < 0 := h2
  have H1 := check_any K A n c L w hL hn hnc hf hLd
  rw [Ch.chk_of h1] at H1
  have H1 := Lib.hid H1
  have HL := Lib.hid hL
  clear hL
  go_enter Tryd.func10, Tryd.ntmps10
  go_wp2_with fail
  refine H1.out.mono ?_
  rintro e w1 ⟨rfl, hb1⟩
  go_wp2
  go_ret2
  exact ⟨rfl, hb1⟩
set_option maxRecDepth 100000 in
set_option maxHeartbeats 4000000 in
theorem add_big0 (K : Sh.Cst) (A : Option Addr) (n c : Nat) (L : List LkV) (node : Int) (B : Option Addr) (m cd : Nat) (w : World) (hL : Lks w w.heap.size A n L) (hn : n ≤ 1000) (hnc : n ≤ c) (hA : A = none → c = 0) (hf : ∀ x ∈ L, Ch.fit x) (hLd : Laid w) (h1 : Ch.allB K L = true) (h2 : 0 ≤ node) (h3 : node < 24) (h4 : n = 0) (h5 : 65536 < m) :
    Calls Tryd.prog 10 #[.slice A n c, .int .i64 node, .slice B m cd] w fun e w' => e = .returned (.tuple #[.slice none 0 0, .int .i64 1]) ∧ Below w.heap.size w w' := by
  subst h4
  have g0 : ¬ node < 0 := by omega
  have g1 : ¬ (24 : Int) ≤ node := by omega
  have g6 : ¬ (0 : Int) < ((0 : Nat) : Int) := by simp
  have g7 : (65536 : Int) < (m : Int) := by omega
  have H1 := check_any K A 0 c L w hL hn hnc hf hLd
  rw [Ch.chk_of h1] at H1
  have H1 := Lib.hid H1
  have HL := Lib.hid hL
  clear hL
  go_enter Tryd.func10, Tryd.ntmps10
  go_wp2_with fail
  refine H1.out.mono ?_
  rintro e w1 ⟨rfl, hb1⟩
  go_wp2
  go_ret2
  exact ⟨rfl, hb1⟩
set_option maxRecDepth 100000 in
set_option maxHeartbeats 4000000 in
theorem add_big1 (K : Sh.Cst) (A : Option Addr) (n c : Nat) (L : List LkV) (node : Int) (B : Option Addr) (m cd : Nat) (w : World) (hL : Lks w w.heap.size A n L) (hn : n ≤ 1000) (hnc : n ≤ c) (hA : A = none → c = 0) (hf : ∀ x ∈ L, Ch.fit x) (hLd : Laid w) (h1 : Ch.allB K L = true) (h2 : 0 ≤ node) (h3 : node < 24) (h4 : 0 < n) (h5 : (Ch.gk L 0).node = node) (h6 : 65536 < m) :
    Calls Tryd.prog 10 #[.slice A n c, .int .i64 node, .slice B m cd] w fun e w' => e = .returned (.tuple #[.slice none 0 0, .int .i64 1]) ∧ Below w.heap.size w w' := by
  obtain ⟨b, o, rfl, hbw, hcell⟩ := lks_head_cell hL h4
  have hc0 : w.cell? ⟨b, o, none⟩ = some (.int .i64 node) := by rw [← h5]; exact hcell 0 _ rfl
  have g0 : ¬ node < 0 := by omega
  have g1 : ¬ (24 : Int) ≤ node := by omega
  have g6 : (0 : Int) < (n : Int) := by omega
  have g7 : (65536 : Int) < (m : Int) := by omega
  clear hcell h5
  have H1 := check_any K (some ⟨b, o, none⟩) n c L w hL hn hnc hf hLd
  rw [Ch.chk_of h1] at H1
  have H1 := Lib.hid H1
  have HL := Lib.hid hL
  clear hL
  go_enter Tryd.func10, Tryd.ntmps10
  go_wp2_with fail
  refine H1.out.mono ?_
  rintro e w1 ⟨rfl, hb1⟩
  have hc1 : w1.cell? ⟨b, o, none⟩ = some (.int .i64 node) := (hb1.cell (p := ⟨b, o, none⟩) hbw).trans hc0
  go_wp2
  go_ret2
  exact ⟨rfl, hb1⟩
set_option maxRecDepth 100000 in
set_option maxHeartbeats 4000000 in
theorem radd_chk (K : Sh.Cst) (A : Option Addr) (n c : Nat) (L : List LkV) (node : Int) (B : Option Addr) (m cd : Nat) (w : World) (hL : Lks w w.heap.size A n L) (hn : n ≤ 1000) (hnc : n ≤ c) (hA : A = none → c = 0) (hf : ∀ x ∈ L, Ch.fit x) (hLd : Laid w) (h1 : Ch.allB K L = false) :
    Calls Tryd.prog 11 #[.slice A n c, .int .i64 node, .slice B m cd] w fun e w' => e = .returned (.tuple #[.slice none 0 0, .int .i64 80]) ∧ Below w.heap.size w w' := by
  have H1 := rcheck_any K A n c L w hL hn hnc hA hf
  rw [chk_not h1] at H1
  have H1 := Lib.hid H1
  have HL := Lib.hid hL
  clear hL
  go_enter Tryd.func11, Tryd.ntmps11
  go_wp2_with fail
  refine H1.out.mono ?_
  rintro e w1 ⟨rfl, hb1⟩
  go_wp2
  go_ret2
  exact ⟨rfl, hb1⟩
set_option maxRecDepth 100000 in
set_option maxHeartbeats 4000000 in
theorem radd_neg (K : Sh.Cst) (A : Option Addr) (n c : Nat) (L : List LkV) (node : Int) (B : Option Addr) (m cd : Nat) (w : World) (hL : Lks w w.heap.size A n L) (hn : n ≤ 1000) (hnc : n ≤ c) (hA : A = none → c = 0) (hf : ∀ x ∈ L, Ch.fit x) (hLd : Laid w) (h1 : Ch.allB K L = true) (h2 : node < 0) :
    Calls Tryd.prog 11 #[.slice A n c, .int .i64 node, .slice B m cd] w fun e w' => e = .returned (.tuple #[.slice none 0 0, .int .i64 1]) ∧ Below w.heap.size w w' := by
  have g1 : node < 0 := h2
  have H1 := rcheck_any K A n c L w hL hn hnc hA hf
  rw [Ch.chk_of h1] at H1
  have H1 := Lib.hid H1
  have HL := Lib.hid hL
  clear hL
  go_enter Tryd.func11, Tryd.ntmps11
  go_wp2_with fail
  refine H1.out.mono ?_
  rintro e w1 ⟨rfl, hb1⟩
  go_wp2
  go_ret2
  exact ⟨rfl, hb1⟩
set_option maxRecDepth 100000 in
set_option maxHeartbeats 4000000 in
theorem radd_wide2 (K : Sh.Cst) (A : Option Addr) (n c : Nat) (L : List LkV) (node : Int) (B : Option Addr) (m cd : Nat) (w : World) (hL : Lks w w.heap.size A n L) (hn : n ≤ 1000) (hnc : n ≤ c) (hA : A = none → c = 0) (hf : ∀ x ∈ L, Ch.fit x) (hLd : Laid w) (h1 : Ch.allB K L = true) (h2 : 24 ≤ node) :
    Calls Tryd.prog 11 #[.slice A n c, .int .i64 node, .slice B m cd] w fun e w' => e = .returned (.tuple #[.slice none 0 0, .int .i64 1]) ∧ Below w.heap.size w w' := by
  have g0 : ¬ node < 0 := by omega
  have g1 : 0 ≤ node := by omega
  have H1 := rcheck_any K A n c L w hL hn hnc hA hf
  rw [Ch.chk_of h1] at H1
  have H1 := Lib.hid H1
  have HL := Lib.hid hL
  clear hL
  go_enter Tryd.func11, Tryd.ntmps11
  go_wp2_with fail
  refine H1.out.mono ?_
  rintro e w1 ⟨rfl, hb1⟩
  go_wp2
  go_ret2
  exact ⟨rfl, hb1⟩
set_option maxRecDepth 100000 in
set_option maxHeartbeats 4000000 in
theorem radd_other2 (K : Sh.Cst) (A : Option Addr) (n c : Nat) (L : List LkV) (node : Int) (B : Option Addr) (m cd : Nat) (w : World) (hL : Lks w w.heap.size A n L) (hn : n ≤ 1000) (hnc : n ≤ c) (hA : A = none → c = 0) (hf : ∀ x ∈ L, Ch.fit x) (hLd : Laid w) (h1 : Ch.allB K L = true) (h2 : 0 ≤ node) (h3 : node < 24) (h4 : 0 < n) (h5 : (Ch.gk L 0).node ≠ node) :
    Calls Tryd.prog 11 #[.slice A n c, .int .i64 node, .slice B m cd] w fun e w' => e = .returned (.tuple #[.slice none 0 0, .int .i64 1]) ∧ Below w.heap.size w w' := by
  obtain ⟨b, o, rfl, hbw, hcell⟩ := lks_head_cell hL h4
  obtain ⟨N, hN⟩ : ∃ N, (Ch.gk L 0).node = N := ⟨_, rfl⟩
  have hc0 : w.cell? ⟨b, o, none⟩ = some (.int .i64 N) := by rw [← hN]; exact hcell 0 _ rfl
  rw [hN] at h5
  have g0 : ¬ node < 0 := by omega
  have g1 : ¬ (24 : Int) ≤ node := by omega
  have g6 : (0 : Int) < (n : Int) := by omega
  have g7 : ¬ N = node := h5
  clear hcell
  have H1 := rcheck_any K (some ⟨b, o, none⟩) n c L w hL hn hnc hA hf
  rw [Ch.chk_of h1] at H1
  have H1 := Lib.hid H1
  have HL := Lib.hid hL
  clear hL
  go_enter Tryd.func11, Tryd.ntmps11
  go_wp2_with fail
  refine H1.out.mono ?_
  rintro e w1 ⟨rfl, hb1⟩
  have hc1 : w1.cell? ⟨b, o, none⟩ = some (.int .i64 N) := (hb1.cell (p := ⟨b, o, none⟩) hbw).trans hc0
  go_wp2
  go_ret2
  exact ⟨rfl, hb1⟩
set_option maxRecDepth 100000 in
set_option maxHeartbeats 4000000 in
theorem radd_big0 (K : Sh.Cst) (A : Option Addr) (n c : Nat) (L : List LkV) (node : Int) (B : Option Addr) (m cd : Nat) (w : World) (hL : Lks w w.heap.size A n L) (hn : n ≤ 1000) (hnc : n ≤ c) (hA : A = none → c = 0) (hf : ∀ x ∈ L, Ch.fit x) (hLd : Laid w) (h1 : Ch.allB K L = true) (h2 : 0 ≤ node) (h3 : node < 24) (h4 : n = 0) (h5 : 65536 < m) :
    Calls Tryd.prog 11 #[.slice A n c, .int .i64 node, .slice B m cd] w fun e w' => e = .returned (.tuple #[.slice none 0 0, .int .i64 1]) ∧ Below w.heap.size w w' := by
  subst h4
  have g0 : ¬ node < 0 := by omega
  have g1 : ¬ (24 : Int) ≤ node := by omega
  have g6 : ¬ (0 : Int) < ((0 : Nat) : Int) := by simp
  have g7 : (65536 : Int) < (m : Int) := by omega
  have H1 := rcheck_any K A 0 c L w hL hn hnc hA hf
  rw [Ch.chk_of h1] at H1
  have H1 := Lib.hid H1
  have HL := Lib.hid hL
  clear hL
  go_enter Tryd.func11, Tryd.ntmps11
  go_wp2_with fail
  refine H1.out.mono ?_
  rintro e w1 ⟨rfl, hb1⟩
  go_wp2
  go_ret2
  exact ⟨rfl, hb1⟩
set_option maxRecDepth 100000 in
set_option maxHeartbeats 4000000 in
theorem radd_big1 (K : Sh.Cst) (A : Option Addr) (n c : Nat) (L : List LkV) (node : Int) (B : Option Addr) (m cd : Nat) (w : World) (hL : Lks w w.heap.size A n L) (hn : n ≤ 1000) (hnc : n ≤ c) (hA : A = none → c = 0) (hf : ∀ x ∈ L, Ch.fit x) (hLd : Laid w) (h1 : Ch.allB K L = true) (h2 : 0 ≤ node) (h3 : node < 24) (h4 : 0 < n) (h5 : (Ch.gk L 0).node = node) (h6 : 65536 < m) :
    Calls Tryd.prog 11 #[.slice A n c, .int .i64 node, .slice B m cd] w fun e w' => e = .returned (.tuple #[.slice none 0 0, .int .i64 1]) ∧ Below w.heap.size w w' := by
  obtain ⟨b, o, rfl, hbw, hcell⟩ := lks_head_cell hL h4
  have hc0 : w.cell? ⟨b, o, none⟩ = some (.int .i64 node) := by rw [← h5]; exact hcell 0 _ rfl
  have g0 : ¬ node < 0 := by omega
  have g1 : ¬ (24 : Int) ≤ node := by omega
  have g6 : (0 : Int) < (n : Int) := by omega
  have g7 : (65536 : Int) < (m : Int) := by omega
  clear hcell h5
  have H1 := rcheck_any K (some ⟨b, o, none⟩) n c L w hL hn hnc hA hf
  rw [Ch.chk_of h1] at H1
  have H1 := Lib.hid H1
  have HL := Lib.hid hL
  clear hL
  go_enter Tryd.func11, Tryd.ntmps11
  go_wp2_with fail
  refine H1.out.mono ?_
  rintro e w1 ⟨rfl, hb1⟩
  have hc1 : w1.cell? ⟨b, o, none⟩ = some (.int .i64 node) := (hb1.cell (p := ⟨b, o, none⟩) hbw).trans hc0
  go_wp2
  go_ret2
  exact ⟨rfl, hb1⟩
set_option maxRecDepth 100000 in
set_option maxHeartbeats 4000000 in
theorem radd_ok0 (K : Sh.Cst) (A : Option Addr) (n c : Nat) (L : List LkV) (node : Int) (B : Option Addr) (m cd : Nat) (l : List Int) (w : World) (hL : Lks w w.heap.size A n L) (hn : n ≤ 1000) (hnc : n ≤ c) (hA : A = none → c = 0) (hf : ∀ x ∈ L, Ch.fit x)
    (h1 : Ch.allB K L = true) (hn0 : 0 ≤ node) (hn1 : node < 24) (hnode : 0 < n → (Ch.gk L 0).node = node) (hr : Rd w w.heap.size 1 B m (l.map (Value.int .u8))) (hbl : ∀ b ∈ l, 0 ≤ b ∧ b < 256) (hlm : l.length = m) (hm : m ≤ 2000) (hmc : m ≤ cd) (hcd : cd ≤ maxLen) (h0 : n = 0) :
    Calls Tryd.prog 11 #[.slice A n c, .int .i64 node, .slice B m cd] w fun e w' => ∃ G C, e = .returned (.tuple #[.slice G (n + 1) C, .int .i64 0]) ∧ n + 1 ≤ C ∧ C ≤ maxLen ∧ Lks w' w'.heap.size G (n + 1) (L ++ [⟨node, n, Ch.head K L, l, B, cd⟩]) ∧ Below w.heap.size w w' := by
  subst h0
  have hhl := head_len K L
  have hhb : ∀ b ∈ Ch.head K L, 0 ≤ b ∧ b < 256 := head_byt K L
  have HH : Hid (∀ W, Below w.heap.size w W → Calls Tryd.prog 22 #[.slice A 0 c] W fun e w' => e = .returned (.agg ((Ch.head K L).map (Value.int .u8)).toArray) ∧ Below W.heap.size W w') :=
    fun W hb => rhead_any K A 0 c L W ((hL.below hb).more hb.size) (by omega) (fun x hx => hf x (List.mem_of_getLast? hx))
  obtain ⟨U, hU⟩ : ∃ U, Ch.head K L = U := ⟨_, rfl⟩
  rw [hU] at HH hhl hhb ⊢
  have HU := Lib.hid (And.intro hhl hhb)
  have g0 : ¬ node < 0 := by omega
  have g1 : ¬ (24 : Int) ≤ node := by omega
  have g3 : ¬ (65536 : Int) < (m : Int) := by omega
  have g5 : (m : Int) ≤ 65536 := by omega
  have g4 : ((0 : Nat) : Int) ≠ 1024 := by omega
  have g8 : (((0 : Nat) : Int) == 1024) = false := beq_eq_false_iff_ne.2 g4
  obtain ⟨ie, z, hi, hz, hsz, hzs, hby⟩ := link_info
  have HR := Lib.hid hr
  have HBL := Lib.hid (And.intro hbl hlm)
  clear hhl hhb hU hr hbl hlm
  have g6 : ¬ (0 : Int) < ((0 : Nat) : Int) := by simp
  have H1 := rcheck_any K A 0 c L w hL hn hnc hA hf
  rw [Ch.chk_of h1] at H1
  have H1 := Lib.hid H1
  have HL := Lib.hid hL
  clear hL
  go_enter Tryd.func11, Tryd.ntmps11
  go_wp2_with fail
  refine H1.out.mono ?_
  rintro e w1 ⟨rfl, hb1⟩
  have hbE : Below w.heap.size w (w1.alloc (.cells #[] 37)) := hb1.alloc hb1.size _
  have hRL := (HL.out.rd.below hbE)
  have hone2 : ∀ u ∈ L.flatMap LkV.cells, u.oneCell' = true := fun u hu => by
    obtain ⟨y, _, hy⟩ := List.mem_flatMap.1 hu
    exact y.one u hy
  have HO := Lib.hid (And.intro hRL hone2)
  clear hRL hone2
  go_wp2_with (first
    | (at_builtin; refine wpList_append_rd _ rfl (.tmp 42) (.tmp 43) 22 rfl w1.heap.size 37 ie z 35 72 Tryd.underlying22 hi hz hsz hby hzs (by omega) _ 0 [] (by rfl) (World.ownsRow_lit (base := w1.heap.size) w1 #[] 0 (Nat.le_refl _) (by decide) rfl) w.heap.size A 0 c (L.flatMap LkV.cells) (by rfl) HO.out.1 HO.out.2 (by unfold maxLen; omega) (by omega) (by simp) ?_; intro v2 w2 hown2 hg2 _)
    | fail)
  have hb2 : Below w.heap.size w w2 := hbE.grown hg2 hbE.size (fun k e => by have e : some w1.heap.size = some k := e; injection e with e; have := hb1.size; omega)
  have hsz2 : w1.heap.size ≤ w2.heap.size := Nat.le_trans (by simp) hg2.size
  have HW2 := Lib.hid (And.intro hown2 (And.intro hb2 hsz2))
  clear hg2 HO hown2 hbE
  rename_i Kx hKx
  refine (HH.out _ hb2).mono ?_
  rintro e w3 ⟨rfl, hb3⟩
  obtain ⟨hown2, hb2, hsz2⟩ := HW2.out
  have hown3 := own_below hown2 hb3
  have hb3' := hb2.trans (hb3.mono hb2.size)
  obtain ⟨XS, hXS⟩ : ∃ XS, (⟨node, ((0 : Nat) : Int), U, l, B, cd⟩ : LkV).cells = XS := ⟨_, rfl⟩
  have hbt : Tryd.prog.built 37 [(0, .int .i64 node), (1, .int .i64 ((0 : Nat) : Int)), (2, .agg (U.map (Value.int .u8)).toArray), (3, .slice B m cd)] = some XS.toArray := (built_link node ((0 : Nat) : Int) B m cd U HU.out.1).trans (by rw [← hXS, ← HBL.out.2]; rfl)
  have hlen : XS.length = 35 := by rw [← hXS]; simp [LkV.cells, HU.out.1]
  have hone : ∀ u ∈ XS, u.oneCell' = true := by rw [← hXS]; exact LkV.one _
  have HX := Lib.hid (And.intro hXS (And.intro hlen hone))
  clear hXS hlen hone
  refine hKx _ _ ?_
  clear hKx Kx
  refine wpList_step fun KK hKK => ?_
  go_simp
  refine hKK _ _ ?_
  clear hKK KK
  refine wpList_build_as rfl 37 #[(0, .tmp 46), (1, .tmp 48), (2, .tmp 50), (3, .tmp 51)] rfl _ (by rfl) _ hbt ?_
  refine wpList_box_link rfl (.tmp 52) rfl XS (by rfl) HX.out.2.1 ?_
  refine wpList_append_own _ rfl (.tmp 45) (.tmp 53) 22 rfl w1.heap.size 37 ie z 35 72 Tryd.underlying22 hi hz hsz hby hzs (by omega) v2 (0 + 0) _ (by rfl) (hown3.alloc _) ⟨w3.heap.size, 0, none⟩ 1 1 XS (by rfl) (by rw [HX.out.2.1]) (fun j u hj => by rw [Addr.add_flat, Nat.zero_add]; exact (cell_of_row _ _ j _ _ _ (heap_alloc_new _ _)).trans (by simpa using hj)) HX.out.2.2 (by unfold maxLen; omega) (by omega) (by have := hb3.size; simp; omega) ?_
  intro v4 w4 hown4 hg4 _
  have hb4 : Below w.heap.size w w4 := (hb3'.alloc hb3'.size _).grown hg4 (by have := hb3'.size; simp; omega) (fun k e => by have := (hown3.lt k e).1; have := hb1.size; omega)
  have hok : LkV.ok w4 w4.heap.size ⟨node, ((0 : Nat) : Int), U, l, B, cd⟩ := ⟨HU.out.1, HU.out.2, HBL.out.1, (by have h := (HR.out.below hb4).more hb4.size; rw [← HBL.out.2] at h; exact h), (by show l.length ≤ cd; rw [HBL.out.2]; exact hmc), hcd⟩
  rw [← HX.out.1, Nat.zero_add] at hown4
  obtain ⟨G, C, rfl, hC, hCm, hLL⟩ := lks_append (L := L) (n := 0) (fun y hy => ((HL.out.all y hy).below hb4).more hb4.size) hok HL.out.len (by simpa using hown4)
  have HLL := Lib.hid hLL
  clear hok hLL hown4 hg4 hown3 hown2 HW2
  go_wp2
  go_ret2
  exact ⟨G, C, rfl, hC, hCm, HLL.out, hb4⟩
set_option maxRecDepth 100000 in
set_option maxHeartbeats 4000000 in
theorem radd_ok1 (K : Sh.Cst) (A : Option Addr) (n c : Nat) (L : List LkV) (node : Int) (B : Option Addr) (m cd : Nat) (l : List Int) (w : World) (hL : Lks w w.heap.size A n L) (hn : n ≤ 1000) (hnc : n ≤ c) (hA : A = none → c = 0) (hf : ∀ x ∈ L, Ch.fit x)
    (h1 : Ch.allB K L = true) (hn0 : 0 ≤ node) (hn1 : node < 24) (hnode : 0 < n → (Ch.gk L 0).node = node) (hr : Rd w w.heap.size 1 B m (l.map (Value.int .u8))) (hbl : ∀ b ∈ l, 0 ≤ b ∧ b < 256) (hlm : l.length = m) (hm : m ≤ 2000) (hmc : m ≤ cd) (hcd : cd ≤ maxLen) (h0 : 0 < n) :
    Calls Tryd.prog 11 #[.slice A n c, .int .i64 node, .slice B m cd] w fun e w' => ∃ G C, e = .returned (.tuple #[.slice G (n + 1) C, .int .i64 0]) ∧ n + 1 ≤ C ∧ C ≤ maxLen ∧ Lks w' w'.heap.size G (n + 1) (L ++ [⟨node, n, Ch.head K L, l, B, cd⟩]) ∧ Below w.heap.size w w' := by
  obtain ⟨b, o, rfl, hbw, hcell⟩ := lks_head_cell hL h0
  have hc0 : w.cell? ⟨b, o, none⟩ = some (.int .i64 node) := by rw [← hnode h0]; exact hcell 0 _ rfl
  have g6 : (0 : Int) < (n : Int) := by omega
  clear hcell
  have hhl := head_len K L
  have hhb : ∀ b ∈ Ch.head K L, 0 ≤ b ∧ b < 256 := head_byt K L
  have HH : Hid (∀ W, Below w.heap.size w W → Calls Tryd.prog 22 #[.slice (some ⟨b, o, none⟩) n c] W fun e w' => e = .returned (.agg ((Ch.head K L).map (Value.int .u8)).toArray) ∧ Below W.heap.size W w') :=
    fun W hb => rhead_any K (some ⟨b, o, none⟩) n c L W ((hL.below hb).more hb.size) (by omega) (fun x hx => hf x (List.mem_of_getLast? hx))
  obtain ⟨U, hU⟩ : ∃ U, Ch.head K L = U := ⟨_, rfl⟩
  rw [hU] at HH hhl hhb ⊢
  have HU := Lib.hid (And.intro hhl hhb)
  have g0 : ¬ node < 0 := by omega
  have g1 : ¬ (24 : Int) ≤ node := by omega
  have g3 : ¬ (65536 : Int) < (m : Int) := by omega
  have g5 : (m : Int) ≤ 65536 := by omega
  have g4 : ((n : Nat) : Int) ≠ 1024 := by omega
  have g8 : (((n : Nat) : Int) == 1024) = false := beq_eq_false_iff_ne.2 g4
  obtain ⟨ie, z, hi, hz, hsz, hzs, hby⟩ := link_info
  have HR := Lib.hid hr
  have HBL := Lib.hid (And.intro hbl hlm)
  clear hhl hhb hU hr hbl hlm
  have H1 := rcheck_any K (some ⟨b, o, none⟩) n c L w hL hn hnc hA hf
  rw [Ch.chk_of h1] at H1
  have H1 := Lib.hid H1
  have HL := Lib.hid hL
  clear hL
  go_enter Tryd.func11, Tryd.ntmps11
  go_wp2_with fail
  refine H1.out.mono ?_
  rintro e w1 ⟨rfl, hb1⟩
  have hc1 : w1.cell? ⟨b, o, none⟩ = some (.int .i64 node) := (hb1.cell (p := ⟨b, o, none⟩) hbw).trans hc0
  have hbE : Below w.heap.size w (w1.alloc (.cells #[] 37)) := hb1.alloc hb1.size _
  have hRL := (HL.out.rd.below hbE)
  have hone2 : ∀ u ∈ L.flatMap LkV.cells, u.oneCell' = true := fun u hu => by
    obtain ⟨y, _, hy⟩ := List.mem_flatMap.1 hu
    exact y.one u hy
  have HO := Lib.hid (And.intro hRL hone2)
  clear hRL hone2
  go_wp2_with (first
    | (at_builtin; refine wpList_append_rd _ rfl (.tmp 42) (.tmp 43) 22 rfl w1.heap.size 37 ie z 35 72 Tryd.underlying22 hi hz hsz hby hzs (by omega) _ 0 [] (by rfl) (World.ownsRow_lit (base := w1.heap.size) w1 #[] 0 (Nat.le_refl _) (by decide) rfl) w.heap.size (some ⟨b, o, none⟩) n c (L.flatMap LkV.cells) (by rfl) HO.out.1 HO.out.2 (by unfold maxLen; omega) (by omega) (by simp) ?_; intro v2 w2 hown2 hg2 _)
    | fail)
  have hb2 : Below w.heap.size w w2 := hbE.grown hg2 hbE.size (fun k e => by have e : some w1.heap.size = some k := e; injection e with e; have := hb1.size; omega)
  have hsz2 : w1.heap.size ≤ w2.heap.size := Nat.le_trans (by simp) hg2.size
  have HW2 := Lib.hid (And.intro hown2 (And.intro hb2 hsz2))
  clear hg2 HO hown2 hbE
  rename_i Kx hKx
  refine (HH.out _ hb2).mono ?_
  rintro e w3 ⟨rfl, hb3⟩
  obtain ⟨hown2, hb2, hsz2⟩ := HW2.out
  have hown3 := own_below hown2 hb3
  have hb3' := hb2.trans (hb3.mono hb2.size)
  obtain ⟨XS, hXS⟩ : ∃ XS, (⟨node, ((n : Nat) : Int), U, l, B, cd⟩ : LkV).cells = XS := ⟨_, rfl⟩
  have hbt : Tryd.prog.built 37 [(0, .int .i64 node), (1, .int .i64 ((n : Nat) : Int)), (2, .agg (U.map (Value.int .u8)).toArray), (3, .slice B m cd)] = some XS.toArray := (built_link node ((n : Nat) : Int) B m cd U HU.out.1).trans (by rw [← hXS, ← HBL.out.2]; rfl)
  have hlen : XS.length = 35 := by rw [← hXS]; simp [LkV.cells, HU.out.1]
  have hone : ∀ u ∈ XS, u.oneCell' = true := by rw [← hXS]; exact LkV.one _
  have HX := Lib.hid (And.intro hXS (And.intro hlen hone))
  clear hXS hlen hone
  refine hKx _ _ ?_
  clear hKx Kx
  refine wpList_step fun KK hKK => ?_
  go_simp
  refine hKK _ _ ?_
  clear hKK KK
  refine wpList_build_as rfl 37 #[(0, .tmp 46), (1, .tmp 48), (2, .tmp 50), (3, .tmp 51)] rfl _ (by rfl) _ hbt ?_
  refine wpList_box_link rfl (.tmp 52) rfl XS (by rfl) HX.out.2.1 ?_
  refine wpList_append_own _ rfl (.tmp 45) (.tmp 53) 22 rfl w1.heap.size 37 ie z 35 72 Tryd.underlying22 hi hz hsz hby hzs (by omega) v2 (0 + n) _ (by rfl) (hown3.alloc _) ⟨w3.heap.size, 0, none⟩ 1 1 XS (by rfl) (by rw [HX.out.2.1]) (fun j u hj => by rw [Addr.add_flat, Nat.zero_add]; exact (cell_of_row _ _ j _ _ _ (heap_alloc_new _ _)).trans (by simpa using hj)) HX.out.2.2 (by unfold maxLen; omega) (by omega) (by have := hb3.size; simp; omega) ?_
  intro v4 w4 hown4 hg4 _
  have hb4 : Below w.heap.size w w4 := (hb3'.alloc hb3'.size _).grown hg4 (by have := hb3'.size; simp; omega) (fun k e => by have := (hown3.lt k e).1; have := hb1.size; omega)
  have hok : LkV.ok w4 w4.heap.size ⟨node, ((n : Nat) : Int), U, l, B, cd⟩ := ⟨HU.out.1, HU.out.2, HBL.out.1, (by have h := (HR.out.below hb4).more hb4.size; rw [← HBL.out.2] at h; exact h), (by show l.length ≤ cd; rw [HBL.out.2]; exact hmc), hcd⟩
  rw [← HX.out.1, Nat.zero_add] at hown4
  obtain ⟨G, C, rfl, hC, hCm, hLL⟩ := lks_append (L := L) (n := n) (fun y hy => ((HL.out.all y hy).below hb4).more hb4.size) hok HL.out.len (by simpa using hown4)
  have HLL := Lib.hid hLL
  clear hok hLL hown4 hg4 hown3 hown2 HW2
  go_wp2
  go_ret2
  exact ⟨G, C, rfl, hC, hCm, HLL.out, hb4⟩
end Go.Proofs.YtpjggokaolnbcaaDoor
