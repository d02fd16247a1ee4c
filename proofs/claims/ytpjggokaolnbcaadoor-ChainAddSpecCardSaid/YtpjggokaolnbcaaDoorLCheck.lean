/- chain.Check. -/
import Derived.Test.YtpjggokaolnbcaaDoorLBeg
import Derived.RangeFuncBox
import Derived.Test.YtpjggokaolnbcaaDoorLEq
namespace Go.Proofs.YtpjggokaolnbcaaDoor
open Go.RowKit Go.Shelf
attribute [local go_sem] Oper.semAt_some
set_option linter.unusedVariables false
theorem beginnings_any (A : Option Addr) (n c : Nat) (w : World) : Calls Tryd.prog 30 #[.slice A n c] w fun e w' =>
    e = .returned (.func (.func 37) #[] #[.pointer (some ⟨w.heap.size, 0, none⟩)]) ∧ w.alloc (.cells #[.slice A n c] 22) = w' := by
  go_enter Tryd.func30, Tryd.ntmps30
  go_wp2
  go_ret
  exact ⟨rfl, rfl⟩
namespace Ch
/-- does link x pass, as the one number k? -/
def passB (K : Sh.Cst) (L : List LkV) (x k : Nat) : Bool :=
  decide ((gk L x).node = (gk L 0).node ∧ 0 ≤ (gk L x).node ∧ (gk L x).node < 24 ∧ (gk L x).no = (k : Int) ∧ (gk L x).data.length ≤ 65536 ∧ (gk L x).prev = head K (L.take x))
def allB (K : Sh.Cst) (L : List LkV) : Bool := (List.range L.length).all fun k => passB K L k k
/-- what Check answers -/
def chk (K : Sh.Cst) (L : List LkV) : Int := if allB K L then 0 else 80
end Ch
theorem Row.own {W W' : World} {B : Nat} {t : TypeId} {cs : List Value} {row : Option Nat} (h : Row W B t cs) (hg : W.grownBy W' row) (hr : ∀ r, row = some r → ∃ o : Obj, W.heap[r]? = some o ∧ o.isCells = false) : Row W' B t cs :=
  h.grown hg (fun e => by
    obtain ⟨o, ho, hc⟩ := hr B e.symm
    have h' : W.heap[B]? = _ := h
    rw [h'] at ho
    injection ho with ho
    subst ho
    cases hc)
theorem box_own {W W' : World} {B : Nat} {t : TypeId} {v : Value} {row : Option Nat} (h : Boxed W B t v) (hg : W.grownBy W' row) (hr : ∀ r, row = some r → ∃ o : Obj, W.heap[r]? = some o ∧ o.isCells = false) : Boxed W' B t v :=
  h.kept hg (fun e => by
    obtain ⟨o, ho, hc⟩ := hr B e.symm
    have h' : W.heap[B]? = _ := h
    rw [h'] at ho
    injection ho with ho
    subst ho
    cases hc)
theorem gk_len {L : List LkV} (h : ∀ y ∈ L, y.prev.length = 32) (x : Nat) : (Ch.gk L x).cells.length = 35 ∧ (Ch.gk L x).prev.length = 32 := by
  have h1 : (Ch.gk L x).prev.length = 32 := by
    unfold Ch.gk
    rw [List.getD_eq_getElem?_getD]
    cases hx : L[x]? with
    | none => rfl
    | some y => exact h y (List.mem_of_getElem? hx)
  exact ⟨by simp [LkV.cells, h1], h1⟩
theorem head_len (K : Sh.Cst) (L : List LkV) : (Ch.head K L).length = 32 := by
  unfold Ch.head
  split <;> exact Sh.tagged_length _ _ _
theorem kpb_t {n₀ Bn : Nat} {X Y Z : World} (h : KpB n₀ Bn X Y) (k : KpB n₀ Bn Y Z) : KpB n₀ Bn X Z := ⟨h.1.trans k.1, k.2.trans h.2⟩
def WI (K : Sh.Cst) (L : List LkV) (w : World) (A : Option Addr) (n c : Nat) (pre : List Nat) (W : World) : Prop :=
  Boxed W w.heap.size 22 (.slice A n c) ∧ Boxed W (w.heap.size + 1) 26 (.int .i64 0) ∧ Boxed W (w.heap.size + 1 + 1) 3 (.int .i64 pre.length) ∧ (∀ j, j < pre.length → Ch.passB K L (pre.getD j 0) j = true)
def WX (K : Sh.Cst) (L : List LkV) (w : World) (cd : Code) (pre : List Nat) (W : World) : Prop :=
  cd = .ret ∧ (∃ j, j < pre.length ∧ Ch.passB K L (pre.getD j 0) j = false) ∧ Boxed W (w.heap.size + 1) 26 (.int .i64 80)
theorem wpQuiet_val {P : Program} {ops : Array Oper} {C : World → Prop} {Q : Act → Prop} {o : Oper} {rest : List Oper} {a : Act} (v : Value) (hw : Region.wanted o (yielded ops a.tmps) = true) (hrun : ∀ w, C w → (execOp a.eval o).run P w = .ok (.value v) w)
    (h : wpQuiet P ops C Q rest (a.put o.dst v)) : wpQuiet P ops C Q (o :: rest) a := by
  unfold wpQuiet
  rw [if_pos hw]
  exact ⟨v, fun w hw' => (by unfold Oper.quietAt; rw [hrun w hw']; exact ⟨rfl, rfl⟩), h⟩
theorem guard_digest : Tryd.prog.eqGuardType Tryd.prog.depth 35 = false := by kernel_rfl
theorem run_neq_exec {o : Oper} {a : Act} {w : World} {v : Value} (x y : Operand) {ty : TypeId} (ho : o.op = .binOp .neq 35 x y ty) (xs ys : Array Value) (hx : a.eval x = .agg xs) (hy : a.eval y = .agg ys)
    (h : (binOp .neq 35 (.agg xs) (.agg ys)).run Tryd.prog w = .ok v w) : (execOp a.eval o).run Tryd.prog w = .ok (.value v) w := by
  unfold execOp
  simp only [ho, hx, hy, Sem.run_bind, run_eqGuard_agg w .neq 35 x y xs ys guard_digest, Result.andThen_ok, h, Sem.run_pure]
theorem keeps_drewN (W : World) (n : Nat) : KeepsOthers W (W.drewN n) := ⟨Nat.le_refl _, fun _ _ h _ => h⟩
theorem getD_snoc (pre : List Nat) (x k : Nat) (hk : pre.length = k) : (pre ++ [x]).getD k 0 = x := by
  subst hk
  simp [List.getD_eq_getElem?_getD]
theorem bad_end {K : Sh.Cst} {L : List LkV} {w W : World} {pre : List Nat} {x k B : Nat} (i1 : Boxed W (w.heap.size + 1) 26 (.int .i64 0)) (hB : Below w.heap.size w W) (hF : Ch.passB K L x k = false) (hk : pre.length = k) (nq : Nat) :
    KeepsFrom B W ((W.drewN nq).setCell ⟨w.heap.size + 1, 0, none⟩ (.int .i64 80)) ∧ WX K L w .ret (pre ++ [x]) ((W.drewN nq).setCell ⟨w.heap.size + 1, 0, none⟩ (.int .i64 80)) ∧ Below w.heap.size w ((W.drewN nq).setCell ⟨w.heap.size + 1, 0, none⟩ (.int .i64 80)) := by
  refine ⟨((keeps_drewN W nq).trans (KeepsOthers.setCell _ _ _)).from _, ⟨rfl, ⟨k, by simp [hk], by rw [getD_snoc pre x k hk]; exact hF⟩, ?_⟩, (below_drewN hB nq).setCell (p := ⟨w.heap.size + 1, 0, none⟩) (by simp) _⟩
  have h : Boxed (W.drewN nq) (w.heap.size + 1) 26 (.int .i64 0) := i1
  exact h.set (.int .i64 80)
theorem good_end {K : Sh.Cst} {L : List LkV} {w W : World} {A : Option Addr} {n c : Nat} {pre : List Nat} {x k B : Nat} (i : WI K L w A n c pre W) (hB : Below w.heap.size w W) (hz : w.heap.size + 1 + 1 + 1 + 1 ≤ W.heap.size) (hF : Ch.passB K L x k = true) (hk : pre.length = k) (nq : Nat) (hWz : B ≤ W.heap.size) :
    KeepsFrom B W ((W.drewN nq).setCell ⟨w.heap.size + 1 + 1, 0, none⟩ (.int .i64 ((k : Int) + 1))) ∧ KpB w.heap.size (w.heap.size + 1 + 1 + 1) W ((W.drewN nq).setCell ⟨w.heap.size + 1 + 1, 0, none⟩ (.int .i64 ((k : Int) + 1))) ∧
      WI K L w A n c (pre ++ [x]) ((W.drewN nq).setCell ⟨w.heap.size + 1 + 1, 0, none⟩ (.int .i64 ((k : Int) + 1))) ∧ Below w.heap.size w ((W.drewN nq).setCell ⟨w.heap.size + 1 + 1, 0, none⟩ (.int .i64 ((k : Int) + 1))) ∧ B ≤ ((W.drewN nq).setCell ⟨w.heap.size + 1 + 1, 0, none⟩ (.int .i64 ((k : Int) + 1))).heap.size := by
  obtain ⟨i0, i1, i2, i3⟩ := i
  have j0 : Boxed (W.drewN nq) w.heap.size 22 (.slice A n c) := i0
  have j1 : Boxed (W.drewN nq) (w.heap.size + 1) 26 (.int .i64 0) := i1
  have j2 : Boxed (W.drewN nq) (w.heap.size + 1 + 1) 3 (.int .i64 pre.length) := i2
  refine ⟨((keeps_drewN W nq).trans (KeepsOthers.setCell _ _ _)).from _, ⟨(below_drewN (Below.refl _ W) nq).setCell (p := ⟨w.heap.size + 1 + 1, 0, none⟩) (by simp; omega) _, World.cell?_setCell_other (W.drewN nq) _ _ _ (by simp)⟩, ⟨j0.other (by omega) _, j1.other (by omega) _, ?_, ?_⟩, (below_drewN hB nq).setCell (p := ⟨w.heap.size + 1 + 1, 0, none⟩) (by simp; omega) _, by rw [World.size_setCell]; exact hWz⟩
  · have h := j2.set (.int .i64 ((k : Int) + 1))
    rw [List.length_append, hk]
    exact h
  · intro j hj
    rw [List.length_append, hk, List.length_singleton] at hj
    by_cases h : j = k
    · subst h
      rw [getD_snoc pre x j hk]; exact hF
    · have h2 := i3 j (by omega)
      rwa [List.getD_eq_getElem?_getD, List.getElem?_append_left (by omega), ← List.getD_eq_getElem?_getD]
set_option maxRecDepth 100000 in
set_option maxHeartbeats 4000000 in
theorem check_in (K : Sh.Cst) (A : Option Addr) (n c : Nat) (L : List LkV) (w : World) (hL : Lks w w.heap.size A n L) (hn : n ≤ 1000) (hnc : n ≤ c) (hfit : ∀ x ∈ L, Ch.fit x) (hLd : Laid w) :
    CallsIn Fence.wide 9 Tryd.prog 16 #[.slice A n c] w fun e W' => e = .returned (.int .i64 (Ch.chk K L)) ∧ Below w.heap.size w W' := by
  refine callsIn_of_wp_marks Tryd.func16 rfl trivial ?_ rfl
  simp only [Tryd.ntmps16, List.size_toArray, List.length_cons, List.length_nil, Nat.reduceAdd, Nat.reduceSub, Array.replicate_succ, Array.replicate_zero, List.push_toArray, List.append_toArray, List.nil_append, List.cons_append]
  have hn1 : ¬ (1024 : Int) < (n : Int) := by omega
  have hn2 : (n : Int) ≤ 1024 := by omega
  have HL := Lib.hid hL
  have HF := Lib.hid hfit
  clear hL hfit
  gi_wp2_with (refine ⟨trivial, ?_⟩; gi_at_call 30; refine (callsIn_wide.2 (beginnings_any _ _ _ _)).mono ?_; rintro e w' ⟨rfl, rfl⟩)
  have hW0 : Below w.heap.size w ((((w.alloc (.cells #[.slice A n c] 22)).alloc (.cells #[.int .i64 0] 26)).alloc (.cells #[.int .i64 0] 3)).alloc (.cells #[.slice A n c] 22)) := ((((Below.refl _ w).alloc (Nat.le_refl _) _).alloc (by simp) _).alloc (by simp; omega) _).alloc (by simp; omega) _
  have b0 := ((Boxed.new w 22 (.slice A n c)).alloc (.cells #[.int .i64 0] 26)).alloc (.cells #[.int .i64 0] 3) |>.alloc (.cells #[.slice A n c] 22)
  have b1 := ((Boxed.new (w.alloc (.cells #[.slice A n c] 22)) 26 (.int .i64 0)).alloc (.cells #[.int .i64 0] 3)).alloc (.cells #[.slice A n c] 22)
  have b2 := (Boxed.new ((w.alloc (.cells #[.slice A n c] 22)).alloc (.cells #[.int .i64 0] 26)) 3 (.int .i64 0)).alloc (.cells #[.slice A n c] 22)
  have b3 := Boxed.new (((w.alloc (.cells #[.slice A n c] 22)).alloc (.cells #[.int .i64 0] 26)).alloc (.cells #[.int .i64 0] 3)) 22 (.slice A n c)
  simp only [World.size_alloc] at b1 b2 b3
  obtain ⟨W0, hW0e⟩ : ∃ W0, (((w.alloc (.cells #[.slice A n c] 22)).alloc (.cells #[.int .i64 0] 26)).alloc (.cells #[.int .i64 0] 3)).alloc (.cells #[.slice A n c] 22) = W0 := ⟨_, rfl⟩
  have hsz : W0.heap.size = w.heap.size + 1 + 1 + 1 + 1 := by rw [← hW0e]; simp
  rw [hW0e] at hW0 b0 b1 b2 b3 ⊢
  clear hW0e
  have hpl : ∀ y ∈ L, y.prev.length = 32 := fun y hy => (HL.out.all y hy).plen
  have HGL : Hid (∀ x, (Ch.gk L x).cells.length = 35 ∧ (Ch.gk L x).prev.length = 32) := by show ∀ x, _; exact fun x => gk_len hpl x
  refine wpIn_rangeFunc_ownH (F := Fence.wide) (n := 9) rfl (by omega) (gf := 37) (lb := #[.pointer (some ⟨w.heap.size + 1 + 1 + 1, 0, none⟩)]) rfl trivial (enters_of Tryd.func37 (by kernel_rfl) rfl)
    (encs := encB K L) (Kp := KpB w.heap.size (w.heap.size + 1 + 1 + 1)) (S := fun ys => ys = List.range n) (Sp := fun pre => ∃ k, k < n ∧ pre = List.range (k + 1)) (N := n) (w0 := W0)
    (fun l J Jx W hW hJ hJx hY h0 => beg1_in K _ l (w.heap.size + 1 + 1 + 1) w.heap.size n c A L W (by omega) hLd.size (by have := hW.size; omega) J Jx hJ (by have := hW.size; omega) hY (by
        have h := hW.cell (p := ⟨w.heap.size + 1 + 1 + 1, 0, none⟩) (by show w.heap.size + 1 + 1 + 1 < _; omega)
        exact h.trans b3.cell) ((HL.out.below hW0).below (hW.mono (by omega))) hnc HF.out ((hLd.below hW0 hLd.size).below hW (by have := hLd.size; omega)) h0)
    (fun h k => kpb_t h k) (fun W l o o' hl ho hc hw => ⟨belowK_b (w := W0) (n₀ := w.heap.size) (by omega) W l o o' hl ho hc hw, (belowK_b (w := W0) (n₀ := w.heap.size + 1 + 1 + 1 + 1) (by omega) W l o o' hl ho hc hw).cell (p := ⟨w.heap.size + 1 + 1 + 1, 0, none⟩) (Nat.lt_succ_self _)⟩) (Below.refl _ _) (fun _ => rfl)
    (fun pre W => WI K L w A n c pre W ∧ (Below w.heap.size w W ∧ W0.heap.size ≤ W.heap.size))
    (fun cd pre W => WX K L w cd pre W ∧ Below w.heap.size w W)
    (OwnFrom.and (Own.from (fun s X Y row hs hg hr => ⟨box_own hs.1 hg hr, box_own hs.2.1 hg hr, box_own hs.2.2.1 hg hr, hs.2.2.2⟩) _) (OwnFrom.and (ownFrom_below (Nat.le_refl _) (by omega)) (fun s X Y row hs hg hr => Nat.le_trans hs hg.size)))
    (fun cd => OwnFrom.and (Own.from (fun s X Y row hs hg hr => ⟨hs.1, hs.2.1, box_own hs.2.2 hg hr⟩) _) (ownFrom_below (Nat.le_refl _) (by omega)))
    ⟨⟨b0, b1, b2, fun j hj => absurd hj (by simp)⟩, hW0, Nat.le_refl _⟩
    (fun x a' W => ∃ Bx Bh, Row W Bx 37 (Ch.gk L x).cells ∧ Row W Bh 35 ((Ch.head K (L.take x)).map (Value.int .u8)) ∧ a' = { tmps := #[.slice A n c, .pointer (some ⟨w.heap.size, 0, none⟩), .pointer (some ⟨w.heap.size + 1, 0, none⟩), .pointer (some ⟨w.heap.size + 1 + 1, 0, none⟩), .pointer (some ⟨Bx, 0, none⟩), .pointer (some ⟨Bh, 0, none⟩), .slice A n c, .int .i64 n, .bool false, .slice A n c, .func (.func 37) #[] #[.pointer (some ⟨w.heap.size + 1 + 1 + 1, 0, none⟩)], .agg (Ch.gk L x).cells.toArray, .agg ((Ch.head K (L.take x)).map (Value.int .u8)).toArray, undef, undef, undef, undef, undef, undef, undef, undef, undef, undef, undef, undef, undef, undef, undef, undef, undef, undef, undef, undef, undef, undef, undef, undef, undef, undef, undef, undef, undef, undef, undef, undef, undef, undef, undef, undef, undef], defers := [] })
    (fun x a' => Own.from (fun s X Y row hs hg hr => by
      obtain ⟨Bx, Bh, h3, h4, h5⟩ := hs
      exact ⟨Bx, Bh, h3.own hg hr, h4.own hg hr, h5⟩) _) ?assign ?body ?done ?stop
  case assign =>
    rintro l pre x W K' ⟨⟨i0, i1, i2, i3⟩, hB, hWz⟩ hK
    have HKK := Lib.hid hK
    clear hK
    obtain ⟨hx1, hx2⟩ := HGL.out x
    have hone := (Ch.gk L x).one
    have hhl := head_len K (L.take x)
    obtain ⟨CS, hCS⟩ : ∃ CS, (Ch.gk L x).cells = CS := ⟨_, rfl⟩
    obtain ⟨U, hU⟩ : ∃ U, Ch.head K (L.take x) = U := ⟨_, rfl⟩
    rw [hU] at hhl
    rw [hCS] at hx1 hone
    have HX1 := Lib.hid hx1
    have HONE := Lib.hid hone
    have HHL := Lib.hid hhl
    have HCS := Lib.hid hCS
    have HU := Lib.hid hU
    have HI : Hid ((Tryd.prog.info? 37).map (·.size) = some CS.length) := by show _ = _; rw [hx1]; exact info_link
    have HI2 : Hid ((Tryd.prog.info? 35).map (·.size) = some (U.map (Value.int .u8)).length) := by show _ = _; rw [List.length_map, hhl]; kernel_rfl
    have hsW := hB.size
    dsimp only [encB]
    rw [hCS, hU]
    clear hx1 hone hhl hCS hU hx2
    gi_wp2_with (first
      | (refine wpListIn_store_cells rfl 37 (.tmp 4) (.tmp 11) rfl W.heap.size CS (by rfl) (by rfl) 37 _ (heap_alloc_new W _) (by rw [HX1.out]; rfl) HI.out HONE.out ?_; intro w2 hR2 hg2 hk2)
      | (refine wpListIn_store_cells rfl 35 (.tmp 5) (.tmp 12) rfl w2.heap.size (U.map (Value.int .u8)) (by rfl) (by rfl) 35 _ (heap_alloc_new w2 _) (by rw [List.length_map, HHL.out]; rfl) HI2.out (u8_one _) ?_; intro w3 hR3 hg3 hk3)
      | fail)
    have g2 := grown_then (World.grownBy_alloc W _ none) hg2 (fun i e => by injection e with e; left; omega)
    have g3 := grown_then (grown_alloc g2 _) hg3 (fun i e => by injection e with e; left; have := g2.size; omega)
    have hR2' : Row w3 W.heap.size 37 CS := (hR2.alloc _).grown hg3 (by simp; have := hR2.lt; omega)
    have hBW : Below w.heap.size W w3 := ⟨g3.os, g3.tape, g3.output, g3.size, fun q hq => g3.block q (by omega) (by simp)⟩
    have hkk := ((KeepsOthers.alloc W _).trans hk2).trans ((KeepsOthers.alloc w2 _).trans hk3)
    refine HKK.out _ _ (hkk.from _) ⟨hBW, World.cell?_of_block (g3.block (w.heap.size + 1 + 1 + 1) (by omega) (by simp))⟩ ⟨⟨i0.kept g3 (by simp), i1.kept g3 (by simp), i2.kept g3 (by simp), i3⟩, hB.trans hBW, Nat.le_trans hWz g3.size⟩ ⟨W.heap.size, w2.heap.size, ?_, ?_, ?_⟩
    · rw [HCS.out]; exact hR2'
    · rw [HU.out]; exact hR3
    · rw [HCS.out, HU.out]
  case body =>
    rintro l pre x a' W hl ⟨r, hr⟩ ⟨⟨i0, i1, i2, i3⟩, hB, hWz⟩ ⟨Bx, Bh, hRx, hRh, rfl⟩ hlt
    obtain ⟨hx1, hx2⟩ := HGL.out x
    have hLW := HL.out.below hB
    obtain ⟨y0, hy0⟩ : ∃ y, L[0]? = some y := ⟨_, List.getElem?_eq_getElem (by rw [HL.out.len]; omega)⟩
    obtain ⟨b, o, rfl, _, hcy⟩ := hLW.at hy0
    have q0 : W.cell? ⟨b, o, none⟩ = some (.int .i64 y0.node) := by have h := hcy 0 _ y0.cell_n; simpa using h
    have hg0 : (Ch.gk L 0).node = y0.node := by unfold Ch.gk; rw [List.getD_eq_getElem?_getD, hy0]; rfl
    have x0 := hRx.cell (Ch.gk L x).cell_n
    have x1 := hRx.cell (Ch.gk L x).cell_o
    have xd := hRx.cell ((Ch.gk L x).cell_d hx2)
    have hPB : ∀ k, Ch.passB K L x k = decide ((Ch.gk L x).node = y0.node ∧ 0 ≤ (Ch.gk L x).node ∧ (Ch.gk L x).node < 24 ∧ (Ch.gk L x).no = (k : Int) ∧ (Ch.gk L x).data.length ≤ 65536 ∧ (Ch.gk L x).prev = Ch.head K (L.take x)) := fun k => by unfold Ch.passB; rw [hg0]
    have hxp : ∀ (j : Nat) (v : Value), ((Ch.gk L x).prev.map (Value.int .u8))[j]? = some v → W.cell? ((⟨Bx, 2, none⟩ : Addr).add j) = some v := fun j v hv => by
      rw [List.getElem?_map, Option.map_eq_some_iff] at hv
      obtain ⟨z, hz, rfl⟩ := hv
      have hj : j < 32 := by have := (List.getElem?_eq_some_iff.1 hz).1; rwa [hx2] at this
      rw [Addr.add_flat, hRx.cell ((Ch.gk L x).cell_p hx2 j hj), List.getD_eq_getElem?_getD, hz]; rfl
    have hxh : ∀ (j : Nat) (v : Value), ((Ch.head K (L.take x)).map (Value.int .u8))[j]? = some v → W.cell? ((⟨Bh, 0, none⟩ : Addr).add j) = some v := fun j v hv => by
      rw [Addr.add_flat, Nat.zero_add]; exact hRh.cell hv
    have hhl := head_len K (L.take x)
    have c0 := i0.cell
    have c1 := i1.cell
    have c2 := i2.cell
    have f1 := i1.frozen
    have f2 := i2.frozen
    have hcn : (n : Int) ≤ c := by omega
    have hn0 : (0 : Int) < n := by omega
    obtain ⟨k, hk⟩ : ∃ k, pre.length = k := ⟨_, rfl⟩
    rw [hk] at c2 hlt
    have HIB := Lib.hid (And.intro i0 (And.intro i1 (And.intro i2 i3)))
    have HPB := Lib.hid hPB
    have HK := Lib.hid hk
    have HXP := Lib.hid hxp
    have HXH := Lib.hid hxh
    have HHL := Lib.hid hhl
    have HX2 := Lib.hid hx2
    clear i0 i1 i2 i3 hPB hk hxp hxh hhl hx1 hx2 hcy hy0 hg0 hLW hRx hRh
    have hk9 : (k : Int) < 1000 := by omega
    generalize hXX : Ch.gk L x = X at *
    obtain ⟨a, ha⟩ : ∃ a, X.node = a := ⟨_, rfl⟩
    obtain ⟨a0, ha0⟩ : ∃ a, y0.node = a := ⟨_, rfl⟩
    obtain ⟨d, hd⟩ : ∃ d, X.no = d := ⟨_, rfl⟩
    obtain ⟨dl, hdl⟩ : ∃ d, X.data.length = d := ⟨_, rfl⟩
    rw [ha] at x0
    rw [hd] at x1
    rw [hdl] at xd
    rw [ha0] at q0
    have HV := Lib.hid (And.intro ha (And.intro ha0 (And.intro hd hdl)))
    clear ha ha0 hd hdl hXX
    by_cases h1 : a = a0
    · have b1 : (a != a0) = false := by simpa using h1
      have H1 := Lib.hid h1
      clear h1
      by_cases h2 : a < 0
      · have hF : Ch.passB K L x k = false := by rw [HPB.out, decide_eq_false_iff_not, HV.out.1, HV.out.2.1, HV.out.2.2.1, HV.out.2.2.2]; exact fun h => absurd h.2.1 (by omega)
        have HFF := Lib.hid hF
        clear hF
        gi_wp2
        refine wpIn_region_quietR (by kernel_rfl) (by kernel_rfl) (by kernel_rfl) ?_
        repeat (go_big_quiet_step ((fail)))
        refine wpQuiet_nil ?_
        intro _ hw'
        obtain ⟨nq, hw''⟩ := hw'
        subst hw''
        gi_wp2
        exact bad_end HIB.out.2.1 hB HFF.out HK.out nq
      · have h2' : 0 ≤ a := by omega
        have e2 : decide (a < 0) = false := by simpa using h2'
        by_cases h3 : 24 ≤ a
        · have hF : Ch.passB K L x k = false := by rw [HPB.out, decide_eq_false_iff_not, HV.out.1, HV.out.2.1, HV.out.2.2.1, HV.out.2.2.2]; exact fun h => absurd h.2.2.1 (by omega)
          have HFF := Lib.hid hF
          clear hF
          gi_wp2
          refine wpIn_region_quietR (by kernel_rfl) (by kernel_rfl) (by kernel_rfl) ?_
          repeat (go_big_quiet_step ((fail)))
          refine wpQuiet_nil ?_
          intro _ hw'
          obtain ⟨nq, hw''⟩ := hw'
          subst hw''
          gi_wp2
          exact bad_end HIB.out.2.1 hB HFF.out HK.out nq
        · have h3' : a < 24 := by omega
          have e3 : decide (24 ≤ a) = false := by simpa using h3'
          by_cases h4 : d = (k : Int)
          · have b4 : (d != (k : Int)) = false := by simpa using h4
            have H4 := Lib.hid h4
            clear h4
            by_cases h5 : dl ≤ 65536
            · have b5 : (dl : Int) ≤ 65536 := by omega
              have e5 : decide ((65536 : Int) < (dl : Int)) = false := by simpa using b5
              have HPV := Lib.hid (And.intro HX2.out HHL.out)
              obtain ⟨PV, hPV⟩ : ∃ PV, X.prev = PV := ⟨_, rfl⟩
              obtain ⟨U, hU⟩ : ∃ U, Ch.head K (List.take x L) = U := ⟨_, rfl⟩
              rw [hPV, hU] at HPV
              have HPE := Lib.hid hPV
              have HUE := Lib.hid hU
              rw [hPV] at HXP
              rw [hU] at HXH
              rw [hU]
              clear hPV hU
              gi_wp2
              refine wpIn_region_quietR (by kernel_rfl) (by kernel_rfl) (by kernel_rfl) ?_
              repeat (go_big_quiet_step ((fail)))
              refine wpQuiet_val (.agg (PV.map (Value.int .u8)).toArray) (by rfl) (fun w' hw' => (by obtain ⟨qn, rfl⟩ := hw'; exact run_load_exec 35 (.tmp 43) (by rfl) ⟨Bx, 2, none⟩ (by rfl) (PV.map (Value.int .u8)) _ (fun j v hv => HXP.out j v hv) Tryd.underlying35 (by rfl) (by rw [List.length_map, HPV.out.1]; kernel_rfl))) ?_
              dsimp only [Act.put, List.setIfInBounds_toArray, List.set_cons_zero, List.set_cons_succ]
              refine wpQuiet_val (.agg (U.map (Value.int .u8)).toArray) (by rfl) (fun w' hw' => (by obtain ⟨qn, rfl⟩ := hw'; exact run_load_exec 35 (.tmp 5) (by rfl) ⟨Bh, 0, none⟩ (by rfl) (U.map (Value.int .u8)) _ (fun j v hv => HXH.out j v hv) Tryd.underlying35 (by rfl) (by rw [List.length_map, HPV.out.2]; kernel_rfl))) ?_
              dsimp only [Act.put, List.setIfInBounds_toArray, List.set_cons_zero, List.set_cons_succ]
              refine wpQuiet_val (.bool (!decide (PV = U))) (by rfl) (fun w' hw' => (by have hnq := neq_digest w' PV U HPV.out.1 HPV.out.2; exact run_neq_exec (.tmp 44) (.tmp 45) (by rfl) _ _ (by rfl) (by rfl) hnq)) ?_
              dsimp only [Act.put, List.setIfInBounds_toArray, List.set_cons_zero, List.set_cons_succ]
              refine wpQuiet_val (.bool (!decide (PV = U))) (by rfl) (fun w' hw' => (by first | rfl | (unfold execOp; simp [go_sem]))) ?_
              dsimp only [Act.put, List.setIfInBounds_toArray, List.set_cons_zero, List.set_cons_succ]
              refine wpQuiet_nil ?_
              intro _ hw'
              obtain ⟨nq, hw''⟩ := hw'
              subst hw''
              by_cases h6 : PV = U
              · have hF : Ch.passB K L x k = true := by rw [HPB.out, decide_eq_true_eq, HV.out.1, HV.out.2.1, HV.out.2.2.1, HV.out.2.2.2]; exact ⟨H1.out, h2', h3', H4.out, h5, by rw [HPE.out, HUE.out]; exact h6⟩
                have HFF := Lib.hid hF
                have e6 : decide (PV = U) = true := by simpa using h6
                clear hF h6
                rw [e6]
                gi_wp2
                exact good_end HIB.out hB (by omega) HFF.out HK.out nq hWz
              · have hF : Ch.passB K L x k = false := by rw [HPB.out, decide_eq_false_iff_not]; exact fun h => h6 (by rw [← HPE.out, ← HUE.out]; exact h.2.2.2.2.2)
                have HFF := Lib.hid hF
                have e6 : decide (PV = U) = false := by simpa using h6
                clear hF h6
                rw [e6]
                gi_wp2
                exact bad_end HIB.out.2.1 hB HFF.out HK.out nq
            · have b5 : (65536 : Int) < dl := by omega
              have hF : Ch.passB K L x k = false := by rw [HPB.out, decide_eq_false_iff_not, HV.out.1, HV.out.2.1, HV.out.2.2.1, HV.out.2.2.2]; exact fun h => absurd h.2.2.2.2.1 (by omega)
              have HFF := Lib.hid hF
              clear hF
              gi_wp2
              refine wpIn_region_quietR (by kernel_rfl) (by kernel_rfl) (by kernel_rfl) ?_
              repeat (go_big_quiet_step ((fail)))
              refine wpQuiet_nil ?_
              intro _ hw'
              obtain ⟨nq, hw''⟩ := hw'
              subst hw''
              gi_wp2
              exact bad_end HIB.out.2.1 hB HFF.out HK.out nq
          · have b4 : (d != (k : Int)) = true := by simpa using h4
            have hF : Ch.passB K L x k = false := by rw [HPB.out, decide_eq_false_iff_not, HV.out.1, HV.out.2.1, HV.out.2.2.1, HV.out.2.2.2]; exact fun h => absurd h.2.2.2.1 h4
            have HFF := Lib.hid hF
            clear hF h4
            gi_wp2
            refine wpIn_region_quietR (by kernel_rfl) (by kernel_rfl) (by kernel_rfl) ?_
            repeat (go_big_quiet_step ((fail)))
            refine wpQuiet_nil ?_
            intro _ hw'
            obtain ⟨nq, hw''⟩ := hw'
            subst hw''
            gi_wp2
            exact bad_end HIB.out.2.1 hB HFF.out HK.out nq
    · have b1 : (a != a0) = true := by simpa using h1
      have hF : Ch.passB K L x k = false := by rw [HPB.out, decide_eq_false_iff_not, HV.out.1, HV.out.2.1, HV.out.2.2.1, HV.out.2.2.2]; exact fun h => absurd h.1 h1
      have HFF := Lib.hid hF
      clear hF h1
      gi_wp2
      refine wpIn_region_quietR (by kernel_rfl) (by kernel_rfl) (by kernel_rfl) ?_
      repeat (go_big_quiet_step ((fail)))
      refine wpQuiet_nil ?_
      intro _ hw'
      obtain ⟨nq, hw''⟩ := hw'
      subst hw''
      gi_wp2
      exact bad_end HIB.out.2.1 hB HFF.out HK.out nq
  case done =>
    rintro D ys W hD rfl ⟨⟨i0, i1, i2, i3⟩, hB, hWz⟩ hK
    have hall : Ch.chk K L = 0 := by
      unfold Ch.chk Ch.allB
      rw [if_pos]
      rw [List.all_eq_true]
      intro k hk
      rw [List.mem_range, HL.out.len] at hk
      have h := i3 k (by simpa using hk)
      rw [List.getD_eq_getElem?_getD, List.getElem?_range hk] at h
      exact h
    have hc1 := i1.cell
    have hf1 := i1.frozen
    have H1 := i1.set (.int .i64 0)
    gi_wp2
    have hK' := (KeepsOthers.setCell W ⟨w.heap.size + 1, 0, none⟩ (.int .i64 0)).same D _ hK rfl
    refine ⟨by simp, .inl ⟨_, _, rfl, run_takeDeferred hK', ?_⟩⟩
    have hc5 := cell_kept H1.cell (grownBy_putObj' _ D (.deferred none)) (fun r e => by cases e; exact ⟨_, hK', rfl⟩)
    refine ⟨.int .i64 0, ?_, by rw [hall], (hB.setCell (p := ⟨w.heap.size + 1, 0, none⟩) (by simp) _).trans (belowK_b (w := w) (Nat.le_refl _) _ D _ _ (by omega) hK' rfl rfl)⟩
    simp [results, Tryd.f16, go_sem, hc5]
  case stop =>
    rintro D cd pre W hD ⟨k, hk, rfl⟩ ⟨⟨rfl, ⟨j, hj, hpj⟩, i1⟩, hB⟩ hK
    have hall : Ch.chk K L = 80 := by
      unfold Ch.chk Ch.allB
      rw [if_neg]
      rw [List.all_eq_true]
      intro h
      have hj' : j < k + 1 := by simpa using hj
      rw [List.getD_eq_getElem?_getD, List.getElem?_range hj'] at hpj
      have h2 := h j (by rw [List.mem_range, HL.out.len]; omega)
      have h3 : Ch.passB K L j j = false := hpj
      rw [h3] at h2
      cases h2
    gi_wp2
    refine ⟨by simp, .inl ⟨_, _, rfl, run_takeDeferred hK, ?_⟩⟩
    have hc5 := cell_kept i1.cell (grownBy_putObj' _ D (.deferred none)) (fun r e => by cases e; exact ⟨_, hK, rfl⟩)
    refine ⟨.int .i64 80, ?_, by rw [hall], hB.trans (belowK_b (w := w) (Nat.le_refl _) W D _ _ (by omega) hK rfl rfl)⟩
    simp [results, Tryd.f16, go_sem, hc5]
/-- chain.Check of few links -/
theorem check_any (K : Sh.Cst) (A : Option Addr) (n c : Nat) (L : List LkV) (w : World) (hL : Lks w w.heap.size A n L) (hn : n ≤ 1000) (hnc : n ≤ c) (hfit : ∀ x ∈ L, Ch.fit x) (hLd : Laid w) :
    Calls Tryd.prog 16 #[.slice A n c] w fun e W' => e = .returned (.int .i64 (Ch.chk K L)) ∧ Below w.heap.size w W' :=
  callsIn_wide.1 (check_in K A n c L w hL hn hnc hfit hLd)
end Go.Proofs.YtpjggokaolnbcaaDoor
