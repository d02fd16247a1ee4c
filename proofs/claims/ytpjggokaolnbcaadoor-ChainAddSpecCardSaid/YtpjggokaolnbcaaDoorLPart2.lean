/- Two links are compared. -/
import Derived.Test.YtpjggokaolnbcaaDoorLCheck
import Derived.Laws.Strings
import Derived.StillTailTactics
import Derived.BigQuiet
import Derived.OwnWalk
namespace Go.Proofs.YtpjggokaolnbcaaDoor
open Go.RowKit
set_option linter.unusedVariables false
theorem wpList_exec_val {P : Program} {ops : Array Oper} {rest : List Oper} {o : Oper} {a : Act} {w : World} {Q : Exit → Act → World → Prop} (v : Value) (hw : Region.wanted o (yielded ops a.tmps) = true)
    (hrun : (execOp a.eval o).run P w = .ok (.value v) w) (h : wpList P ops Q rest (a.put o.dst v) w) : wpList P ops Q (o :: rest) a w := by
  refine wpList_step fun K hK => ?_
  rw [if_pos hw]
  unfold Oper.wp
  rw [hrun]
  exact hK _ _ h
theorem equal_digest (w : World) (la lb : List Int) (ha : la.length = 32) (hb : lb.length = 32) :
    (Op.equalIn 10000 35 (.agg (la.map (Value.int .u8)).toArray) (.agg (lb.map (Value.int .u8)).toArray)).run Tryd.prog w = .ok (decide (la = lb)) w := by
  obtain ⟨i, hi⟩ := info_of_underlying (P := Tryd.prog) Tryd.underlying5
  rw [run_equalIn_array w 9999 _ _ Tryd.underlying35 hi, cellsOf_u8, items_u8 w 9998 la lb _ (fun j hj => by rw [List.mem_range] at hj; omega), list_eq_all ha hb]
namespace Ch
/-- are two links the same? -/
def sameV (x y : LkV) : Bool := decide (x.node = y.node ∧ x.no = y.no ∧ x.prev = y.prev ∧ x.data = y.data)
end Ch
theorem toBA_inj {l m : List Int} (hl : ∀ b ∈ l, 0 ≤ b ∧ b < 256) (hm : ∀ b ∈ m, 0 ≤ b ∧ b < 256) : toBA l = toBA m ↔ l = m :=
  ⟨fun h => by rw [← strInts_toBA hl, ← strInts_toBA hm, h], fun h => by rw [h]⟩
set_option maxRecDepth 100000 in
set_option maxHeartbeats 2000000 in
theorem samelink_any (x y : LkV) (w : World) (hx : x.ok w w.heap.size) (hy : y.ok w w.heap.size) :
    Calls Tryd.prog 18 #[.agg x.cells.toArray, .agg y.cells.toArray] w fun e w' => e = .returned (.bool (Ch.sameV x y)) ∧ Below w.heap.size w w' := by
  have hB : Below w.heap.size w ((w.alloc (.cells x.cells.toArray 37)).alloc (.cells y.cells.toArray 37)) := ((Below.refl _ w).alloc (Nat.le_refl _) _).alloc (by simp) _
  have r0 : Row ((w.alloc (.cells x.cells.toArray 37)).alloc (.cells y.cells.toArray 37)) w.heap.size 37 x.cells := Row.alloc (heap_alloc_new w _) _
  have r1 : Row ((w.alloc (.cells x.cells.toArray 37)).alloc (.cells y.cells.toArray 37)) (w.heap.size + 1) 37 y.cells := by
    have h := heap_alloc_new (w.alloc (.cells x.cells.toArray 37)) (.cells y.cells.toArray 37)
    rw [World.size_alloc] at h; exact h
  have cx := conv_text (P := Tryd.prog) (c := x.c) _ 23 9 5 Tryd.underlying23 Tryd.underlying5 Tryd.underlying9 (hx.rd.below hB)
  have cy := conv_text (P := Tryd.prog) (c := y.c) _ 23 9 5 Tryd.underlying23 Tryd.underlying5 Tryd.underlying9 (hy.rd.below hB)
  have hinj := toBA_inj hx.dbyt hy.dbyt
  have p0 := fun i hi => r0.cell (x.cell_p hx.plen i hi)
  have p1 := fun i hi => r1.cell (y.cell_p hy.plen i hi)
  have q0 := r0.cell x.cell_n
  have q1 := r1.cell y.cell_n
  have q2 := r0.cell x.cell_o
  have q3 := r1.cell y.cell_o
  have q4 := r0.cell (x.cell_d hx.plen)
  have q5 := r1.cell (y.cell_d hy.plen)
  have hlx := hx.plen
  have hly := hy.plen
  unfold Ch.sameV
  generalize toBA x.data = SX at cx hinj
  generalize toBA y.data = SY at cy hinj
  have c0 := ints_cells (o := 2) (k := .u8) (l := x.prev) (fun i hi => by rw [hlx] at hi; exact p0 i hi)
  have c1 := ints_cells (o := 2) (k := .u8) (l := y.prev) (fun i hi => by rw [hly] at hi; exact p1 i hi)
  clear p0 p1 r0 r1
  have heq := fun w => equal_digest w x.prev y.prev hlx hly
  have hix : (Tryd.prog.info? 35).map (·.size) = some (x.prev.map (Value.int .u8)).length := by rw [List.length_map, hlx]; kernel_rfl
  have hiy : (Tryd.prog.info? 35).map (·.size) = some (y.prev.map (Value.int .u8)).length := by rw [List.length_map, hly]; kernel_rfl
  obtain ⟨XN, hXN⟩ : ∃ X, x.node = X := ⟨_, rfl⟩
  obtain ⟨YN, hYN⟩ : ∃ X, y.node = X := ⟨_, rfl⟩
  obtain ⟨XO, hXO⟩ : ∃ X, x.no = X := ⟨_, rfl⟩
  obtain ⟨YO, hYO⟩ : ∃ X, y.no = X := ⟨_, rfl⟩
  obtain ⟨XP, hXP⟩ : ∃ X, x.prev = X := ⟨_, rfl⟩
  obtain ⟨YP, hYP⟩ : ∃ X, y.prev = X := ⟨_, rfl⟩
  obtain ⟨XC, hXC⟩ : ∃ XC, x.cells = XC := ⟨_, rfl⟩
  obtain ⟨YC, hYC⟩ : ∃ YC, y.cells = YC := ⟨_, rfl⟩
  have HP := Lib.hid (And.intro c0 (And.intro c1 (And.intro hix hiy)))
  have HJ := Lib.hid hinj
  have HB := Lib.hid hB
  clear c0 c1 hix hiy hinj hlx hly hx hy hB
  rw [hXC, hYC] at cx cy q0 q1 q2 q3 q4 q5 HP HB ⊢
  rw [hXN] at q0 ⊢
  rw [hYN] at q1 ⊢
  rw [hXO] at q2 ⊢
  rw [hYO] at q3 ⊢
  rw [hXP, hYP] at heq HP ⊢
  clear hXC hYC hXN hYN hXO hYO hXP hYP
  by_cases h1 : XN = YN
  · subst h1
    by_cases h2 : XO = YO
    · subst h2
      by_cases h3 : XP = YP
      · subst h3
        rw [decide_eq_true rfl] at heq
        by_cases h4 : SX = SY
        · subst h4
          have h5 := HJ.out.1 rfl
          have HG := Lib.hid h5
          clear h5 HJ
          go_enter Tryd.func18, Tryd.ntmps18
          go_wp2_with (first
            | (refine wpList_exec_val (.agg (XP.map (Value.int .u8)).toArray) (by rfl) (run_load_exec 35 (.tmp 18) rfl ⟨w.heap.size, 2, none⟩ (by rfl) (XP.map (Value.int .u8)) _ HP.out.1 Tryd.underlying35 (by rfl) HP.out.2.2.1) ?_)
            | (refine wpList_exec_val (.agg (XP.map (Value.int .u8)).toArray) (by rfl) (run_load_exec 35 (.tmp 20) rfl ⟨w.heap.size + 1, 2, none⟩ (by rfl) (XP.map (Value.int .u8)) _ HP.out.2.1 Tryd.underlying35 (by rfl) HP.out.2.2.2) ?_)
            | fail)
          go_ret
          exact ⟨by simp [HG.out], HB.out⟩
        · have h5 := fun h => h4 (HJ.out.2 h)
          have h6 : (SX.toList == SY.toList) = false := beq_eq_false_iff_ne.2 (fun h => h4 (by rw [ByteArray.toList_eq, ByteArray.toList_eq] at h; exact ByteArray.ext (Array.toList_inj.1 h)))
          go_enter Tryd.func18, Tryd.ntmps18
          go_wp2_with (first
            | (refine wpList_exec_val (.agg (XP.map (Value.int .u8)).toArray) (by rfl) (run_load_exec 35 (.tmp 18) rfl ⟨w.heap.size, 2, none⟩ (by rfl) (XP.map (Value.int .u8)) _ HP.out.1 Tryd.underlying35 (by rfl) HP.out.2.2.1) ?_)
            | (refine wpList_exec_val (.agg (XP.map (Value.int .u8)).toArray) (by rfl) (run_load_exec 35 (.tmp 20) rfl ⟨w.heap.size + 1, 2, none⟩ (by rfl) (XP.map (Value.int .u8)) _ HP.out.2.1 Tryd.underlying35 (by rfl) HP.out.2.2.2) ?_)
            | fail)
          go_ret
          exact ⟨by simp; exact h5, HB.out⟩
      · rw [decide_eq_false h3] at heq
        go_enter Tryd.func18, Tryd.ntmps18
        go_wp2_with (first
          | (refine wpList_exec_val (.agg (XP.map (Value.int .u8)).toArray) (by rfl) (run_load_exec 35 (.tmp 18) rfl ⟨w.heap.size, 2, none⟩ (by rfl) (XP.map (Value.int .u8)) _ HP.out.1 Tryd.underlying35 (by rfl) HP.out.2.2.1) ?_)
          | (refine wpList_exec_val (.agg (YP.map (Value.int .u8)).toArray) (by rfl) (run_load_exec 35 (.tmp 20) rfl ⟨w.heap.size + 1, 2, none⟩ (by rfl) (YP.map (Value.int .u8)) _ HP.out.2.1 Tryd.underlying35 (by rfl) HP.out.2.2.2) ?_)
          | fail)
        go_ret
        exact ⟨by simp, HB.out⟩
    · go_enter Tryd.func18, Tryd.ntmps18
      go_wp2
      go_ret
      exact ⟨by simp, HB.out⟩
  · go_enter Tryd.func18, Tryd.ntmps18
    go_wp2
    go_ret
    exact ⟨by simp, HB.out⟩
end Go.Proofs.YtpjggokaolnbcaaDoor
/- Two links are compared by chain.Part's function. -/
namespace Go.Proofs.YtpjggokaolnbcaaDoor
open Go.RowKit
set_option linter.unusedVariables false
theorem equal_any {B : Nat} (A A' : Option Addr) (c c' : Nat) (l m : List Int) (w : World) (hl : Rd w B 1 A l.length (l.map (Value.int .u8))) (hm : Rd w B 1 A' m.length (m.map (Value.int .u8))) (bl : ∀ b ∈ l, 0 ≤ b ∧ b < 256) (bm : ∀ b ∈ m, 0 ≤ b ∧ b < 256) :
    Calls Tryd.prog 25 #[.slice A l.length c, .slice A' m.length c'] w fun e w' => e = .returned (.bool (decide (l = m))) ∧ w' = w := by
  have cx := conv_text (P := Tryd.prog) (c := c) _ 23 9 5 Tryd.underlying23 Tryd.underlying5 Tryd.underlying9 hl
  have cy := conv_text (P := Tryd.prog) (c := c') _ 23 9 5 Tryd.underlying23 Tryd.underlying5 Tryd.underlying9 hm
  have hinj := toBA_inj bl bm
  have hj : ((toBA l).toList == (toBA m).toList) = decide (l = m) := by
    rw [Bool.eq_iff_iff, beq_iff_eq, decide_eq_true_eq, ← hinj]
    exact ⟨fun h => by rw [ByteArray.toList_eq, ByteArray.toList_eq] at h; exact ByteArray.ext (Array.toList_inj.1 h), fun h => by rw [h]⟩
  generalize decide (l = m) = D at hj ⊢
  generalize toBA l = SX at cx hj
  generalize toBA m = SY at cy hj
  clear hinj hl hm bl bm
  go_enter Tryd.func25, Tryd.ntmps25
  go_wp2
  go_ret
  exact ⟨by simp, rfl⟩
set_option maxRecDepth 100000 in
set_option maxHeartbeats 2000000 in
theorem partsame_any (x y : LkV) (w : World) (hx : x.ok w w.heap.size) (hy : y.ok w w.heap.size) :
    Calls Tryd.prog 24 #[.agg x.cells.toArray, .agg y.cells.toArray] w fun e w' => e = .returned (.bool (Ch.sameV x y)) ∧ Below w.heap.size w w' := by
  have hB : Below w.heap.size w ((w.alloc (.cells x.cells.toArray 37)).alloc (.cells y.cells.toArray 37)) := ((Below.refl _ w).alloc (Nat.le_refl _) _).alloc (by simp) _
  have r0 : Row ((w.alloc (.cells x.cells.toArray 37)).alloc (.cells y.cells.toArray 37)) w.heap.size 37 x.cells := Row.alloc (heap_alloc_new w _) _
  have r1 : Row ((w.alloc (.cells x.cells.toArray 37)).alloc (.cells y.cells.toArray 37)) (w.heap.size + 1) 37 y.cells := by
    have h := heap_alloc_new (w.alloc (.cells x.cells.toArray 37)) (.cells y.cells.toArray 37)
    rw [World.size_alloc] at h; exact h
  have he := equal_any x.A y.A x.c y.c x.data y.data _ (hx.rd.below hB) (hy.rd.below hB) hx.dbyt hy.dbyt
  have p0 := fun i hi => r0.cell (x.cell_p hx.plen i hi)
  have p1 := fun i hi => r1.cell (y.cell_p hy.plen i hi)
  have q0 := r0.cell x.cell_n
  have q1 := r1.cell y.cell_n
  have q2 := r0.cell x.cell_o
  have q3 := r1.cell y.cell_o
  have q4 := r0.cell (x.cell_d hx.plen)
  have q5 := r1.cell (y.cell_d hy.plen)
  have hlx := hx.plen
  have hly := hy.plen
  unfold Ch.sameV
  have c0 := ints_cells (o := 2) (k := .u8) (l := x.prev) (fun i hi => by rw [hlx] at hi; exact p0 i hi)
  have c1 := ints_cells (o := 2) (k := .u8) (l := y.prev) (fun i hi => by rw [hly] at hi; exact p1 i hi)
  clear p0 p1 r0 r1
  have heq := fun w => equal_digest w x.prev y.prev hlx hly
  have hix : (Tryd.prog.info? 35).map (·.size) = some (x.prev.map (Value.int .u8)).length := by rw [List.length_map, hlx]; kernel_rfl
  have hiy : (Tryd.prog.info? 35).map (·.size) = some (y.prev.map (Value.int .u8)).length := by rw [List.length_map, hly]; kernel_rfl
  obtain ⟨XN, hXN⟩ : ∃ X, x.node = X := ⟨_, rfl⟩
  obtain ⟨YN, hYN⟩ : ∃ X, y.node = X := ⟨_, rfl⟩
  obtain ⟨XO, hXO⟩ : ∃ X, x.no = X := ⟨_, rfl⟩
  obtain ⟨YO, hYO⟩ : ∃ X, y.no = X := ⟨_, rfl⟩
  obtain ⟨XP, hXP⟩ : ∃ X, x.prev = X := ⟨_, rfl⟩
  obtain ⟨YP, hYP⟩ : ∃ X, y.prev = X := ⟨_, rfl⟩
  obtain ⟨XC, hXC⟩ : ∃ XC, x.cells = XC := ⟨_, rfl⟩
  obtain ⟨YC, hYC⟩ : ∃ YC, y.cells = YC := ⟨_, rfl⟩
  have HP := Lib.hid (And.intro c0 (And.intro c1 (And.intro hix hiy)))
  have HJ := Lib.hid he
  have HB := Lib.hid hB
  clear c0 c1 hix hiy he hlx hly hx hy hB
  rw [hXC, hYC] at HJ q0 q1 q2 q3 q4 q5 HP HB ⊢
  rw [hXN] at q0 ⊢
  rw [hYN] at q1 ⊢
  rw [hXO] at q2 ⊢
  rw [hYO] at q3 ⊢
  rw [hXP, hYP] at heq HP ⊢
  clear hXC hYC hXN hYN hXO hYO hXP hYP
  by_cases h1 : XN = YN
  · subst h1
    by_cases h2 : XO = YO
    · subst h2
      by_cases h3 : XP = YP
      · subst h3
        rw [decide_eq_true rfl] at heq
        go_enter Tryd.func24, Tryd.ntmps24
        go_wp2_with (first
          | (refine wpList_exec_val (.agg (XP.map (Value.int .u8)).toArray) (by rfl) (run_load_exec 35 (.tmp 18) rfl ⟨w.heap.size, 2, none⟩ (by rfl) (XP.map (Value.int .u8)) _ HP.out.1 Tryd.underlying35 (by rfl) HP.out.2.2.1) ?_)
          | (refine wpList_exec_val (.agg (XP.map (Value.int .u8)).toArray) (by rfl) (run_load_exec 35 (.tmp 20) rfl ⟨w.heap.size + 1, 2, none⟩ (by rfl) (XP.map (Value.int .u8)) _ HP.out.2.1 Tryd.underlying35 (by rfl) HP.out.2.2.2) ?_)
          | fail)
        refine HJ.out.mono ?_
        rintro e w' ⟨rfl, rfl⟩
        go_wp2
        go_ret
        exact ⟨by simp, HB.out⟩
      · rw [decide_eq_false h3] at heq
        go_enter Tryd.func24, Tryd.ntmps24
        go_wp2_with (first
          | (refine wpList_exec_val (.agg (XP.map (Value.int .u8)).toArray) (by rfl) (run_load_exec 35 (.tmp 18) rfl ⟨w.heap.size, 2, none⟩ (by rfl) (XP.map (Value.int .u8)) _ HP.out.1 Tryd.underlying35 (by rfl) HP.out.2.2.1) ?_)
          | (refine wpList_exec_val (.agg (YP.map (Value.int .u8)).toArray) (by rfl) (run_load_exec 35 (.tmp 20) rfl ⟨w.heap.size + 1, 2, none⟩ (by rfl) (YP.map (Value.int .u8)) _ HP.out.2.1 Tryd.underlying35 (by rfl) HP.out.2.2.2) ?_)
          | fail)
        go_ret
        exact ⟨by simp, HB.out⟩
    · go_enter Tryd.func24, Tryd.ntmps24
      go_wp2
      go_ret
      exact ⟨by simp, HB.out⟩
  · go_enter Tryd.func24, Tryd.ntmps24
    go_wp2
    go_ret
    exact ⟨by simp, HB.out⟩
end Go.Proofs.YtpjggokaolnbcaaDoor
/- Few; Same. -/
namespace Go.Proofs.YtpjggokaolnbcaaDoor
open Go.RowKit
attribute [local go_sem] Oper.semAt_some
set_option linter.unusedVariables false
theorem wpStill_val {P : Program} {ops : Array Oper} {rest : List Oper} {o : Oper} {a : Act} {w : World} {Q : Act → Prop} (v : Value) (hw : Region.wanted o (yielded ops a.tmps) = true)
    (hrun : (execOp a.eval o).run P w = .ok (.value v) w) (h : wpStill P ops w Q rest (a.put o.dst v)) : wpStill P ops w Q (o :: rest) a :=
  wpStill_step fun K hK => by
    rw [if_pos hw]
    unfold Oper.still
    rw [hrun, Oper.stillUpon_value]
    exact hK _ h
namespace Ch
/-- are the links few and small? -/
def few (L : List LkV) : Bool := decide (L.length ≤ 16 ∧ ∀ x ∈ L, x.data.length ≤ 300)
/-- are two chains the same? -/
def sameL (L M : List LkV) : Bool := decide (L.length = M.length ∧ ∀ j, j < L.length → sameV (gk L j) (gk M j) = true)
theorem gk_mem {L : List LkV} {k : Nat} (hk : k < L.length) : gk L k ∈ L ∧ L[k]? = some (gk L k) := by
  have : gk L k = L[k] := by unfold gk; rw [List.getD_eq_getElem?_getD, List.getElem?_eq_getElem hk]; rfl
  rw [this]
  exact ⟨List.getElem_mem hk, List.getElem?_eq_getElem hk⟩
def fewTo (L : List LkV) (k : Nat) : Prop := ∀ j, j < k → (gk L j).data.length ≤ 300
theorem fewTo_next {L : List LkV} {k : Nat} (h : fewTo L k) (hk : (gk L k).data.length ≤ 300) : fewTo L (k + 1) := fun j hj => by
  by_cases e : j = k
  · rw [e]; exact hk
  · exact h j (by omega)
theorem fewTo_end {L : List LkV} (hl : L.length ≤ 16) (h : fewTo L L.length) : few L = true := by
  unfold few
  refine decide_eq_true ⟨hl, fun x hx => ?_⟩
  obtain ⟨j, hj, rfl⟩ := List.getElem_of_mem hx
  have h2 := (gk_mem hj).2
  rw [List.getElem?_eq_getElem hj] at h2
  injection h2 with h2
  rw [h2]
  exact h j hj
theorem few_not {L : List LkV} {k : Nat} (hk : k < L.length) (h : ¬ (gk L k).data.length ≤ 300) : few L = false :=
  decide_eq_false fun hh => h (hh.2 _ (gk_mem hk).1)
def sameTo (L M : List LkV) (k : Nat) : Prop := ∀ j, j < k → sameV (gk L j) (gk M j) = true
theorem sameTo_next {L M : List LkV} {k : Nat} (h : sameTo L M k) (hk : sameV (gk L k) (gk M k) = true) : sameTo L M (k + 1) := fun j hj => by
  by_cases e : j = k
  · rw [e]; exact hk
  · exact h j (by omega)
end Ch
set_option maxRecDepth 100000 in
set_option maxHeartbeats 2000000 in
theorem few_any (A : Option Addr) (n c : Nat) (L : List LkV) (w : World) (hL : Lks w w.heap.size A n L) :
    Calls Tryd.prog 9 #[.slice A n c] w fun e w' => e = .returned (.bool (Ch.few L)) ∧ w' = w := by
  have HN : Hid (L.length = n) := hL.len
  by_cases hn : n ≤ 16
  · have hn1 : ¬ (16 : Int) < (n : Int) := by omega
    have hn2 : (n : Int) ≤ 16 := by omega
    go_enter Tryd.func9, Tryd.ntmps9
    go_wp2
    go_loopw [3] (fun i wr => w = wr ∧ ∃ k : Nat, k ≤ n ∧ i = .int .i64 k ∧ Ch.fewTo L k) (fun i _ => n - (intOf i).toNat)
    case atStart => exact ⟨rfl, 0, Nat.zero_le _, rfl, fun j hj => absurd hj (by omega)⟩
    case round =>
      obtain ⟨rfl, k, hk, rfl, hu⟩ := hrel
      by_cases hlt : k < n
      · obtain ⟨b, o, rfl, hb, hc⟩ := hL.at (Ch.gk_mem (L := L) (k := k) (by rw [HN.out]; exact hlt)).2
        have hd := hc 34 _ (LkV.cell_d _ (hL.all _ (Ch.gk_mem (L := L) (k := k) (by rw [HN.out]; exact hlt)).1).plen)
        have hk3 : (0 : Int) ≤ (k : Int) := by omega
        have hk4 : (k : Int) < (n : Int) := by omega
        obtain ⟨d, hdl⟩ : ∃ d, (Ch.gk L k).data.length = d := ⟨_, rfl⟩
        rw [hdl] at hd
        clear hc
        by_cases h3 : d ≤ 300
        · have HG : Hid (Ch.fewTo L (k + 1)) := Ch.fewTo_next hu (by rw [hdl]; exact h3)
          have h4 : ¬ (300 : Int) < (d : Int) := by omega
          have h5 : (d : Int) ≤ 300 := by omega
          clear hdl
          go_wp2
          go_roundw
          case rel => exact ⟨trivial, k + 1, by omega, by go_num, HG.out⟩
          case measure => simp [intOf]; omega
        · have HG : Hid (Ch.few L = false) := Ch.few_not (L := L) (k := k) (by rw [HN.out]; exact hlt) (by rw [hdl]; exact h3)
          have h4 : (300 : Int) < (d : Int) := by omega
          clear hdl
          go_wp2
          go_ret
          exact ⟨by rw [HG.out]; rfl, rfl⟩
      · obtain rfl : k = n := by omega
        go_wp2
        go_ret
        exact ⟨by rw [Ch.fewTo_end (by rw [HN.out]; exact hn) (by rw [HN.out]; exact hu)]; rfl, rfl⟩
  · have hn1 : (16 : Int) < (n : Int) := by omega
    have HG : Hid (Ch.few L = false) := by
      show _ = _
      exact decide_eq_false fun hh => hn (by have := hh.1; rw [HN.out] at this; exact this)
    go_enter Tryd.func9, Tryd.ntmps9
    go_wp2
    go_ret
    exact ⟨by rw [HG.out]; rfl, rfl⟩
set_option maxRecDepth 100000 in
set_option maxHeartbeats 2000000 in
theorem same_any (A A' : Option Addr) (n n' c c' : Nat) (L M : List LkV) (w : World) (hL : Lks w w.heap.size A n L) (hM : Lks w w.heap.size A' n' M) (hn : n ≤ 100000) :
    Calls Tryd.prog 14 #[.slice A n c, .slice A' n' c'] w fun e w' => e = .returned (.bool (Ch.sameL L M)) ∧ Below w.heap.size w w' := by
  have HN : Hid (L.length = n) := hL.len
  have HN' : Hid (M.length = n') := hM.len
  by_cases hnn : n = n'
  · subst hnn
    go_enter Tryd.func14, Tryd.ntmps14
    go_wp2
    go_loopw [5] (fun i wr => ∃ k : Nat, k ≤ n ∧ i = .int .i64 k ∧ Ch.sameTo L M k ∧ Below w.heap.size w wr) (fun i _ => n - (intOf i).toNat)
    case atStart => exact ⟨0, Nat.zero_le _, rfl, fun j hj => absurd hj (by omega), Below.refl _ _⟩
    case round =>
      obtain ⟨k, hk, rfl, hu, hB⟩ := hrel
      by_cases hlt : k < n
      · have hmL := Ch.gk_mem (L := L) (k := k) (by rw [HN.out]; exact hlt)
        have hmM := Ch.gk_mem (L := M) (k := k) (by rw [HN'.out]; exact hlt)
        have hLw := hL.below hB
        have hMw := hM.below hB
        obtain ⟨b, o, rfl, hb, hc⟩ := hLw.at hmL.2
        obtain ⟨b', o', rfl, hb', hc'⟩ := hMw.at hmM.2
        have hoL := (hLw.all _ hmL.1).more hB.size
        have hoM := (hMw.all _ hmM.1).more hB.size
        have hk3 : (0 : Int) ≤ (k : Int) := by omega
        have hk4 : (k : Int) < (n : Int) := by omega
        have hs := fun w' (hB' : Below wr.heap.size wr w') => samelink_any (Ch.gk L k) (Ch.gk M k) w' ((hoL.below hB').more hB'.size) ((hoM.below hB').more hB'.size)
        have hx1 : ∀ (j : Nat) (v : Value), (Ch.gk L k).cells[j]? = some v → wr.cell? ((⟨b, o + k * 35, none⟩ : Addr).add j) = some v := fun j v hv => by
          rw [Addr.add_flat]; exact hc j v hv
        have hx2 : ∀ (j : Nat) (v : Value), (Ch.gk M k).cells[j]? = some v → wr.cell? ((⟨b', o' + k * 35, none⟩ : Addr).add j) = some v := fun j v hv => by
          rw [Addr.add_flat]; exact hc' j v hv
        have hlx := LkV.cells_length hoL
        have hly := LkV.cells_length hoM
        have hix : (Tryd.prog.info? 37).map (·.size) = some (Ch.gk L k).cells.length := by rw [hlx]; exact info_link
        have hiy : (Tryd.prog.info? 37).map (·.size) = some (Ch.gk M k).cells.length := by rw [hly]; exact info_link
        obtain ⟨s, hsv⟩ : ∃ s, Ch.sameV (Ch.gk L k) (Ch.gk M k) = s := ⟨_, rfl⟩
        rw [hsv] at hs
        generalize (Ch.gk L k).cells = CX at hs hx1 hix
        generalize (Ch.gk M k).cells = CY at hs hx2 hiy
        have HP := Lib.hid (And.intro hx1 (And.intro hx2 (And.intro hix hiy)))
        have HS := Lib.hid hs
        have HV := Lib.hid hsv
        have HB := Lib.hid hB
        clear hs hx1 hx2 hix hiy hc hc' hsv hlx hly hoL hoM hmL hmM hLw hMw
        cases s with
        | true =>
          have HG : Hid (Ch.sameTo L M (k + 1)) := Ch.sameTo_next hu HV.out
          go_wp2
          go_still_tail 8, (by kernel_rfl)
          refine wpStill_val (.agg CX.toArray) (by rfl) (run_load_exec 37 (.tmp 19) rfl ⟨b, o + k * 35, none⟩ (by rfl) CX _ (fun j v hv => HP.out.1 j v hv) Tryd.underlying37 (by rfl) HP.out.2.2.1) ?_
          repeat still_step
          refine wpStill_val (.agg CY.toArray) (by rfl) (run_load_exec 37 (.tmp 23) rfl ⟨b', o' + k * 35, none⟩ (by rfl) CY _ (fun j v hv => HP.out.2.1 j v hv) Tryd.underlying37 (by rfl) HP.out.2.2.2) ?_
          refine wpStill_nil ?_
          change wpList _ _ _ _ _ wr.drew
          go_wp2_with fail
          refine (HS.out _ ((Below.refl _ wr).drew)).mono ?_
          rintro e w4 ⟨rfl, hb⟩
          have HB4 := Lib.hid (HB.out.trans ((((Below.refl wr.heap.size wr).drew).trans hb).mono HB.out.size))
          go_wp2
          go_roundw
          case rel => exact ⟨k + 1, by omega, by go_num, HG.out, HB4.out⟩
          case measure => simp [intOf]; omega
        | false =>
          have HG : Hid (Ch.sameL L M = false) := by
            show _ = _
            exact decide_eq_false fun hh => by have := hh.2 k (by rw [HN.out]; exact hlt); rw [HV.out] at this; cases this
          go_wp2
          go_still_tail 8, (by kernel_rfl)
          refine wpStill_val (.agg CX.toArray) (by rfl) (run_load_exec 37 (.tmp 19) rfl ⟨b, o + k * 35, none⟩ (by rfl) CX _ (fun j v hv => HP.out.1 j v hv) Tryd.underlying37 (by rfl) HP.out.2.2.1) ?_
          repeat still_step
          refine wpStill_val (.agg CY.toArray) (by rfl) (run_load_exec 37 (.tmp 23) rfl ⟨b', o' + k * 35, none⟩ (by rfl) CY _ (fun j v hv => HP.out.2.1 j v hv) Tryd.underlying37 (by rfl) HP.out.2.2.2) ?_
          refine wpStill_nil ?_
          change wpList _ _ _ _ _ wr.drew
          go_wp2_with fail
          refine (HS.out _ ((Below.refl _ wr).drew)).mono ?_
          rintro e w4 ⟨rfl, hb⟩
          have HB4 := Lib.hid (HB.out.trans ((((Below.refl wr.heap.size wr).drew).trans hb).mono HB.out.size))
          go_wp2
          go_ret
          exact ⟨by rw [HG.out]; rfl, HB4.out⟩
      · obtain rfl : k = n := by omega
        go_wp2
        go_ret
        exact ⟨by rw [show Ch.sameL L M = true from decide_eq_true ⟨by rw [HN.out, HN'.out], by rw [HN.out]; exact hu⟩]; rfl, hB⟩
  · have hn1 : ((n : Int) == (n' : Int)) = false := by simp; omega
    have HG : Hid (Ch.sameL L M = false) := by
      show _ = _
      exact decide_eq_false fun hh => hnn (by have := hh.1; rw [HN.out, HN'.out] at this; exact this)
    go_enter Tryd.func14, Tryd.ntmps14
    go_wp2
    go_ret
    exact ⟨by rw [HG.out]; rfl, Below.refl _ _⟩
end Go.Proofs.YtpjggokaolnbcaaDoor
/- Where two chains part. -/
namespace Go.Proofs.YtpjggokaolnbcaaDoor
open Go.RowKit
attribute [local go_sem] Oper.semAt_some
set_option linter.unusedVariables false
namespace Ch
/-- the first place where two lists differ, below m -/
def firstTo (L M : List LkV) (m : Nat) : Option Nat := (List.range m).find? fun k => !sameV (gk L k) (gk M k)
theorem firstTo_none {L M : List LkV} {m : Nat} (h : sameTo L M m) : firstTo L M m = none := by
  unfold firstTo
  rw [List.find?_eq_none]
  intro k hk
  rw [List.mem_range] at hk
  simp [h k hk]
theorem firstTo_some {L M : List LkV} {k m : Nat} (h : sameTo L M k) (hk : k < m) (hf : sameV (gk L k) (gk M k) = false) : firstTo L M m = some k := by
  obtain ⟨d, rfl⟩ : ∃ d, m = k + (d + 1) := ⟨m - k - 1, by omega⟩
  have h0 := firstTo_none h
  unfold firstTo at h0 ⊢
  rw [List.range_add, List.find?_append, h0, List.range_succ_eq_map]
  simp [hf]
def differ (L M : List LkV) : Option Nat := firstTo L M (min L.length M.length)
def differV (o : Option Nat) : Value := .tuple #[.int .i64 (o.getD 0 : Nat), .bool o.isSome]
end Ch
set_option maxRecDepth 100000 in
set_option maxHeartbeats 2000000 in
theorem differ_lt (A A' : Option Addr) (n n' c c' : Nat) (L M : List LkV) (w : World) (hL : Lks w w.heap.size A n L) (hM : Lks w w.heap.size A' n' M) (hn : n ≤ 100000) (hn' : n' ≤ 100000) (hcmp : n' < n) :
    Calls Tryd.prog 23 #[.slice A n c, .slice A' n' c', .func (.func 24) #[] #[]] w fun e w' => e = .returned (Ch.differV (Ch.differ L M)) ∧ Below w.heap.size w w' := by
  have hm : min n n' = n' := by omega
  have hm1 : n' ≤ n := by omega
  have hm2 : n' ≤ n' := by omega
  have HN : Hid (L.length = n) := hL.len
  have HN' : Hid (M.length = n') := hM.len
  have HD : Hid (Ch.differ L M = Ch.firstTo L M n') := by show _ = _; unfold Ch.differ; rw [HN.out, HN'.out, hm]
  go_enter Tryd.func23, Tryd.ntmps23
  go_wp2
  go_loopw [14] (fun i wr => ∃ k : Nat, k ≤ n' ∧ i = .int .i64 k ∧ Ch.sameTo L M k ∧ Below w.heap.size w wr) (fun i _ => n' - (intOf i).toNat)
  case atStart => exact ⟨0, Nat.zero_le _, rfl, fun j hj => absurd hj (by omega), Below.refl _ _⟩
  case round =>
    obtain ⟨k, hk, rfl, hu, hB⟩ := hrel
    by_cases hlt : k < n'
    · have hmL := Ch.gk_mem (L := L) (k := k) (by rw [HN.out]; omega)
      have hmM := Ch.gk_mem (L := M) (k := k) (by rw [HN'.out]; omega)
      have hLw := hL.below hB
      have hMw := hM.below hB
      obtain ⟨b, o, rfl, hb, hc⟩ := hLw.at hmL.2
      obtain ⟨b', o', rfl, hb', hc'⟩ := hMw.at hmM.2
      have hoL := (hLw.all _ hmL.1).more hB.size
      have hoM := (hMw.all _ hmM.1).more hB.size
      have hk3 : (0 : Int) ≤ (k : Int) := by omega
      have hk4 : (k : Int) < (n : Int) := by omega
      have hk5 : (k : Int) < (n' : Int) := by omega
      have hk6 : (k : Int) < (n' : Int) := by omega
      have hs := fun w' (hB' : Below wr.heap.size wr w') => partsame_any (Ch.gk L k) (Ch.gk M k) w' ((hoL.below hB').more hB'.size) ((hoM.below hB').more hB'.size)
      have hx1 : ∀ (j : Nat) (v : Value), (Ch.gk L k).cells[j]? = some v → wr.cell? ((⟨b, o + k * 35, none⟩ : Addr).add j) = some v := fun j v hv => by
        rw [Addr.add_flat]; exact hc j v hv
      have hx2 : ∀ (j : Nat) (v : Value), (Ch.gk M k).cells[j]? = some v → wr.cell? ((⟨b', o' + k * 35, none⟩ : Addr).add j) = some v := fun j v hv => by
        rw [Addr.add_flat]; exact hc' j v hv
      have hlx := LkV.cells_length hoL
      have hly := LkV.cells_length hoM
      have hix : (Tryd.prog.info? 37).map (·.size) = some (Ch.gk L k).cells.length := by rw [hlx]; exact info_link
      have hiy : (Tryd.prog.info? 37).map (·.size) = some (Ch.gk M k).cells.length := by rw [hly]; exact info_link
      obtain ⟨s, hsv⟩ : ∃ s, Ch.sameV (Ch.gk L k) (Ch.gk M k) = s := ⟨_, rfl⟩
      rw [hsv] at hs
      generalize (Ch.gk L k).cells = CX at hs hx1 hix
      generalize (Ch.gk M k).cells = CY at hs hx2 hiy
      have HP := Lib.hid (And.intro hx1 (And.intro hx2 (And.intro hix hiy)))
      have HS := Lib.hid hs
      have HV := Lib.hid hsv
      have HB := Lib.hid hB
      clear hs hx1 hx2 hix hiy hc hc' hsv hlx hly hoL hoM hmL hmM hLw hMw
      cases s with
      | true =>
        have HG : Hid (Ch.sameTo L M (k + 1)) := Ch.sameTo_next hu HV.out
        go_wp2
        go_still_tail 9, (by kernel_rfl)
        refine wpStill_val (.agg CX.toArray) (by rfl) (run_load_exec 37 (.tmp 20) rfl ⟨b, o + k * 35, none⟩ (by rfl) CX _ (fun j v hv => HP.out.1 j v hv) Tryd.underlying37 (by rfl) HP.out.2.2.1) ?_
        repeat still_step
        refine wpStill_val (.agg CY.toArray) (by rfl) (run_load_exec 37 (.tmp 24) rfl ⟨b', o' + k * 35, none⟩ (by rfl) CY _ (fun j v hv => HP.out.2.1 j v hv) Tryd.underlying37 (by rfl) HP.out.2.2.2) ?_
        refine wpStill_nil ?_
        change wpList _ _ _ _ _ wr.drew
        go_wp2_with fail
        refine (HS.out _ ((Below.refl _ wr).drew)).mono ?_
        rintro e w4 ⟨rfl, hb⟩
        have HB4 := Lib.hid (HB.out.trans ((((Below.refl wr.heap.size wr).drew).trans hb).mono HB.out.size))
        go_wp2
        go_roundw
        case rel => exact ⟨k + 1, by omega, by go_num, HG.out, HB4.out⟩
        case measure => simp [intOf]; omega
      | false =>
        have HG : Hid (Ch.differ L M = some k) := by
          show _ = _
          rw [HD.out]
          exact Ch.firstTo_some hu hlt HV.out
        go_wp2
        go_still_tail 9, (by kernel_rfl)
        refine wpStill_val (.agg CX.toArray) (by rfl) (run_load_exec 37 (.tmp 20) rfl ⟨b, o + k * 35, none⟩ (by rfl) CX _ (fun j v hv => HP.out.1 j v hv) Tryd.underlying37 (by rfl) HP.out.2.2.1) ?_
        repeat still_step
        refine wpStill_val (.agg CY.toArray) (by rfl) (run_load_exec 37 (.tmp 24) rfl ⟨b', o' + k * 35, none⟩ (by rfl) CY _ (fun j v hv => HP.out.2.1 j v hv) Tryd.underlying37 (by rfl) HP.out.2.2.2) ?_
        refine wpStill_nil ?_
        change wpList _ _ _ _ _ wr.drew
        go_wp2_with fail
        refine (HS.out _ ((Below.refl _ wr).drew)).mono ?_
        rintro e w4 ⟨rfl, hb⟩
        have HB4 := Lib.hid (HB.out.trans ((((Below.refl wr.heap.size wr).drew).trans hb).mono HB.out.size))
        go_wp2
        go_ret2
        exact ⟨by rw [HG.out]; rfl, HB4.out⟩
    · obtain rfl : n' = k := by omega
      go_wp2
      go_ret2
      exact ⟨by rw [HD.out, Ch.firstTo_none hu]; rfl, hB⟩
set_option maxRecDepth 100000 in
set_option maxHeartbeats 2000000 in
theorem differ_ge (A A' : Option Addr) (n n' c c' : Nat) (L M : List LkV) (w : World) (hL : Lks w w.heap.size A n L) (hM : Lks w w.heap.size A' n' M) (hn : n ≤ 100000) (hn' : n' ≤ 100000) (hcmp : ¬ n' < n) :
    Calls Tryd.prog 23 #[.slice A n c, .slice A' n' c', .func (.func 24) #[] #[]] w fun e w' => e = .returned (Ch.differV (Ch.differ L M)) ∧ Below w.heap.size w w' := by
  have hm : min n n' = n := by omega
  have hm1 : n ≤ n := by omega
  have hm2 : n ≤ n' := by omega
  have HN : Hid (L.length = n) := hL.len
  have HN' : Hid (M.length = n') := hM.len
  have HD : Hid (Ch.differ L M = Ch.firstTo L M n) := by show _ = _; unfold Ch.differ; rw [HN.out, HN'.out, hm]
  go_enter Tryd.func23, Tryd.ntmps23
  go_wp2
  go_loopw [14] (fun i wr => ∃ k : Nat, k ≤ n ∧ i = .int .i64 k ∧ Ch.sameTo L M k ∧ Below w.heap.size w wr) (fun i _ => n - (intOf i).toNat)
  case atStart => exact ⟨0, Nat.zero_le _, rfl, fun j hj => absurd hj (by omega), Below.refl _ _⟩
  case round =>
    obtain ⟨k, hk, rfl, hu, hB⟩ := hrel
    by_cases hlt : k < n
    · have hmL := Ch.gk_mem (L := L) (k := k) (by rw [HN.out]; omega)
      have hmM := Ch.gk_mem (L := M) (k := k) (by rw [HN'.out]; omega)
      have hLw := hL.below hB
      have hMw := hM.below hB
      obtain ⟨b, o, rfl, hb, hc⟩ := hLw.at hmL.2
      obtain ⟨b', o', rfl, hb', hc'⟩ := hMw.at hmM.2
      have hoL := (hLw.all _ hmL.1).more hB.size
      have hoM := (hMw.all _ hmM.1).more hB.size
      have hk3 : (0 : Int) ≤ (k : Int) := by omega
      have hk4 : (k : Int) < (n : Int) := by omega
      have hk5 : (k : Int) < (n' : Int) := by omega
      have hk6 : (k : Int) < (n : Int) := by omega
      have hs := fun w' (hB' : Below wr.heap.size wr w') => partsame_any (Ch.gk L k) (Ch.gk M k) w' ((hoL.below hB').more hB'.size) ((hoM.below hB').more hB'.size)
      have hx1 : ∀ (j : Nat) (v : Value), (Ch.gk L k).cells[j]? = some v → wr.cell? ((⟨b, o + k * 35, none⟩ : Addr).add j) = some v := fun j v hv => by
        rw [Addr.add_flat]; exact hc j v hv
      have hx2 : ∀ (j : Nat) (v : Value), (Ch.gk M k).cells[j]? = some v → wr.cell? ((⟨b', o' + k * 35, none⟩ : Addr).add j) = some v := fun j v hv => by
        rw [Addr.add_flat]; exact hc' j v hv
      have hlx := LkV.cells_length hoL
      have hly := LkV.cells_length hoM
      have hix : (Tryd.prog.info? 37).map (·.size) = some (Ch.gk L k).cells.length := by rw [hlx]; exact info_link
      have hiy : (Tryd.prog.info? 37).map (·.size) = some (Ch.gk M k).cells.length := by rw [hly]; exact info_link
      obtain ⟨s, hsv⟩ : ∃ s, Ch.sameV (Ch.gk L k) (Ch.gk M k) = s := ⟨_, rfl⟩
      rw [hsv] at hs
      generalize (Ch.gk L k).cells = CX at hs hx1 hix
      generalize (Ch.gk M k).cells = CY at hs hx2 hiy
      have HP := Lib.hid (And.intro hx1 (And.intro hx2 (And.intro hix hiy)))
      have HS := Lib.hid hs
      have HV := Lib.hid hsv
      have HB := Lib.hid hB
      clear hs hx1 hx2 hix hiy hc hc' hsv hlx hly hoL hoM hmL hmM hLw hMw
      cases s with
      | true =>
        have HG : Hid (Ch.sameTo L M (k + 1)) := Ch.sameTo_next hu HV.out
        go_wp2
        go_still_tail 9, (by kernel_rfl)
        refine wpStill_val (.agg CX.toArray) (by rfl) (run_load_exec 37 (.tmp 20) rfl ⟨b, o + k * 35, none⟩ (by rfl) CX _ (fun j v hv => HP.out.1 j v hv) Tryd.underlying37 (by rfl) HP.out.2.2.1) ?_
        repeat still_step
        refine wpStill_val (.agg CY.toArray) (by rfl) (run_load_exec 37 (.tmp 24) rfl ⟨b', o' + k * 35, none⟩ (by rfl) CY _ (fun j v hv => HP.out.2.1 j v hv) Tryd.underlying37 (by rfl) HP.out.2.2.2) ?_
        refine wpStill_nil ?_
        change wpList _ _ _ _ _ wr.drew
        go_wp2_with fail
        refine (HS.out _ ((Below.refl _ wr).drew)).mono ?_
        rintro e w4 ⟨rfl, hb⟩
        have HB4 := Lib.hid (HB.out.trans ((((Below.refl wr.heap.size wr).drew).trans hb).mono HB.out.size))
        go_wp2
        go_roundw
        case rel => exact ⟨k + 1, by omega, by go_num, HG.out, HB4.out⟩
        case measure => simp [intOf]; omega
      | false =>
        have HG : Hid (Ch.differ L M = some k) := by
          show _ = _
          rw [HD.out]
          exact Ch.firstTo_some hu hlt HV.out
        go_wp2
        go_still_tail 9, (by kernel_rfl)
        refine wpStill_val (.agg CX.toArray) (by rfl) (run_load_exec 37 (.tmp 20) rfl ⟨b, o + k * 35, none⟩ (by rfl) CX _ (fun j v hv => HP.out.1 j v hv) Tryd.underlying37 (by rfl) HP.out.2.2.1) ?_
        repeat still_step
        refine wpStill_val (.agg CY.toArray) (by rfl) (run_load_exec 37 (.tmp 24) rfl ⟨b', o' + k * 35, none⟩ (by rfl) CY _ (fun j v hv => HP.out.2.1 j v hv) Tryd.underlying37 (by rfl) HP.out.2.2.2) ?_
        refine wpStill_nil ?_
        change wpList _ _ _ _ _ wr.drew
        go_wp2_with fail
        refine (HS.out _ ((Below.refl _ wr).drew)).mono ?_
        rintro e w4 ⟨rfl, hb⟩
        have HB4 := Lib.hid (HB.out.trans ((((Below.refl wr.heap.size wr).drew).trans hb).mono HB.out.size))
        go_wp2
        go_ret2
        exact ⟨by rw [HG.out]; rfl, HB4.out⟩
    · obtain rfl : n = k := by omega
      go_wp2
      go_ret2
      exact ⟨by rw [HD.out, Ch.firstTo_none hu]; rfl, hB⟩
theorem differ_any (A A' : Option Addr) (n n' c c' : Nat) (L M : List LkV) (w : World) (hL : Lks w w.heap.size A n L) (hM : Lks w w.heap.size A' n' M) (hn : n ≤ 100000) (hn' : n' ≤ 100000) :
    Calls Tryd.prog 23 #[.slice A n c, .slice A' n' c', .func (.func 24) #[] #[]] w fun e w' => e = .returned (Ch.differV (Ch.differ L M)) ∧ Below w.heap.size w w' := by
  by_cases h : n' < n
  · exact differ_lt A A' n n' c c' L M w hL hM hn hn' h
  · exact differ_ge A A' n n' c c' L M w hL hM hn hn' h
end Go.Proofs.YtpjggokaolnbcaaDoor
/- chain.Part. -/
namespace Go.Proofs.YtpjggokaolnbcaaDoor
open Go.RowKit
attribute [local go_sem] Oper.semAt_some
set_option linter.unusedVariables false
namespace Ch
/-- do two chains lie on different nodes? -/
def apart (L M : List LkV) : Bool := decide (0 < L.length ∧ 0 < M.length ∧ (gk L 0).node ≠ (gk M 0).node)
/-- what Part answers -/
def part (K : Sh.Cst) (L M : List LkV) : Nat × Bool × Int :=
  if allB K L = true ∧ allB K M = true ∧ apart L M = false then ((differ L M).getD 0, (differ L M).isSome, 0) else (0, false, 80)
def partV (r : Nat × Bool × Int) : Value := .tuple #[.int .i64 (r.1 : Nat), .bool r.2.1, .int .i64 r.2.2]
end Ch
set_option maxRecDepth 100000 in
set_option maxHeartbeats 2000000 in
theorem part_any (K : Sh.Cst) (A A' : Option Addr) (n n' c c' : Nat) (L M : List LkV) (w : World) (hL : Lks w w.heap.size A n L) (hM : Lks w w.heap.size A' n' M) (hn : n ≤ 1000) (hn' : n' ≤ 1000) (hnc : n ≤ c) (hnc' : n' ≤ c') (hf : ∀ x ∈ L, Ch.fit x) (hf' : ∀ x ∈ M, Ch.fit x) (hLd : Laid w) :
    Calls Tryd.prog 12 #[.slice A n c, .slice A' n' c'] w fun e w' => e = .returned (Ch.partV (Ch.part K L M)) ∧ Below w.heap.size w w' := by
  have HN : Hid (L.length = n) := hL.len
  have HN' : Hid (M.length = n') := hM.len
  have HC1 := Lib.hid (check_any K A n c L w hL hn hnc hf hLd)
  have HC2 : Hid (∀ w1, Below w.heap.size w w1 → Calls Tryd.prog 16 #[.slice A' n' c'] w1 fun e W' => e = .returned (.int .i64 (Ch.chk K M)) ∧ Below w1.heap.size w1 W') :=
    fun w1 hb => check_any K A' n' c' M w1 ((hM.below hb).more hb.size) hn' hnc' hf' (hLd.below hb hLd.size)
  have HD : Hid (∀ w1, Below w.heap.size w w1 → Calls Tryd.prog 23 #[.slice A n c, .slice A' n' c', .func (.func 24) #[] #[]] w1 fun e W' => e = .returned (Ch.differV (Ch.differ L M)) ∧ Below w1.heap.size w1 W') :=
    fun w1 hb => differ_any A A' n n' c c' L M w1 ((hL.below hb).more hb.size) ((hM.below hb).more hb.size) (by omega) (by omega)
  clear hf hf' hLd hnc hnc'
  unfold Ch.differV at HD
  by_cases h1 : Ch.allB K L = true
  · have e1 : Ch.chk K L = 0 := by unfold Ch.chk; rw [if_pos h1]
    rw [e1] at HC1
    by_cases h2 : Ch.allB K M = true
    · have e2 : Ch.chk K M = 0 := by unfold Ch.chk; rw [if_pos h2]
      rw [e2] at HC2
      by_cases h3 : Ch.apart L M = true
      · have HG : Hid (Ch.part K L M = (0, false, 80)) := by
          show _ = _
          exact if_neg fun h => by rw [h3] at h; exact absurd h.2.2 (by simp)
        unfold Ch.apart at h3
        rw [decide_eq_true_eq, HN.out, HN'.out] at h3
        obtain ⟨h30, h31, h32⟩ := h3
        have j1 : (0 : Int) < (n : Int) := by omega
        have j2 : (0 : Int) < (n' : Int) := by omega
        obtain ⟨b, o, rfl, hb, hc⟩ := hL.at (Ch.gk_mem (L := L) (k := 0) (by rw [HN.out]; omega)).2
        obtain ⟨b', o', rfl, hb', hc'⟩ := hM.at (Ch.gk_mem (L := M) (k := 0) (by rw [HN'.out]; omega)).2
        have p0 := hc 0 _ (LkV.cell_n _)
        have p1 := hc' 0 _ (LkV.cell_n _)
        simp only [Nat.zero_mul, Nat.add_zero] at p0 p1
        clear hc hc'
        go_enter Tryd.func12, Tryd.ntmps12
        go_wp2_with fail
        refine HC1.out.mono ?_
        rintro e w1 ⟨rfl, hb1⟩
        go_wp2_with fail
        refine (HC2.out _ hb1).mono ?_
        rintro e w2 ⟨rfl, hb2⟩
        have HB2 := Lib.hid (hb1.trans (hb2.mono hb1.size))
        have q0 := (HB2.out.cell (p := ⟨b, o, none⟩) hb).trans p0
        have q1 := (HB2.out.cell (p := ⟨b', o', none⟩) hb').trans p1
        clear hb1 hb2 p0 p1 HC1 HC2
        generalize (Ch.gk L 0).node = a at q0 h32
        generalize (Ch.gk M 0).node = d at q1 h32
        have j3 : ((a == d : Bool)) = false := beq_eq_false_iff_ne.2 h32
        have j4 : ((a != d : Bool)) = true := by rw [bne, j3]; rfl
        go_wp2
        go_quiet (fail)
        go_wp2
        go_ret3
        exact ⟨by rw [HG.out]; rfl, below_drewN HB2.out _⟩
      · have HG : Hid (Ch.part K L M = ((Ch.differ L M).getD 0, (Ch.differ L M).isSome, 0)) := by
          show _ = _
          exact if_pos ⟨h1, h2, by simpa using h3⟩
        have h4 : ¬ (0 < n ∧ 0 < n' ∧ (Ch.gk L 0).node ≠ (Ch.gk M 0).node) := by
          unfold Ch.apart at h3
          rw [HN.out, HN'.out] at h3
          exact fun h => h3 (decide_eq_true h)
        clear h3
        by_cases h5 : n = 0
        · subst h5
          go_enter Tryd.func12, Tryd.ntmps12
          go_wp2_with fail
          refine HC1.out.mono ?_
          rintro e w1 ⟨rfl, hb1⟩
          go_wp2_with fail
          refine (HC2.out _ hb1).mono ?_
          rintro e w2 ⟨rfl, hb2⟩
          have HB2 := Lib.hid (hb1.trans (hb2.mono hb1.size))
          go_wp2
          go_quiet (fail)
          go_wp2_with fail
          refine (HD.out _ (below_drewN HB2.out _)).mono ?_
          rintro e w3 ⟨rfl, hb3⟩
          have HB3 := Lib.hid ((below_drewN HB2.out _).trans (hb3.mono (below_drewN HB2.out _).size))
          go_wp2
          go_ret3
          exact ⟨by rw [HG.out]; rfl, HB3.out⟩
        · have h50 : 0 < n := by omega
          have j1 : (0 : Int) < (n : Int) := by omega
          by_cases h6 : n' = 0
          · subst h6
            go_enter Tryd.func12, Tryd.ntmps12
            go_wp2_with fail
            refine HC1.out.mono ?_
            rintro e w1 ⟨rfl, hb1⟩
            go_wp2_with fail
            refine (HC2.out _ hb1).mono ?_
            rintro e w2 ⟨rfl, hb2⟩
            have HB2 := Lib.hid (hb1.trans (hb2.mono hb1.size))
            go_wp2
            go_quiet (fail)
            go_wp2_with fail
            refine (HD.out _ (below_drewN HB2.out _)).mono ?_
            rintro e w3 ⟨rfl, hb3⟩
            have HB3 := Lib.hid ((below_drewN HB2.out _).trans (hb3.mono (below_drewN HB2.out _).size))
            go_wp2
            go_ret3
            exact ⟨by rw [HG.out]; rfl, HB3.out⟩
          · have h51 : 0 < n' := by omega
            have j2 : (0 : Int) < (n' : Int) := by omega
            have h32 : (Ch.gk L 0).node = (Ch.gk M 0).node := by
              by_cases h : (Ch.gk L 0).node = (Ch.gk M 0).node
              · exact h
              · exact absurd ⟨h50, h51, h⟩ h4
            obtain ⟨b, o, rfl, hb, hc⟩ := hL.at (Ch.gk_mem (L := L) (k := 0) (by rw [HN.out]; omega)).2
            obtain ⟨b', o', rfl, hb', hc'⟩ := hM.at (Ch.gk_mem (L := M) (k := 0) (by rw [HN'.out]; omega)).2
            have p0 := hc 0 _ (LkV.cell_n _)
            have p1 := hc' 0 _ (LkV.cell_n _)
            simp only [Nat.zero_mul, Nat.add_zero] at p0 p1
            clear hc hc'
            go_enter Tryd.func12, Tryd.ntmps12
            go_wp2_with fail
            refine HC1.out.mono ?_
            rintro e w1 ⟨rfl, hb1⟩
            go_wp2_with fail
            refine (HC2.out _ hb1).mono ?_
            rintro e w2 ⟨rfl, hb2⟩
            have HB2 := Lib.hid (hb1.trans (hb2.mono hb1.size))
            have q0 := (HB2.out.cell (p := ⟨b, o, none⟩) hb).trans p0
            have q1 := (HB2.out.cell (p := ⟨b', o', none⟩) hb').trans p1
            clear hb1 hb2 p0 p1 HC1 HC2
            rw [h32] at q0
            generalize (Ch.gk M 0).node = d at q0 q1
            go_wp2
            go_quiet (fail)
            go_wp2_with fail
            refine (HD.out _ (below_drewN HB2.out _)).mono ?_
            rintro e w3 ⟨rfl, hb3⟩
            have HB3 := Lib.hid ((below_drewN HB2.out _).trans (hb3.mono (below_drewN HB2.out _).size))
            go_wp2
            go_ret3
            exact ⟨by rw [HG.out]; rfl, HB3.out⟩
    · have e2 : Ch.chk K M = 80 := by unfold Ch.chk; rw [if_neg h2]
      rw [e2] at HC2
      have HG : Hid (Ch.part K L M = (0, false, 80)) := by
        show _ = _
        exact if_neg fun h => h2 h.2.1
      go_enter Tryd.func12, Tryd.ntmps12
      go_wp2_with fail
      refine HC1.out.mono ?_
      rintro e w1 ⟨rfl, hb1⟩
      go_wp2_with fail
      refine (HC2.out _ hb1).mono ?_
      rintro e w2 ⟨rfl, hb2⟩
      have HB2 := Lib.hid (hb1.trans (hb2.mono hb1.size))
      go_wp2
      go_ret3
      exact ⟨by rw [HG.out]; rfl, HB2.out⟩
  · have e1 : Ch.chk K L = 80 := by unfold Ch.chk; rw [if_neg h1]
    rw [e1] at HC1
    have HG : Hid (Ch.part K L M = (0, false, 80)) := by
      show _ = _
      exact if_neg fun h => h1 h.1
    go_enter Tryd.func12, Tryd.ntmps12
    go_wp2_with fail
    refine HC1.out.mono ?_
    rintro e w1 ⟨rfl, hb1⟩
    go_wp2
    go_ret3
    exact ⟨by rw [HG.out]; rfl, hb1⟩
end Go.Proofs.YtpjggokaolnbcaaDoor
