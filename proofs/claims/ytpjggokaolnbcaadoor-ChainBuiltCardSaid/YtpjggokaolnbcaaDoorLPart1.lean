/- Two links are compared by chain.Part's function. -/
import Derived.Test.YtpjggokaolnbcaaDoorLSame
namespace Go.Proofs.YtpjggokaolnbcaaDoor
open Go.RowKit
set_option linter.unusedVariables false
theorem equal_any {B : Nat} (A A' : Option Addr) (c c' : Nat) (l m : List Int) (w : World) (hl : Rd w B 1 A l.length (l.map (Value.int .u8))) (hm : Rd w B 1 A' m.length (m.map (Value.int .u8))) (bl : ∀ b ∈ l, 0 ≤ b ∧ b < 256) (bm : ∀ b ∈ m, 0 ≤ b ∧ b < 256) :
    Calls Tryd.prog 25 #[.slice A l.length c, .slice A' m.length c'] w fun e w' => e = .returned (.bool (decide (l = m))) ∧ w' = w := by
  have cx := conv_text (P := Tryd.prog) (c := c) _ 23 9 5 Tryd.underlying23 Tryd.underlying5 Tryd.underlying9 hl
  have cy := conv_text (P := Tryd.prog) (c := c') _ 23 9 5 Tryd.underlying23 Tryd.underlying5 Tryd.underlying9 hm
  have hinj := toBA_inj bl bm
  have hj : ((toBA l).toList == (toBA m).toList) = decide (l = m) := by
    rw [Bool.eq_iff_iff, beq_iff_eq, decide_eq_true_eq, ← hinj]
    exact ⟨fun h => by rw [ByteArray.toList_eq, ByteArray.toList_eq] at h; exact ByteArray.ext (Array.toList_inj.1 h), fun h => by rw [h]⟩
  generalize decide (l = m) = D at hj ⊢
  generalize toBA l = SX at cx hj
  generalize toBA m = SY at cy hj
  clear hinj hl hm bl bm
  go_enter Tryd.func25, Tryd.ntmps25
  go_wp2
  go_ret
  exact ⟨by simp, rfl⟩
set_option maxRecDepth 100000 in
set_option maxHeartbeats 2000000 in
theorem partsame_any (x y : LkV) (w : World) (hx : x.ok w w.heap.size) (hy : y.ok w w.heap.size) :
    Calls Tryd.prog 24 #[.agg x.cells.toArray, .agg y.cells.toArray] w fun e w' => e = .returned (.bool (Ch.sameV x y)) ∧ Below w.heap.size w w' := by
  have hB : Below w.heap.size w ((w.alloc (.cells x.cells.toArray 37)).alloc (.cells y.cells.toArray 37)) := ((Below.refl _ w).alloc (Nat.le_refl _) _).alloc (by simp) _
  have r0 : Row ((w.alloc (.cells x.cells.toArray 37)).alloc (.cells y.cells.toArray 37)) w.heap.size 37 x.cells := Row.alloc (heap_alloc_new w _) _
  have r1 : Row ((w.alloc (.cells x.cells.toArray 37)).alloc (.cells y.cells.toArray 37)) (w.heap.size + 1) 37 y.cells := by
    have h := heap_alloc_new (w.alloc (.cells x.cells.toArray 37)) (.cells y.cells.toArray 37)
    rw [World.size_alloc] at h; exact h
  have he := equal_any x.A y.A x.c y.c x.data y.data _ (hx.rd.below hB) (hy.rd.below hB) hx.dbyt hy.dbyt
  have p0 := fun i hi => r0.cell (x.cell_p hx.plen i hi)
  have p1 := fun i hi => r1.cell (y.cell_p hy.plen i hi)
  have q0 := r0.cell x.cell_n
  have q1 := r1.cell y.cell_n
  have q2 := r0.cell x.cell_o
  have q3 := r1.cell y.cell_o
  have q4 := r0.cell (x.cell_d hx.plen)
  have q5 := r1.cell (y.cell_d hy.plen)
  have hlx := hx.plen
  have hly := hy.plen
  unfold Ch.sameV
  have c0 := ints_cells (o := 2) (k := .u8) (l := x.prev) (fun i hi => by rw [hlx] at hi; exact p0 i hi)
  have c1 := ints_cells (o := 2) (k := .u8) (l := y.prev) (fun i hi => by rw [hly] at hi; exact p1 i hi)
  clear p0 p1 r0 r1
  have heq := fun w => equal_digest w x.prev y.prev hlx hly
  have hix : (Tryd.prog.info? 35).map (·.size) = some (x.prev.map (Value.int .u8)).length := by rw [List.length_map, hlx]; kernel_rfl
  have hiy : (Tryd.prog.info? 35).map (·.size) = some (y.prev.map (Value.int .u8)).length := by rw [List.length_map, hly]; kernel_rfl
  obtain ⟨XN, hXN⟩ : ∃ X, x.node = X := ⟨_, rfl⟩
  obtain ⟨YN, hYN⟩ : ∃ X, y.node = X := ⟨_, rfl⟩
  obtain ⟨XO, hXO⟩ : ∃ X, x.no = X := ⟨_, rfl⟩
  obtain ⟨YO, hYO⟩ : ∃ X, y.no = X := ⟨_, rfl⟩
  obtain ⟨XP, hXP⟩ : ∃ X, x.prev = X := ⟨_, rfl⟩
  obtain ⟨YP, hYP⟩ : ∃ X, y.prev = X := ⟨_, rfl⟩
  obtain ⟨XC, hXC⟩ : ∃ XC, x.cells = XC := ⟨_, rfl⟩
  obtain ⟨YC, hYC⟩ : ∃ YC, y.cells = YC := ⟨_, rfl⟩
  have HP := Lib.hid (And.intro c0 (And.intro c1 (And.intro hix hiy)))
  have HJ := Lib.hid he
  have HB := Lib.hid hB
  clear c0 c1 hix hiy he hlx hly hx hy hB
  rw [hXC, hYC] at HJ q0 q1 q2 q3 q4 q5 HP HB ⊢
  rw [hXN] at q0 ⊢
  rw [hYN] at q1 ⊢
  rw [hXO] at q2 ⊢
  rw [hYO] at q3 ⊢
  rw [hXP, hYP] at heq HP ⊢
  clear hXC hYC hXN hYN hXO hYO hXP hYP
  by_cases h1 : XN = YN
  · subst h1
    by_cases h2 : XO = YO
    · subst h2
      by_cases h3 : XP = YP
      · subst h3
        rw [decide_eq_true rfl] at heq
        go_enter Tryd.func24, Tryd.ntmps24
        go_wp2_with (first
          | (refine wpList_exec_val (.agg (XP.map (Value.int .u8)).toArray) (by rfl) (run_load_exec 35 (.tmp 18) rfl ⟨w.heap.size, 2, none⟩ (by rfl) (XP.map (Value.int .u8)) _ HP.out.1 Tryd.underlying35 (by rfl) HP.out.2.2.1) ?_)
          | (refine wpList_exec_val (.agg (XP.map (Value.int .u8)).toArray) (by rfl) (run_load_exec 35 (.tmp 20) rfl ⟨w.heap.size + 1, 2, none⟩ (by rfl) (XP.map (Value.int .u8)) _ HP.out.2.1 Tryd.underlying35 (by rfl) HP.out.2.2.2) ?_)
          | fail)
        refine HJ.out.mono ?_
        rintro e w' ⟨rfl, rfl⟩
        go_wp2
        go_ret
        exact ⟨by simp, HB.out⟩
      · rw [decide_eq_false h3] at heq
        go_enter Tryd.func24, Tryd.ntmps24
        go_wp2_with (first
          | (refine wpList_exec_val (.agg (XP.map (Value.int .u8)).toArray) (by rfl) (run_load_exec 35 (.tmp 18) rfl ⟨w.heap.size, 2, none⟩ (by rfl) (XP.map (Value.int .u8)) _ HP.out.1 Tryd.underlying35 (by rfl) HP.out.2.2.1) ?_)
          | (refine wpList_exec_val (.agg (YP.map (Value.int .u8)).toArray) (by rfl) (run_load_exec 35 (.tmp 20) rfl ⟨w.heap.size + 1, 2, none⟩ (by rfl) (YP.map (Value.int .u8)) _ HP.out.2.1 Tryd.underlying35 (by rfl) HP.out.2.2.2) ?_)
          | fail)
        go_ret
        exact ⟨by simp, HB.out⟩
    · go_enter Tryd.func24, Tryd.ntmps24
      go_wp2
      go_ret
      exact ⟨by simp, HB.out⟩
  · go_enter Tryd.func24, Tryd.ntmps24
    go_wp2
    go_ret
    exact ⟨by simp, HB.out⟩
end Go.Proofs.YtpjggokaolnbcaaDoor
