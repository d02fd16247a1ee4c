/- Package duress: Either. -/
import Derived.Test.YtllabahapaeedaaDoorDuress4
namespace Go.Proofs.YtllabahapaeedaaDoor
open Go.RowKit
set_option linter.unusedVariables false
theorem results_cell_tmp2 {P : Program} {fn : Func} {p q r : Tmp} {ty : TypeId} (h : fn.results = #[.cell p ty, .tmp q, .tmp r]) (tmps : Array Value) (w : World) (g : Nat) (t : TypeId) (cs : Array Value) (fr : Nat × Nat) (d : TypeDesc)
    (hp : tmps.getD p undef = .pointer (some ⟨g, 0, none⟩)) (hg : w.heap[g]? = some (.cells cs t fr))
    (hu : P.underlying ty = some d) (hd : (match d with | .struct _ | .array _ _ => true | _ => false) = true) (hi : (P.info? ty).map (·.size) = some cs.size) :
    (results fn tmps).run P w = .ok (.tuple #[.agg cs, tmps.getD q undef, tmps.getD r undef]) w := by
  have hp' : tmps[p]?.getD undef = .pointer (some ⟨g, 0, none⟩) := by simpa using hp
  simp [results, h, hp', asAddr, run_loadVar_row w g t ty cs fr d hg hu hd hi]
namespace Du
def eitherR (K : Sh.Cst) (a b c d n t : Int) : Int × Int × Int × Bool × Int :=
  if poss d n && num t then
    (if right a b c then
      (if (said a b c (hoI K d n) t).2 then (Fm.ad a (if (said a b c (hoI K d n) t).1 then c else -c), b, c, true, 0) else (0, 0, 0, false, 0))
    else (0, 0, 0, false, 470))
  else (0, 0, 0, false, 1)
end Du
def eithV (p : Int × Int × Int × Bool × Int) : Value := .tuple #[silV p.1 p.2.1 p.2.2.1, .bool p.2.2.2.1, .int .i64 p.2.2.2.2]
theorem ret5_mk {p : Int × Int × Int × Bool × Int} {a b c : Int} {o : Bool} {e : Int} (h : p = (a, b, c, o, e)) : Ending.returned (.tuple #[.agg #[.int .i64 a, .int .i64 b, .int .i64 c], .bool o, .int .i64 e]) = .returned (eithV p) := by rw [h]; rfl
set_option maxRecDepth 100000 in
set_option maxHeartbeats 1000000 in
theorem deither_any (K : Sh.Cst) (a b c d n t : Int) (w : World) (hL : Laid w) :
    Calls Tryd.prog 13 #[.int .i64 d, .int .i64 n, .int .i64 t, silV a b c] w fun e w' => e = .returned (eithV (Du.eitherR K a b c d n t)) ∧ Below w.heap.size w w' := by
  have hHL := Lib.hid (hL.below (((Below.refl w.heap.size w).alloc (Nat.le_refl _) (.cells #[.int .i64 a, .int .i64 b, .int .i64 c] 23)).alloc (by simp) (.cells #[.int .i64 0, .int .i64 0, .int .i64 0] 23)) hL.size)
  have hS0 := (Ints.new w 23 .i64 [a, b, c]).alloc (.cells #[.int .i64 0, .int .i64 0, .int .i64 0] 23)
  have hX0 := Ints.new (w.alloc (.cells #[.int .i64 a, .int .i64 b, .int .i64 c] 23)) 23 .i64 [0, 0, 0]
  rw [World.size_alloc] at hX0
  have hB0 := ((Below.refl w.heap.size w).alloc (Nat.le_refl _) (.cells #[.int .i64 a, .int .i64 b, .int .i64 c] 23)).alloc (by simp) (.cells #[.int .i64 0, .int .i64 0, .int .i64 0] 23)
  have H0 := Lib.hid (And.intro hS0 (And.intro hX0 hB0))
  clear hS0 hX0 hB0
  cases hp : Du.poss d n with
  | false =>
    have H := Lib.hid (show Du.eitherR K a b c d n t = (0, 0, 0, false, 1) by simp [Du.eitherR, hp])
    have HP := Lib.hid hp
    clear hp
    generalize Du.eitherR K a b c d n t = R at *
    unfold silV
    go_enter Tryd.func13, Tryd.ntmps13
    go_wp2_with fail
    refine (possible_any _ _ _).mono ?_
    rintro e w' ⟨he, rfl⟩
    rw [HP.out] at he
    subst he
    go_wp2
    refine bodyPost_ret (results_cell_tmp2 (p := 8) (q := 9) (r := 10) rfl _ _ (w.heap.size + 1) 23 _ (0, 0) _ (by rfl) H0.out.2.1 Tryd.underlying23 (by rfl) (by kernel_rfl)) rfl ?_
    exact ⟨ret5_mk H.out, H0.out.2.2⟩
  | true =>
    cases hn : Du.num t with
    | false =>
      have H := Lib.hid (show Du.eitherR K a b c d n t = (0, 0, 0, false, 1) by simp [Du.eitherR, hn])
      have HP := Lib.hid hp
      have HN := Lib.hid hn
      clear hp hn
      generalize Du.eitherR K a b c d n t = R at *
      unfold silV
      go_enter Tryd.func13, Tryd.ntmps13
      go_wp2_with fail
      refine (possible_any _ _ _).mono ?_
      rintro e w' ⟨he, rfl⟩
      rw [HP.out] at he
      subst he
      go_wp2_with fail
      refine (number_any _ _).mono ?_
      rintro e w' ⟨he, rfl⟩
      rw [HN.out] at he
      subst he
      go_wp2
      refine bodyPost_ret (results_cell_tmp2 (p := 8) (q := 9) (r := 10) rfl _ _ (w.heap.size + 1) 23 _ (0, 0) _ (by rfl) H0.out.2.1 Tryd.underlying23 (by rfl) (by kernel_rfl)) rfl ?_
      exact ⟨ret5_mk H.out, H0.out.2.2⟩
    | true =>
      have hrd := fun w hL => dread_any K a b c d n t w hL
      have HP := Lib.hid hp
      have HN := Lib.hid hn
      cases hr : Du.right a b c with
      | false =>
        have H := Lib.hid (show Du.eitherR K a b c d n t = (0, 0, 0, false, 470) by simp [Du.eitherR, hn, hp, hr])
        have hR := Du.readR_silent (K := K) (d := d) (n := n) (t := t) hr
        rw [hR] at hrd
        clear hp hn hr hR
        generalize Du.eitherR K a b c d n t = R at *
        unfold silV at hrd ⊢
        go_enter Tryd.func13, Tryd.ntmps13
        go_wp2_with fail
        refine (possible_any _ _ _).mono ?_
        rintro e w' ⟨he, rfl⟩
        rw [HP.out] at he
        subst he
        go_wp2_with fail
        refine (number_any _ _).mono ?_
        rintro e w' ⟨he, rfl⟩
        rw [HN.out] at he
        subst he
        go_wp2_with fail
        refine (hrd _ hHL.out).mono ?_
        rintro e w1 ⟨rfl, hb1⟩
        obtain ⟨hS0, hX0, hB0⟩ := H0.out
        have hS := hS0.below hb1 (by simp; omega)
        have hX := hX0.below hb1 (by simp)
        have hB := hB0.trans (hb1.mono hB0.size)
        clear hb1 hS0 hX0 hB0 hrd
        go_wp2_with (first | (refine wpList_load_row rfl 23 (.tmp 8) rfl (w.heap.size + 1) (by rfl) 23 _ (0, 0) _ hX Tryd.underlying23 (by rfl) (by kernel_rfl) ?_) | (refine wpList_store_same rfl 23 (.tmp 8) (.tmp 38) rfl (w.heap.size + 1) _ (by rfl) (by rfl) 23 hX (by kernel_rfl) (ints_one .i64 _) ?_))
        refine bodyPost_ret (results_cell_tmp2 (p := 8) (q := 9) (r := 10) rfl _ _ (w.heap.size + 1) 23 _ (0, 0) _ (by rfl) hX Tryd.underlying23 (by rfl) (by kernel_rfl)) rfl ?_
        exact ⟨ret5_mk H.out, hB⟩
      | true =>
        have hR := Du.readR_yes (K := K) hr hp hn
        have hcb := Du.right_iff.1 hr
        rw [hR] at hrd
        clear hR
        cases h2 : (Du.said a b c (Du.hoI K d n) t).2 with
        | false =>
          have H := Lib.hid (show Du.eitherR K a b c d n t = (0, 0, 0, false, 0) by simp [Du.eitherR, hn, hp, hr, h2])
          rw [h2] at hrd
          clear hp hn hr hcb h2
          generalize Du.eitherR K a b c d n t = R at *
          generalize (Du.said a b c (Du.hoI K d n) t).1 = s1 at *
          unfold silV at hrd ⊢
          go_enter Tryd.func13, Tryd.ntmps13
          go_wp2_with fail
          refine (possible_any _ _ _).mono ?_
          rintro e w' ⟨he, rfl⟩
          rw [HP.out] at he
          subst he
          go_wp2_with fail
          refine (number_any _ _).mono ?_
          rintro e w' ⟨he, rfl⟩
          rw [HN.out] at he
          subst he
          go_wp2_with fail
          refine (hrd _ hHL.out).mono ?_
          rintro e w1 ⟨rfl, hb1⟩
          obtain ⟨hS0, hX0, hB0⟩ := H0.out
          have hS := hS0.below hb1 (by simp; omega)
          have hX := hX0.below hb1 (by simp)
          have hB := hB0.trans (hb1.mono hB0.size)
          clear hb1 hS0 hX0 hB0 hrd
          go_wp2_with (first | (refine wpList_load_row rfl 23 (.tmp 8) rfl (w.heap.size + 1) (by rfl) 23 _ (0, 0) _ hX Tryd.underlying23 (by rfl) (by kernel_rfl) ?_) | (refine wpList_store_same rfl 23 (.tmp 8) (.tmp 38) rfl (w.heap.size + 1) _ (by rfl) (by rfl) 23 hX (by kernel_rfl) (ints_one .i64 _) ?_))
          refine bodyPost_ret (results_cell_tmp2 (p := 8) (q := 9) (r := 10) rfl _ _ (w.heap.size + 1) 23 _ (0, 0) _ (by rfl) hX Tryd.underlying23 (by rfl) (by kernel_rfl)) rfl ?_
          exact ⟨ret5_mk H.out, hB⟩
        | true =>
          have HT := Lib.hid h2
          rw [h2] at hrd
          cases h1 : (Du.said a b c (Du.hoI K d n) t).1 with
          | false =>
            have H := Lib.hid (show Du.eitherR K a b c d n t = (Fm.ad a (-c), b, c, true, 0) by simp [Du.eitherR, hn, hp, hr, h2, h1])
            rw [h1] at hrd
            obtain ⟨_, _, hc1, hc2⟩ := hcb
            clear hp hn hr h1 h2
            generalize Du.eitherR K a b c d n t = R at *
            unfold silV at hrd ⊢
            go_enter Tryd.func13, Tryd.ntmps13
            go_wp2_with fail
            refine (possible_any _ _ _).mono ?_
            rintro e w' ⟨he, rfl⟩
            rw [HP.out] at he
            subst he
            go_wp2_with fail
            refine (number_any _ _).mono ?_
            rintro e w' ⟨he, rfl⟩
            rw [HN.out] at he
            subst he
            go_wp2_with fail
            refine (hrd _ hHL.out).mono ?_
            rintro e w1 ⟨rfl, hb1⟩
            obtain ⟨hS0, hX0, hB0⟩ := H0.out
            have hS := hS0.below hb1 (by simp; omega)
            have hX := hX0.below hb1 (by simp)
            have hB := hB0.trans (hb1.mono hB0.size)
            clear hb1 hS0 hX0 hB0 hrd
            have a0 : _ = some (Value.int .i64 a) := hS.cell? 0
            have a2 : _ = some (Value.int .i64 c) := hS.cell? 2
            go_wp2_with (first | (refine wpList_load_row rfl 23 (.tmp 7) rfl (w.heap.size) (by rfl) 23 _ (0, 0) _ hS Tryd.underlying23 (by rfl) (by kernel_rfl) ?_) | (refine wpList_store_ints rfl 23 (.tmp 8) (.tmp 46) rfl (w.heap.size + 1) .i64 [a, b, c] (by rfl) (by rfl) 23 _ hX (by rfl) (by kernel_rfl) ?_; intro w2 hX2 hg2; have a0' := (hg2.cell a0 (by simp))))
            have hB2 := hB.grown hg2 hB.size (fun g e => by injection e with e; omega)
            refine (dsum_new _ _ _).mono ?_
            rintro e w3 ⟨rfl, hb3⟩
            have hX3 := (hX2.alloc (.cells #[.int .i64 a, .int .i64 (-c)] 3)).below hb3 (by have := hX2.lt; omega)
            have hB3 := (hB2.alloc hB2.size (.cells #[.int .i64 a, .int .i64 (-c)] 3)).trans (hb3.mono (by have := hB2.size; omega))
            have z0 : _ = some (Value.int .i64 a) := hX3.cell? 0
            have f0 := hX3.frozen 0
            have hX4 : Ints (w3.setCell ⟨w.heap.size + 1, 0, none⟩ (.int .i64 (Fm.ad a (-c)))) (w.heap.size + 1) 23 .i64 [Fm.ad a (-c), b, c] := hX3.set_ 0 _
            have hB4 := hB3.setCell (p := ⟨w.heap.size + 1, 0, none⟩) (by simp) (.int .i64 (Fm.ad a (-c)))
            clear hX3 hX2 hb3 hg2 a0 a0' a2
            go_wp2_with (first | (refine wpList_load_row rfl 23 (.tmp 8) rfl (w.heap.size + 1) (by rfl) 23 _ (0, 0) _ hX4 Tryd.underlying23 (by rfl) (by kernel_rfl) ?_) | (refine wpList_store_same rfl 23 (.tmp 8) (.tmp 53) rfl (w.heap.size + 1) _ (by rfl) (by rfl) 23 hX4 (by kernel_rfl) (ints_one .i64 _) ?_))
            refine bodyPost_ret (results_cell_tmp2 (p := 8) (q := 9) (r := 10) rfl _ _ (w.heap.size + 1) 23 _ (0, 0) _ (by rfl) hX4 Tryd.underlying23 (by rfl) (by kernel_rfl)) rfl ?_
            exact ⟨ret5_mk H.out, hB4⟩
          | true =>
            have H := Lib.hid (show Du.eitherR K a b c d n t = (Fm.ad a c, b, c, true, 0) by simp [Du.eitherR, hn, hp, hr, h2, h1])
            rw [h1] at hrd
            obtain ⟨_, _, hc1, hc2⟩ := hcb
            clear hp hn hr h1 h2
            generalize Du.eitherR K a b c d n t = R at *
            unfold silV at hrd ⊢
            go_enter Tryd.func13, Tryd.ntmps13
            go_wp2_with fail
            refine (possible_any _ _ _).mono ?_
            rintro e w' ⟨he, rfl⟩
            rw [HP.out] at he
            subst he
            go_wp2_with fail
            refine (number_any _ _).mono ?_
            rintro e w' ⟨he, rfl⟩
            rw [HN.out] at he
            subst he
            go_wp2_with fail
            refine (hrd _ hHL.out).mono ?_
            rintro e w1 ⟨rfl, hb1⟩
            obtain ⟨hS0, hX0, hB0⟩ := H0.out
            have hS := hS0.below hb1 (by simp; omega)
            have hX := hX0.below hb1 (by simp)
            have hB := hB0.trans (hb1.mono hB0.size)
            clear hb1 hS0 hX0 hB0 hrd
            have a0 : _ = some (Value.int .i64 a) := hS.cell? 0
            have a2 : _ = some (Value.int .i64 c) := hS.cell? 2
            go_wp2_with (first | (refine wpList_load_row rfl 23 (.tmp 7) rfl (w.heap.size) (by rfl) 23 _ (0, 0) _ hS Tryd.underlying23 (by rfl) (by kernel_rfl) ?_) | (refine wpList_store_ints rfl 23 (.tmp 8) (.tmp 46) rfl (w.heap.size + 1) .i64 [a, b, c] (by rfl) (by rfl) 23 _ hX (by rfl) (by kernel_rfl) ?_; intro w2 hX2 hg2; have a0' := (hg2.cell a0 (by simp))))
            have hB2 := hB.grown hg2 hB.size (fun g e => by injection e with e; omega)
            refine (dsum_new _ _ _).mono ?_
            rintro e w3 ⟨rfl, hb3⟩
            have hX3 := (hX2.alloc (.cells #[.int .i64 a, .int .i64 (c)] 3)).below hb3 (by have := hX2.lt; omega)
            have hB3 := (hB2.alloc hB2.size (.cells #[.int .i64 a, .int .i64 (c)] 3)).trans (hb3.mono (by have := hB2.size; omega))
            have z0 : _ = some (Value.int .i64 a) := hX3.cell? 0
            have f0 := hX3.frozen 0
            have hX4 : Ints (w3.setCell ⟨w.heap.size + 1, 0, none⟩ (.int .i64 (Fm.ad a (c)))) (w.heap.size + 1) 23 .i64 [Fm.ad a (c), b, c] := hX3.set_ 0 _
            have hB4 := hB3.setCell (p := ⟨w.heap.size + 1, 0, none⟩) (by simp) (.int .i64 (Fm.ad a (c)))
            clear hX3 hX2 hb3 hg2 a0 a0' a2
            go_wp2_with (first | (refine wpList_load_row rfl 23 (.tmp 8) rfl (w.heap.size + 1) (by rfl) 23 _ (0, 0) _ hX4 Tryd.underlying23 (by rfl) (by kernel_rfl) ?_) | (refine wpList_store_same rfl 23 (.tmp 8) (.tmp 53) rfl (w.heap.size + 1) _ (by rfl) (by rfl) 23 hX4 (by kernel_rfl) (ints_one .i64 _) ?_))
            refine bodyPost_ret (results_cell_tmp2 (p := 8) (q := 9) (r := 10) rfl _ _ (w.heap.size + 1) 23 _ (0, 0) _ (by rfl) hX4 Tryd.underlying23 (by rfl) (by kernel_rfl)) rfl ?_
            exact ⟨ret5_mk H.out, hB4⟩
end Go.Proofs.YtllabahapaeedaaDoor
