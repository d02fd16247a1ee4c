/- Package codec: the writer of texts. -/
import Derived.Test.YtpjggokaolnbcaaDoorLCodec1
import Derived.Test.YtpjggokaolnbcaaDoorDigTag
import Derived.Lib.AppendStr
namespace Go.Proofs.YtpjggokaolnbcaaDoor
open Go.RowKit
set_option linter.unusedVariables false
theorem strCells_ints (s : ByteArray) : Lib.strCells s = (strInts s).map (Value.int .u8) := by
  simp [Lib.strCells, strInts]
/-- a string's bytes, laid onto a row of one's own that is not nil: and where the row lies then -/
theorem wp_append_str {P : Program} {o : Oper} {a : Act} {w : World} {K : Act → World → Prop} {Q : Exit → Act → World → Prop} (sl x : Operand) (t u : TypeId)
    (ho : o.op = .call { callee := .builtin .append, args := #[sl, x], argTypes := #[t, u] })
    (base : Nat) (e : TypeId) (i : TypeInfo) (ht : P.underlying t = some (.slice e)) (hu : P.underlying u = some .string) (hi : P.info? e = some i) (hz : i.zero = some (.int .u8 0))
    (hsize : i.size = 1) (hby : i.bytes = 1)
    (v : Value) (n : Nat) (xs : List Value) (hs : a.eval sl = v) (hown : w.ownsRow base e 1 v n xs) (hn : 0 < n) (s : ByteArray) (hx : a.eval x = .string s)
    (h63 : n + s.size ≤ 1000000) (hbase : base ≤ w.heap.size)
    (h : ∀ v' w', w'.ownsRow base e 1 v' (n + s.size) (xs ++ Lib.strCells s) → w.grownBy w' v.ownBlock → (v'.ownBlock = v.ownBlock ∨ v'.ownBlock = some w.heap.size) → K (a.put o.dst v') w') : o.wp P a w K Q := by
  obtain ⟨v', w', hr, h2, h3, _⟩ := Lib.run_append_own_string (P := P) w base t u o.type e i ht hu hi hz hsize hby v n xs hown s (by unfold maxLen; omega) (by omega) hbase
  have hb : v'.ownBlock = v.ownBlock ∨ v'.ownBlock = some w.heap.size := by
    have hxl : xs.length = n := by simpa using hown.1
    rcases hown.2 with ⟨_, h0⟩ | ⟨g, cap, cur, rfl, _, hg, hnc, hcm, hcs, _⟩
    · omega
    · have hcs' : cur.size = cap := by simpa using hcs
      unfold maxLen at hcm
      by_cases hroom : n + s.size ≤ cap
      · have h1 := Lib.run_append_room_string (P := P) w t u o.type e i ht hu hi hsize g n cap cur hg s hroom (by omega)
        have e1 := hr.symm.trans h1
        injection e1 with e1 e2
        exact .inl (by rw [e1]; rfl)
      · have h1 := Lib.run_append_grow_string (P := P) w t u o.type e i (.int .u8 0) ht hu hi hz ⟨g, 0, none⟩ n cap xs (by rw [hsize]; simpa using hxl) (hown.cells (g := g) rfl) s (by omega) (by omega) (by rw [hby]; exact growslice_fits (by omega) (by omega))
        have e1 := hr.symm.trans h1
        injection e1 with e1 e2
        exact .inr (by rw [e1]; rfl)
  unfold Oper.wp execOp
  simp only [ho, resolve, invoke, builtin, Sem.run_bind, Sem.run_pure, Result.andThen_ok, List.map_toArray, List.map_cons, List.map_nil, hs, hx, hr]
  exact h v' w' h2 h3 hb
theorem txt_box (w : World) (s : ByteArray) (t : TypeId) : (w.alloc (.cells #[.int .i64 2, .int .i64 0, .string s, .slice none 0 0] t)).cell? ⟨w.heap.size, 2, none⟩ = some (.string s) := by
  rw [cell_of_row _ w.heap.size 2 _ _ _ (heap_alloc_new w _)]; rfl
theorem grew_cellL {base : Nat} {w w' : World} {v v' : Value} {n : Nat} {xs ys : List Int} (h : Grew base w v n xs w' v' ys) (hv : ∀ j, v.ownBlock = some j → base ≤ j) {p : Addr} (hp : p.block < base) (hs : base ≤ w.heap.size) : w'.cell? p = w.cell? p :=
  World.cell?_of_block (h.grow.block p.block (by omega) (fun e => by have := hv _ e.symm; omega))
/-- growth that began behind some blocks more -/
theorem Grew.preL {base : Nat} {w w1 w' : World} {v v' : Value} {n : Nat} {xs ys : List Int} (h : Grew base w1 v n xs w' v' ys) (hp : w.grownBy w1 v.ownBlock) : Grew base w v n xs w' v' ys :=
  ⟨h.own, grown_then hp h.grow (fun j hj => .inr hj), fun j hj => by
    rcases h.blk j hj with h1 | h1
    · exact .inl (Nat.le_trans hp.size h1)
    · exact .inr h1⟩
theorem grew_ne {base H : Nat} {w w' : World} {v v' : Value} {n : Nat} {xs ys : List Int} (h : Grew base w v n xs w' v' ys) (hne : some H ≠ v.ownBlock) (hlt : H < w.heap.size) : some H ≠ v'.ownBlock := fun e => by
  rcases h.blk _ e.symm with h1 | h1
  · omega
  · exact hne h1.symm
set_option maxRecDepth 100000 in
set_option maxHeartbeats 2000000 in
theorem w2_any (base : Nat) (v : Value) (n : Nat) (xs : List Int) (s : ByteArray) (w : World) (hown : w.ownsRow base 5 1 v n (xs.map (Value.int .u8))) (hs : s.size ≤ 100000) (hn : n ≤ 800000) (hbase : base ≤ w.heap.size) :
    Calls Tryd.prog 49 #[v, txtV s] w (NumPost base w v n xs ([2] ++ Cd.numL s.size ++ strInts s)) := by
  obtain ⟨i0, hi, hz0, hz1, hz2⟩ := info_parts infoU8c
  have hne := own_far hown
  have hbox := txt_box w s 52
  have hten := Cd.numL_ten (u := s.size) (by omega)
  have HT := Lib.hid hten
  have hs9 : (s.size : Int) ≤ 100000 := by omega
  have hu64 : IntKind.u64.wrap (s.size : Int) = (s.size : Int) := by
    rw [show IntKind.u64.wrap (s.size : Int) = (s.size : Int) % 18446744073709551616 by simp [IntKind.wrap, IntKind.bits, IntKind.signed]]; omega
  clear hten
  unfold txtV
  go_enter Tryd.func49, Tryd.ntmps49
  go_wp2
  go_region_held3 (fun w' => w'.cell? ⟨w.heap.size, 2, none⟩ = some (.string s))
    (first
      | (go_keep; done)
      | exact hq1
      | exact hq3
      | exact (hg4.cell_far ⟨w.heap.size, 2, none⟩ hlt3 hne3).trans hq3)
    ((first
      | (go_at_call 47; (refine (numeral_any base v1 (n + 1) (xs ++ [2]) s.size w1 (by simpa using hown1) (by omega) (by omega) (by omega)).mono ?_); rintro e w3 ⟨v3, rfl, hG⟩; have hq3 := (hG.grow.cell_far ⟨w.heap.size, 2, none⟩ hlt1 hne1).trans hq1; have hlt3 : w.heap.size < w3.heap.size := Nat.lt_of_lt_of_le hlt1 hG.grow.size; have hne3 := grew_ne hG hne1 hlt1)
      | (refine wp_atc (by rfl) (wp_append_str (.tmp 12) (.tmp 14) 23 9 (by rfl) base 5 i0 Tryd.underlying23 Tryd.underlying9 hi hz0 hz1 hz2 v3 _ _ (by rfl) hG.own (by omega) s (by rfl) (by have := HT.out; omega) (by have := hG.grow.size; omega) ?_); intro v4 w4 hown4 hg4 hb4)
      | (refine wp_atc (by rfl) (wp_append_rd _ (.tmp 5) (.tmp 6) 23 (by rfl) base 5 i0 _ 1 1 Tryd.underlying23 hi hz0 hz1 hz2 rfl (by omega) v n _ (by rfl) ((hown.alloc _).alloc _).drew _ _ 1 _ [.int .u8 2] (by rfl) (rd_one _ _ _ _ (by simp)).drew (fun u hu => by simp at hu; subst hu; rfl) (by unfold maxLen; omega) (by omega) (by simp; omega) ?_); intro v1 w1 hown1 hg1 hb1; have hq1 := (hg1.cell_far ⟨w.heap.size, 2, none⟩ (by simp; omega) hne).trans (cell_box2 w _ _ hbox); have hlt1 : w.heap.size < w1.heap.size := (by have := hg1.size; simp at this; omega); have hne1 := own_ne hne hb1 (by simp; omega))
      | fail))
  have hG0 : Grew base w v n xs w1 v1 [2] := Grew.mk1 (grown_drew (grown_alloc (World.grownBy_alloc w _ _) _)) hown1 hg1 hb1
  have hG4 : Grew base w3 v3 (n + 1 + (Cd.numL s.size).length) (xs ++ [2] ++ Cd.numL s.size) w4 v4 (strInts s) := by
    refine Grew.mk1 (World.grownBy.refl _ _) ?_ hg4 hb4
    have h := hown4
    rw [strCells_ints] at h
    rw [strInts_length]
    exact h
  have hG2 : Grew base w v n xs w4 v4 ([2] ++ Cd.numL s.size ++ strInts s) := by
    have h := (hG0.then hG).then (zs := strInts s) (c := w4) (v2 := v4) (by
      have h4 := hG4
      rw [List.append_assoc] at h4
      rw [List.length_append, ← Nat.add_assoc]
      exact h4)
    exact h
  clear hG0 hG4 hG hown1 hg1 hb1 hq1 hne1 hq3 hne3 hlt3 hown4 hg4 hb4
  go_wp2
  go_ret
  exact ⟨v4, rfl, hG2⟩
end Go.Proofs.YtpjggokaolnbcaaDoor
