/- A link is put in another's place: the memory, and the plain law of ChainChanged; a link that came in by value. -/
import Derived.Test.YtpjggokaolnbcaaDoorLOpen
import Derived.Test.YtpjggokaolnbcaaDoorLInj
import Derived.Laws.CopyRow
namespace Go.Proofs.YtpjggokaolnbcaaDoor
open Go.ChangeShapes Go.WideShapes Go.Deep Go.RowKit
set_option linter.unusedVariables false
theorem wpList_store_at {P : Program} {ops : Array Oper} {rest : List Oper} {o : Oper} {a : Act} {w : World} {Q : Exit → Act → World → Prop} (hgd : o.guard = none) (ty : TypeId) (x y : Operand) (ho : o.op = .store ty x y)
    (g off : Nat) (cs : List Value) (hx : a.eval x = .pointer (some ⟨g, off, none⟩)) (hy : a.eval y = .agg cs.toArray)
    (t : TypeId) (cur : Array Value) (hg : w.heap[g]? = some (.cells cur t (0, 0))) (hfit : off + cs.length ≤ cur.size) (hi : (P.info? ty).map (·.size) = some cs.length) (h1 : ∀ u ∈ cs, u.oneCell' = true)
    (h : ∀ w', w'.heap[g]? = some (.cells (cur.toList.take off ++ cs ++ cur.toList.drop (off + cs.length)).toArray t (0, 0)) → w.grownBy w' (some g) → wpList P ops Q rest (a.put o.dst undef) w') : wpList P ops Q (o :: rest) a w := by
  refine wpList_plain hgd fun K hK => ?_
  have hrun := run_storeCells_at P g off t cs 0 cur w hg (by simpa using hfit) h1
  simp only [Nat.add_zero] at hrun
  have hsv : (storeVar ty ⟨g, off, none⟩ (.agg cs.toArray)).run P w = .ok () (w.setRow g (cur.toList.take off ++ cs ++ cur.toList.drop (off + cs.length)).toArray) := by
    cases hq : P.info? ty with
    | none => simp [hq] at hi
    | some i =>
      have hs : cs.length = i.size := by simp [hq] at hi; omega
      simp [storeVar, sizeOf, typeInfo, hq, Value.cells, ← hs, hrun]
  unfold Oper.wp execOp
  simp only [ho, hx, hy, Instr.storeAt, Instr.sureAddr, Sem.run_bind, Sem.run_pure, Result.andThen_ok, hsv]
  exact hK _ _ (h _ (setRow_heap w g cur _ t (0, 0) hg) (grown_row _))
theorem flat_len35 : ∀ (M : List LkV), (∀ y ∈ M, y.cells.length = 35) → (M.flatMap LkV.cells).length = M.length * 35
  | [], _ => rfl
  | y :: M, h => by
    rw [List.flatMap_cons, List.length_append, h y (by simp), flat_len35 M (fun z hz => h z (by simp [hz])), List.length_cons]; omega
/-- what is known of a row of links of one's own -/
structure LOwn (w : World) (g C n : Nat) (t : TypeId) (L : List LkV) (cur : Array Value) : Prop where
  heap : w.heap[g]? = some (.cells cur t (0, 0))
  size : cur.size = C * 35
  cap : n ≤ C
  len : L.length = n
  pre : cur.toList.take (n * 35) = L.flatMap LkV.cells
  all : ∀ y ∈ L, y.ok w w.heap.size
theorem LOwn.lks {w : World} {g C n : Nat} {t : TypeId} {L : List LkV} {cur : Array Value} (h : LOwn w g C n t L cur) : Lks w w.heap.size (some ⟨g, 0, none⟩) n L := by
  refine ⟨h.len, h.all, ?_, fun _ => ⟨g, 0, rfl, heap_lt h.heap, fun j u hj => ?_⟩⟩
  · rw [flat_len35 L (fun y hy => LkV.cells_length (h.all y hy)), h.len]
  · rw [cell_of_row w g _ cur t (0, 0) h.heap, Nat.zero_add, ← Array.getElem?_toList]
    have hjl : j < n * 35 := by
      have := (List.getElem?_eq_some_iff.1 hj).1
      rw [flat_len35 L (fun y hy => LkV.cells_length (h.all y hy)), h.len] at this
      exact this
    rw [← h.pre, List.getElem?_take, if_pos hjl] at hj
    exact hj
theorem lown_of {w : World} {base n : Nat} {t : TypeId} {v : Value} {L : List LkV} (hall : ∀ y ∈ L, y.ok w w.heap.size) (hl : L.length = n) (hn : 0 < n) (h : w.ownsRow base t 35 v n (L.flatMap LkV.cells)) :
    ∃ g C cur, v = .slice (some ⟨g, 0, none⟩) n C ∧ base ≤ g ∧ LOwn w g C n t L cur := by
  obtain ⟨hlen, h | ⟨g, cap, cur, rfl, hb, hg, hnc, hcm, hsz, htk⟩⟩ := h
  · omega
  · exact ⟨g, cap, cur, rfl, hb, hg, hsz, hnc, hl, htk, hall⟩
theorem LOwn.set {w w' : World} {g C n k : Nat} {t : TypeId} {L : List LkV} {cur : Array Value} {x : LkV} (h : LOwn w g C n t L cur) (hk : k < n) (hx : x.ok w w.heap.size) (hg : w'.heap[g]? = some (.cells (cur.toList.take (k * 35) ++ x.cells ++ cur.toList.drop (k * 35 + x.cells.length)).toArray t (0, 0)))
    (hok : ∀ y ∈ L.set k x, y.ok w' w'.heap.size) :
    ∃ cur', LOwn w' g C n t (L.set k x) cur' := by
  have hxl := LkV.cells_length hx
  have hcl : ∀ y ∈ L, y.cells.length = 35 := fun y hy => LkV.cells_length (h.all y hy)
  have hkl : k < L.length := by rw [h.len]; exact hk
  have hset : L.set k x = L.take k ++ x :: L.drop (k + 1) := List.set_eq_take_append_cons_drop.trans (if_pos hkl)
  have hL : L = L.take k ++ L[k] :: L.drop (k + 1) := by rw [← List.drop_eq_getElem_cons hkl, List.take_append_drop]
  have hF1 : ((L.take k).flatMap LkV.cells).length = k * 35 := by
    rw [flat_len35 _ (fun y hy => hcl y (List.mem_of_mem_take hy)), List.length_take, Nat.min_eq_left (Nat.le_of_lt hkl)]
  have hmid : L[k].cells.length = 35 := hcl _ (List.getElem_mem hkl)
  obtain ⟨R, hR⟩ : ∃ R, cur.toList = L.flatMap LkV.cells ++ R := ⟨cur.toList.drop (n * 35), by rw [← h.pre, List.take_append_drop]⟩
  have hfl : L.flatMap LkV.cells = (L.take k).flatMap LkV.cells ++ (L[k].cells ++ (L.drop (k + 1)).flatMap LkV.cells) := by
    conv => lhs; rw [hL]
    rw [List.flatMap_append, List.flatMap_cons]
  have e1 : cur.toList.take (k * 35) = (L.take k).flatMap LkV.cells := by
    rw [hR, hfl, List.append_assoc, List.take_append_of_le_length (by omega), List.take_of_length_le (by omega)]
  have e2 : cur.toList.drop (k * 35 + x.cells.length) = (L.drop (k + 1)).flatMap LkV.cells ++ R := by
    rw [hR, hfl, hxl, List.append_assoc, List.append_assoc, ← List.drop_drop, List.drop_left' hF1, List.drop_left' hmid]
  have hf2 : (L.set k x).flatMap LkV.cells = (L.take k).flatMap LkV.cells ++ x.cells ++ (L.drop (k + 1)).flatMap LkV.cells := by
    rw [hset, List.flatMap_append, List.flatMap_cons, List.append_assoc]
  have hcl2 : ∀ y ∈ L.set k x, y.cells.length = 35 := fun y hy => by
    rcases List.mem_or_eq_of_mem_set hy with hy | rfl
    · exact hcl y hy
    · exact hxl
  have hl2 : ((L.set k x).flatMap LkV.cells).length = n * 35 := by rw [flat_len35 _ hcl2, List.length_set, h.len]
  refine ⟨_, hg, ?_, h.cap, by rw [List.length_set]; exact h.len, ?_, ?_⟩
  · have hcs : cur.toList.length = C * 35 := by rw [Array.length_toList]; exact h.size
    have hkC : k * 35 + 35 ≤ C * 35 := by have := h.cap; omega
    simp only [List.size_toArray, List.length_append, List.length_take, List.length_drop, hxl, hcs]
    omega
  · rw [List.toList_toArray, e1, e2, ← List.append_assoc, ← hf2, List.take_append_of_le_length (by omega), List.take_of_length_le (by omega)]
  · exact hok
namespace Ch
theorem gk_set_same {L : List LkV} {k : Nat} {x : LkV} (hk : k < L.length) : gk (L.set k x) k = x := by
  unfold gk; rw [List.getD_eq_getElem?_getD, List.getElem?_set]; simp [hk]
theorem gk_set_other {L : List LkV} {k j : Nat} {x : LkV} (hj : j ≠ k) : gk (L.set k x) j = gk L j := by
  unfold gk; rw [List.getD_eq_getElem?_getD, List.getD_eq_getElem?_getD, List.getElem?_set, if_neg (fun e => hj e.symm)]
/-- a link that is replaced is noticed, or two beginnings clash -/
theorem changed {K : Sh.Cst} {L : List LkV} {k : Nat} {x : LkV} (hk : k + 1 < L.length) (hL : allB K L = true) (hM : allB K (L.set k x) = true) (hs : sameV (gk L k) x = false)
    (bL : byts L) (bx : (∀ b ∈ x.prev, 0 ≤ b ∧ b < 256) ∧ ∀ b ∈ x.data, 0 ≤ b ∧ b < 256) : clashB K L (L.set k x) k = true := by
  have pL := allB_iff.1 hL (k + 1) hk
  have pM := allB_iff.1 hM (k + 1) (by rw [List.length_set]; exact hk)
  unfold passB at pL pM
  have p1 := (of_decide_eq_true pL).2.2.2.2.2
  have p2 := (of_decide_eq_true pM).2.2.2.2.2
  rw [gk_set_other (by omega)] at p2
  refine decide_eq_true ⟨fun e => ?_, by rw [← p1, ← p2]⟩
  rw [gk_set_same (by omega)] at e
  have := text_inj (bL _ (gk_mem (by omega)).1) bx e
  rw [hs] at this; cases this
end Ch
section
variable {H : Type} {enc : TypeId × Value → H} {W : World} {base b0 : Nat} {spare : Nat → Bool} {held : Bool}
theorem open_linkV {v : Value} {d : DataW H} {p : List MemPlace} (hv : Value.okWide Tryd.prog W .any b0 37 v) (h : DataW.Trod enc Tryd.prog W base spare held 37 v d p) :
    ∃ y : LkV, v = .agg y.cells.toArray ∧ y.ok W W.heap.size ∧ y.wide := by
  have hu := Tryd.underlying37
  simp only [Value.okWide, hu] at hv
  obtain ⟨cs, rfl, hsz, _⟩ := hv
  obtain ⟨fuel, hf⟩ := h
  obtain ⟨y, e, ho, hw⟩ := open_link hf
  refine ⟨y, ?_, ho, hw⟩
  rw [← e]; simp [Value.cells]
end
end Go.Proofs.YtpjggokaolnbcaaDoor
