/- A block of integers that is known whole, and what the walk does to it. -/
import Derived.Test.YtpjggokaolnbcaaDoorWords
namespace Go.Proofs.YtpjggokaolnbcaaDoor
open Go.RowKit
set_option linter.unusedVariables false
/-- block g is just the integers l, of one kind, none frozen -/
def Ints (w : World) (g : Nat) (t : TypeId) (k : IntKind) (l : List Int) : Prop := w.heap[g]? = some (.cells (l.map (Value.int k)).toArray t (0, 0))
theorem heap_lt {w : World} {g : Nat} {o : Obj} (h : w.heap[g]? = some o) : g < w.heap.size := by
  rcases Nat.lt_or_ge g w.heap.size with hlt | hge
  · exact hlt
  · rw [Array.getElem?_eq_none hge] at h; cases h
section
variable {w w' : World} {g : Nat} {t : TypeId} {k : IntKind} {l : List Int}
theorem Ints.lt (h : Ints w g t k l) : g < w.heap.size := heap_lt h
theorem Ints.cell? (h : Ints w g t k l) (i : Nat) : w.cell? ⟨g, i, none⟩ = (l[i]?).map (Value.int k) := by
  rw [cell_of_row w g i _ t (0, 0) h]; simp
theorem Ints.cell (h : Ints w g t k l) {i : Nat} (hi : i < l.length) : w.cell? ⟨g, i, none⟩ = some (.int k (l.getD i 0)) := by
  rw [h.cell? i, List.getElem?_eq_getElem hi, List.getD_eq_getElem?_getD, List.getElem?_eq_getElem hi]; rfl
theorem Ints.frozen (h : Ints w g t k l) (i : Nat) : w.frozen? ⟨g, i, none⟩ = false := by
  unfold Ints at h
  simp [World.frozen?, h]
theorem Ints.new (w : World) (t : TypeId) (k : IntKind) (l : List Int) : Ints (w.alloc (.cells (l.map (Value.int k)).toArray t)) w.heap.size t k l := heap_alloc_new w _
theorem Ints.drew (h : Ints w g t k l) : Ints w.drew g t k l := h
theorem Ints.drewN (h : Ints w g t k l) (n : Nat) : Ints (w.drewN n) g t k l := h
theorem Ints.alloc (h : Ints w g t k l) (o : Obj) : Ints (w.alloc o) g t k l := (Below.heap_alloc w o g h.lt).trans h
theorem Ints.set_ (h : Ints w g t k l) (i : Nat) (u : Int) : Ints (w.setCell ⟨g, i, none⟩ (.int k u)) g t k (l.set i u) := by
  unfold Ints at h ⊢
  simp [World.setCell, Array.getElem?_modify, h, List.map_set]
theorem Ints.far (h : Ints w g t k l) {p : Addr} (hp : g ≠ p.block) (u : Value) : Ints (w.setCell p u) g t k l := (Below.heap_setCell w p u g hp).trans h
theorem Ints.below {B : Nat} (h : Ints w g t k l) (hb : Below B w w') (hg : g < B) : Ints w' g t k l := (hb.block g hg).trans h
theorem Ints.grown {row : Option Nat} (h : Ints w g t k l) (hb : w.grownBy w' row) (hg : some g ≠ row) : Ints w' g t k l := (hb.block g h.lt hg).trans h
theorem Ints.rd (h : Ints w g t k l) (o n : Nat) (hn : o + n ≤ l.length) : Rd w w.heap.size 1 (some ⟨g, o, none⟩) n (((l.drop o).take n).map (Value.int k)) := by
  refine ⟨by simp; omega, fun _ => ⟨g, o, rfl, h.lt, fun j u hu => ?_⟩⟩
  rw [List.getElem?_map, Option.map_eq_some_iff] at hu
  obtain ⟨x, hx, rfl⟩ := hu
  have hj : j < n := by have := (List.getElem?_eq_some_iff.1 hx).1; simp at this; omega
  rw [List.getElem?_take, if_pos hj, List.getElem?_drop] at hx
  rw [h.cell? (o + j), hx]; rfl
end
theorem grown_then {a b c : World} {row row' : Option Nat} (h : a.grownBy b row) (k : b.grownBy c row') (hr : ∀ j, row' = some j → a.heap.size ≤ j ∨ row = some j) : a.grownBy c row :=
  ⟨k.os.trans h.os, k.tape.trans h.tape, k.output.trans h.output, Nat.le_trans h.size k.size, fun i hi hne => (k.block i (by have := h.size; omega) (fun e => by
    rcases hr i e.symm with h1 | h1
    · omega
    · exact hne h1.symm)).trans (h.block i hi hne)⟩
theorem grown_row {w : World} {g : Nat} (cs : Array Value) : w.grownBy (w.setRow g cs) (some g) :=
  ⟨rfl, rfl, rfl, by simp, fun k hk hne => setRow_other w g k cs (fun e => hne (by rw [e]))⟩
/-- 'copy' into a block of integers -/
theorem wp_copy_ints {P : Program} {w : World} {o : Oper} {a : Act} {K : Act → World → Prop} {Q : Exit → Act → World → Prop} (d s : Operand) (dT sT : TypeId)
    (ho : o.op = .call { callee := .builtin .copy, args := #[d, s], argTypes := #[dT, sT] }) (elem : TypeId) (hu : P.underlying dT = some (.slice elem)) (hsz : (P.info? elem).map (·.size) = some 1)
    (g off dLen dCap g' so sLen sCap : Nat) (hd : a.eval d = .slice (some ⟨g, off, none⟩) dLen dCap) (hs : a.eval s = .slice (some ⟨g', so, none⟩) sLen sCap)
    {t : TypeId} {k : IntKind} {l : List Int} (hI : Ints w g t k l) (cs : List Int) (hn : cs.length = Nat.min sLen dLen)
    (hsrc : ∀ (j : Nat) (v : Int), cs[j]? = some v → w.cell? ⟨g', so + j, none⟩ = some (.int k v)) (hfit : off + cs.length ≤ l.length)
    (h : ∀ w', Ints w' g t k (l.take off ++ (cs ++ l.drop (off + cs.length))) → w.grownBy w' (some g) → K (a.put o.dst (goInt cs.length)) w') : o.wp P a w K Q := by
  have hrun := run_copy_row (P := P) w dT sT o.type elem g off dLen dCap ⟨g', so, none⟩ sLen sCap (l.map (Value.int k)).toArray t (cs.map (Value.int k)) hu hsz hI (by simpa using hn)
    (fun j v hv => by
      rw [List.getElem?_map, Option.map_eq_some_iff] at hv
      obtain ⟨x, hx, rfl⟩ := hv
      rw [Addr.add_flat]; exact hsrc j x hx) (by simpa using hfit) (fun v hv => by obtain ⟨x, _, rfl⟩ := List.mem_map.1 hv; rfl)
  unfold Oper.wp
  simp only [execOp, ho, resolve, invoke, builtin, Sem.run_bind, Sem.run_pure, Result.andThen_ok, List.map_toArray, List.map_cons, List.map_nil, hd, hs, hrun]
  have h2 := h _ (show Ints (w.setRow g ((l.map (Value.int k)).take off ++ (cs.map (Value.int k) ++ (l.map (Value.int k)).drop (off + cs.length))).toArray) g t k _ by
    unfold Ints
    rw [setRow_heap w g _ _ t _ hI, List.map_append, List.map_append, List.map_take, List.map_drop]) (grown_row _)
  simp only [List.append_assoc, List.length_map]
  exact h2
theorem run_loadVar_cells {P : Program} (w : World) (a : Addr) (ty : TypeId) (cs : List Value) (d : TypeDesc) (hc : ∀ (j : Nat) (v : Value), cs[j]? = some v → w.cell? (a.add j) = some v)
    (hu : P.underlying ty = some d) (hd : (match d with | .struct _ | .array _ _ => true | _ => false) = true) (hi : (P.info? ty).map (·.size) = some cs.length) :
    (loadVar ty a).run P w = .ok (.agg cs.toArray) w := by
  have hl : (loadCells a cs.length).run P w = .ok cs.toArray w := run_loadCells_list (P := P) w a cs hc
  cases hq : P.info? ty with
  | none => simp [hq] at hi
  | some i =>
    have hs : i.size = cs.length := by simpa [hq] using hi
    have hagg : (isAgg ty).run P w = .ok true w := by
      unfold isAgg
      rw [Sem.run_bind, run_underlying hu w]
      cases d <;> simp_all
    simp [loadVar, Sem.run_bind, hagg, sizeOf, typeInfo, hq, hs, hl]
theorem wp_load_cells {P : Program} {o : Oper} {a : Act} {w : World} {K : Act → World → Prop} {Q : Exit → Act → World → Prop} (ty : TypeId) (x : Operand) (ho : o.op = .load ty x)
    (p : Addr) (hx : a.eval x = .pointer (some p)) (cs : List Value) (d : TypeDesc) (hc : ∀ (j : Nat) (v : Value), cs[j]? = some v → w.cell? (p.add j) = some v)
    (hu : P.underlying ty = some d) (hd : (match d with | .struct _ | .array _ _ => true | _ => false) = true) (hi : (P.info? ty).map (·.size) = some cs.length)
    (h : K (a.put o.dst (.agg cs.toArray)) w) : o.wp P a w K Q := by
  unfold Oper.wp execOp
  simp only [ho, hx, Instr.loadAt, Instr.sureAddr, Sem.run_bind, Sem.run_pure, Result.andThen_ok, run_loadVar_cells w p ty cs d hc hu hd hi]
  exact h
theorem wpList_load_cells {P : Program} {ops : Array Oper} {rest : List Oper} {o : Oper} {a : Act} {w : World} {Q : Exit → Act → World → Prop} (hgd : o.guard = none) (ty : TypeId) (x : Operand) (ho : o.op = .load ty x)
    (p : Addr) (hx : a.eval x = .pointer (some p)) (cs : List Value) (d : TypeDesc) (hc : ∀ (j : Nat) (v : Value), cs[j]? = some v → w.cell? (p.add j) = some v)
    (hu : P.underlying ty = some d) (hd : (match d with | .struct _ | .array _ _ => true | _ => false) = true) (hi : (P.info? ty).map (·.size) = some cs.length)
    (h : wpList P ops Q rest (a.put o.dst (.agg cs.toArray)) w) : wpList P ops Q (o :: rest) a w :=
  wpList_plain hgd fun _ hK => wp_load_cells ty x ho p hx cs d hc hu hd hi (hK _ _ h)
theorem ints_cells {w : World} {g o : Nat} {k : IntKind} {l : List Int} (h : ∀ (i : Nat), i < l.length → w.cell? ⟨g, o + i, none⟩ = some (.int k (l.getD i 0))) :
    ∀ (j : Nat) (v : Value), (l.map (Value.int k))[j]? = some v → w.cell? ((⟨g, o, none⟩ : Addr).add j) = some v := by
  intro j v hv
  rw [List.getElem?_map, Option.map_eq_some_iff] at hv
  obtain ⟨x, hx, rfl⟩ := hv
  have hj := (List.getElem?_eq_some_iff.1 hx).1
  rw [Addr.add_flat, h j hj, List.getD_eq_getElem?_getD, hx]; rfl
/-- 'copy' of a slice that reads as known integers (nil let in) into a block of integers, where there is room -/
theorem wp_copy_rd {P : Program} {w : World} {o : Oper} {a : Act} {K : Act → World → Prop} {Q : Exit → Act → World → Prop} (d s : Operand) (dT sT : TypeId)
    (ho : o.op = .call { callee := .builtin .copy, args := #[d, s], argTypes := #[dT, sT] }) (elem : TypeId) (hu : P.underlying dT = some (.slice elem)) (hsz : (P.info? elem).map (·.size) = some 1)
    (g off dLen dCap : Nat) (A : Option Addr) (sLen sCap : Nat) (hd : a.eval d = .slice (some ⟨g, off, none⟩) dLen dCap) (hs : a.eval s = .slice A sLen sCap)
    {t : TypeId} {k : IntKind} {l : List Int} (hI : Ints w g t k l) (cs : List Int) {B : Nat} (hr : Rd w B 1 A sLen (cs.map (Value.int k))) (hle : sLen ≤ dLen) (hfit : off + cs.length ≤ l.length)
    (h : ∀ w', Ints w' g t k (l.take off ++ (cs ++ l.drop (off + cs.length))) → w.grownBy w' (some g) → K (a.put o.dst (goInt cs.length)) w') : o.wp P a w K Q := by
  have hlen : cs.length = sLen := by simpa using hr.1
  rcases Nat.eq_zero_or_pos sLen with h0 | h0
  · obtain rfl : cs = [] := List.eq_nil_of_length_eq_zero (by omega)
    have hrun := run_copy_none (P := P) w dT sT o.type elem (some ⟨g, off, none⟩) A dLen dCap sLen sCap hu hsz (by show min sLen dLen = 0; omega)
    unfold Oper.wp
    simp only [execOp, ho, resolve, invoke, builtin, Sem.run_bind, Sem.run_pure, Result.andThen_ok, List.map_toArray, List.map_cons, List.map_nil, hd, hs, hrun]
    exact h w (by simpa using hI) (World.grownBy.refl _ _)
  · obtain ⟨b, o', rfl, _, hc⟩ := hr.2 h0
    refine wp_copy_ints d s dT sT ho elem hu hsz g off dLen dCap b o' sLen sCap hd hs hI cs (by rw [hlen]; show sLen = min sLen dLen; omega) (fun j v hv => hc j _ (by rw [List.getElem?_map, hv]; rfl)) hfit h
theorem wpList_copy_rd {P : Program} {ops : Array Oper} {rest : List Oper} {w : World} {o : Oper} {a : Act} {Q : Exit → Act → World → Prop} (hgd : o.guard = none) (d s : Operand) (dT sT : TypeId)
    (ho : o.op = .call { callee := .builtin .copy, args := #[d, s], argTypes := #[dT, sT] }) (elem : TypeId) (hu : P.underlying dT = some (.slice elem)) (hsz : (P.info? elem).map (·.size) = some 1)
    (g off dLen dCap : Nat) (A : Option Addr) (sLen sCap : Nat) (hd : a.eval d = .slice (some ⟨g, off, none⟩) dLen dCap) (hs : a.eval s = .slice A sLen sCap)
    {t : TypeId} {k : IntKind} {l : List Int} (hI : Ints w g t k l) (cs : List Int) {B : Nat} (hr : Rd w B 1 A sLen (cs.map (Value.int k))) (hle : sLen ≤ dLen) (hfit : off + cs.length ≤ l.length)
    (h : ∀ w', Ints w' g t k (l.take off ++ (cs ++ l.drop (off + cs.length))) → w.grownBy w' (some g) → wpList P ops Q rest (a.put o.dst (goInt cs.length)) w') : wpList P ops Q (o :: rest) a w :=
  wpList_plain hgd fun _ hK => wp_copy_rd d s dT sT ho elem hu hsz g off dLen dCap A sLen sCap hd hs hI cs hr hle hfit fun w' h1 h2 => hK _ _ (h w' h1 h2)
theorem bytes_at {w : World} {B : Nat} {k : IntKind} {b o n : Nat} {l : List Int} (h : Rd w B 1 (some ⟨b, o, none⟩) n (l.map (Value.int k))) {j : Nat} (hj : j < n) : w.cell? ⟨b, o + j, none⟩ = some (.int k (l.getD j 0)) := by
  obtain ⟨h1, h2⟩ := h
  obtain ⟨b', o', e, _, hc⟩ := h2 (by omega)
  injection e with e
  injection e with e1 e2
  subst e1; subst e2
  have hl : j < l.length := by simpa using (show j < (l.map (Value.int k)).length by omega)
  exact hc j _ (by rw [List.getElem?_map, List.getElem?_eq_getElem hl]; simp [hl])
theorem getD_bd {l : List Int} {P : Int → Prop} (h : ∀ x ∈ l, P x) {j : Nat} (hj : j < l.length) : P (l.getD j 0) := by
  rw [List.getD_eq_getElem?_getD, List.getElem?_eq_getElem hj]; exact h _ (List.getElem_mem hj)
theorem grown_set {a w : World} {g : Nat} (h : a.grownBy w (some g)) (i : Nat) (u : Value) : a.grownBy (w.setCell ⟨g, i, none⟩ u) (some g) :=
  ⟨h.os, h.tape, h.output, by simpa [World.setCell] using h.size, fun k hk hne => (Below.heap_setCell w ⟨g, i, none⟩ u k (fun e => hne (by rw [e]))).trans (h.block k hk hne)⟩
theorem grown_drewN {a w : World} {row : Option Nat} (h : a.grownBy w row) (n : Nat) : a.grownBy (w.drewN n) row := ⟨h.os, h.tape, h.output, h.size, h.block⟩
theorem grown_drew {a w : World} {row : Option Nat} (h : a.grownBy w row) : a.grownBy w.drew row := ⟨h.os, h.tape, h.output, h.size, h.block⟩
theorem grown_alloc {a w : World} {row : Option Nat} (h : a.grownBy w row) (o : Obj) : a.grownBy (w.alloc o) row :=
  ⟨h.os, h.tape, h.output, by have := h.size; simp; omega, fun k hk hne => (Below.heap_alloc w o k (by have := h.size; omega)).trans (h.block k hk hne)⟩
/-- a store into a block that is new since a -/
theorem grown_setNew {a w : World} {row : Option Nat} (h : a.grownBy w row) {p : Addr} (hp : a.heap.size ≤ p.block) (u : Value) : a.grownBy (w.setCell p u) row :=
  ⟨h.os, h.tape, h.output, by simpa [World.setCell] using h.size, fun k hk hne => (Below.heap_setCell w p u k (by omega)).trans (h.block k hk hne)⟩
theorem Below.of_grown {B : Nat} {a w w' : World} {row : Option Nat} (h : Below B a w) (hg : w.grownBy w' row) (hB : B ≤ w.heap.size) (hr : ∀ k, row = some k → B ≤ k) : Below B a w' := h.grown hg hB hr
end Go.Proofs.YtpjggokaolnbcaaDoor
