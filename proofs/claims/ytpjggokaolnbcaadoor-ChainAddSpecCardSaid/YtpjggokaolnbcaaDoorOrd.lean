/- A region that draws its order, inside a fence, also in a round of a range over a function: what reads memory may be taken first, if whatever does not wait for it keeps the condition C i under which operation i yields its value (a store that waits for the load need not keep it). After the library's laws on orders, with that one turn. -/
import Derived.OrdersIn
import Derived.OrdersHeld
import Derived.RangeFuncNested
import Derived.RangeFuncBox
import Derived.RangeFuncLeaves
import Derived.Maps.OwnIn
import Derived.Maps.OwnSet
import Derived.Deep.RegionHeld
namespace Go.Proofs.YtpjggokaolnbcaaDoor
open Go.RowKit
section
variable {F : Fence} {n : Nat} {P : Program} {ops : Array Oper} {Q : Exit → Act → World → Prop} {md : Region.Mode} {S : World → Prop} {C : Nat → World → Prop}

def noDef (ops : Array Oper) : Bool := ops.all fun o => match o.op with | .defer _ => false | _ => true
theorem noDef_spec (h : noDef ops = true) {i : Nat} {o : Oper} (ho : ops[i]? = some o) : ∀ c, o.op ≠ Op.defer c := by
  intro c hc
  obtain ⟨hi, rfl⟩ := Array.getElem?_eq_some_iff.1 ho
  have := (Array.all_eq_true.1 h) i hi
  rw [hc] at this
  cases this
/-- operation j waits for operation i -/
def waitsB (md : Region.Mode) (ops : Array Oper) (j i : Nat) : Bool := match ops[j]? with | some o => o.after.any fun e => Region.binds md e && e.on == i | none => false
theorem waitsB_spec {j i : Nat} (h : waitsB md ops j i = true) : ∃ o, ops[j]? = some o ∧ ∃ e ∈ o.after, Region.binds md e = true ∧ e.on = i := by
  unfold waitsB at h
  split at h
  · rename_i o ho
    obtain ⟨e, he, hb⟩ := Array.any_eq_true'.1 h
    simp only [Bool.and_eq_true, beq_iff_eq] at hb
    exact ⟨o, ho, e, he, hb.1, hb.2⟩
  · cases h
/-- In state a, in every world that meets S, the operation leaves v in its temporary and does nothing else; it makes no call. -/
def YT (P : Program) (ops : Array Oper) (S : World → Prop) (o : Oper) (v : Value) (a : Act) : Prop := YieldsIf P ops S o v a ∧ ∀ w, o.about P w a.eval = none
theorem YT.wpOpIn {i : Nat} {o : Oper} {v : Value} {a : Act} (hd : noDef ops = true) (hi : ops[i]? = some o) (hy : YT P ops S o v a)
    {K : Act → World → Prop} {w : World} (hS : S w) (h : K (a.put o.dst v) w) : wpOpIn F n P ops Q i K a w := by
  unfold Go.wpOpIn
  simp only [hi]
  have hab : ∀ f, o.about P w a.eval = some f → F.fn f := fun f hf => by rw [hy.2 w] at hf; cases hf
  rcases hy.1 with ⟨hw, hv⟩ | ⟨hw, rfl⟩
  · simp only [hw, if_true, Oper.wpIn]
    rw [Oper.semAt_plain F _ _ (noDef_spec hd hi), hv w hS]
    exact ⟨hab, h⟩
  · simp only [hw, Bool.false_eq_true, if_false]; exact ⟨hab, h⟩
theorem YT.of_same {o : Oper} {v : Value} {a a' : Act} (hy : YT P ops S o v a) (he : execOp a'.eval o = execOp a.eval o)
    (hw : Region.wanted o (yielded ops a'.tmps) = Region.wanted o (yielded ops a.tmps)) (hb : ∀ w, o.about P w a'.eval = o.about P w a.eval) : YT P ops S o v a' :=
  ⟨hy.1.of_same he hw, fun w => by rw [hb w]; exact hy.2 w⟩
theorem wpOpIn_putT {j : Nat} {oi oj : Oper} {v : Value} (hd : noDef ops = true) (hj : ops[j]? = some oj) (hap : oi.apart ops oj = true)
    (hsi : ∀ cs b, oi.op ≠ .select cs b) (hsj : ∀ cs b, oj.op ≠ .select cs b)
    (hQ : ∀ c a w, Q (.panic c) (a.put oi.dst v) w → Q (.panic c) a w) {K : Act → World → Prop} {a : Act} {w : World}
    (hy : YT P ops S oi v a) (h : wpOpIn F n P ops Q j K (a.put oi.dst v) w) :
    wpOpIn F n P ops Q j (fun a' w' => YT P ops S oi v a' ∧ K (a'.put oi.dst v) w') a w := by
  obtain ⟨h1, h2, h3⟩ := Oper.apart_spec hap
  have keep : ∀ (a : Act), YT P ops S oi v a → ∀ u, YT P ops S oi v (a.put oj.dst u) := fun a hy u =>
    hy.of_same (execOp_put oi hsi a oj.dst u h3) (wanted_put oi a oj.dst u h3) (fun w => about_put oi w a oj.dst u h3)
  have keepD : ∀ d, YT P ops S oi v { a with defers := d :: a.defers } := fun d => hy.of_same rfl rfl (fun _ => rfl)
  have hnd := noDef_spec hd hj
  unfold wpOpIn at *
  simp only [hj] at *
  rw [wanted_put oj a oi.dst v h1, about_put oj w a oi.dst v h1] at h
  split
  · rename_i hw
    simp only [hw, if_true] at h
    unfold Oper.wpIn at *
    rw [about_put oj w a oi.dst v h1] at h
    refine ⟨h.1, ?_⟩
    have h := h.2
    rw [Oper.semAt_plain F _ _ hnd, execOp_put oj hsj a oi.dst v h1] at h
    rw [Oper.semAt_plain F _ _ hnd]
    generalize (execOp a.eval oj).run P w = r at *
    cases r with
    | ok x w' =>
      cases x <;> simp only [Oper.uponIn] at h ⊢
      case value u => exact ⟨keep a hy u, by rw [← Act.put_comm a v u h2]; exact h⟩
      case skip => exact ⟨keep a hy _, by rw [← Act.put_comm a v undef h2]; exact h⟩
      case defer d =>
        refine ⟨keep _ (keepD d) _, ?_⟩
        rw [← Act.put_comm _ v undef h2, ← Act.put_defers]
        exact h
      case enter f args =>
        refine ⟨h.1, CallsIn.mono h.2 fun e w'' he => ?_⟩
        cases e with
        | returned u => exact ⟨keep a hy u, by rw [← Act.put_comm a v u h2]; exact he⟩
        | panicked c => exact hQ _ _ _ he
        | outgrown => exact he
      case row row args => exact ⟨h.1, RowsIn.mono h.2 fun u w'' he => ⟨keep a hy u, by rw [← Act.put_comm a v u h2]; exact he⟩⟩
      case round l f tmps assign body =>
        refine ⟨h.1, RoundIn.mono h.2 fun e w'' he => ?_⟩
        cases e with
        | returned u => exact ⟨keep a hy u, by rw [← Act.put_comm a v u h2]; exact he⟩
        | panicked c => exact hQ _ _ _ he
        | outgrown => exact he
    | halt x w' =>
      cases x <;> simp only [Oper.uponIn] at h ⊢
      case panic u => exact hQ _ _ _ h
  · rename_i hw
    simp only [hw] at h
    exact ⟨h.1, keep a hy _, by rw [← Act.put_comm a v undef h2]; exact h.2⟩
/-- of those taken early: for which operation j does not wait -/
def lateE (md : Region.Mode) (ops : Array Oper) (E : List Nat) (j : Nat) : List Nat := E.filter fun e => !waitsB md ops j e
theorem lateE_sub {E E' : List Nat} {j : Nat} (h : ∀ e ∈ E', e ∈ E) : ∀ e ∈ lateE md ops E' j, e ∈ lateE md ops E j := by
  intro e he
  unfold lateE at *
  rw [List.mem_filter] at *
  exact ⟨h e he.1, he.2⟩
/-- Whatever order is picked from here on. E: what was taken early and may in truth be still to come; behind each operation the conditions of those hold for which it does not wait. -/
def wpAnyT (F : Fence) (n : Nat) (P : Program) (md : Region.Mode) (ops : Array Oper) (Q : Exit → Act → World → Prop) (C : Nat → World → Prop) : Nat → List Nat → Array Bool → Act → World → Prop
  | 0, _, listed, a, w => Region.ready md ops listed = [] ∧ Q .normal a w
  | fuel + 1, E, listed, a, w =>
    (Region.ready md ops listed = [] → Q .normal a w) ∧
    ∀ j ∈ Region.ready md ops listed, wpOpIn F n P ops Q j (fun a' w' => (∀ e ∈ lateE md ops E j, C e w') ∧ wpAnyT F n P md ops Q C fuel (lateE md ops E j) (listed.setIfInBounds j true) a' w') a w
theorem wpAnyIn_of_T : ∀ (fuel : Nat) (E : List Nat) (listed : Array Bool) (a : Act) (w : World), wpAnyT F n P md ops Q C fuel E listed a w → wpAnyIn F n P md ops Q fuel listed a w
  | 0, _, _, _, _, h => h
  | fuel + 1, _, _, _, _, h => ⟨h.1, fun i hi => wpOpIn_mono (fun a' w' h' => wpAnyIn_of_T fuel _ _ a' w' h'.2) (h.2 i hi)⟩
theorem wpAnyT_sub : ∀ (fuel : Nat) (E E' : List Nat) (listed : Array Bool) (a : Act) (w : World), (∀ e ∈ E', e ∈ E) → wpAnyT F n P md ops Q C fuel E listed a w → wpAnyT F n P md ops Q C fuel E' listed a w
  | 0, _, _, _, _, _, _, h => h
  | fuel + 1, _, _, _, _, _, hs, h => ⟨h.1, fun j hj => wpOpIn_mono (fun a' w' h' => ⟨fun e he => h'.1 e (lateE_sub hs e he), wpAnyT_sub fuel _ _ _ a' w' (lateE_sub hs) h'.2⟩) (h.2 j hj)⟩
theorem wpAnyT_first {i : Nat} {oi : Oper} {v : Value} (hd : noDef ops = true) (hi : ops[i]? = some oi) (hsel : ∀ (j : Nat) (o : Oper) cs b, ops[j]? = some o → o.op ≠ .select cs b)
    (hQ : ∀ c a w, Q (.panic c) (a.put oi.dst v) w → Q (.panic c) a w) :
    ∀ (fuel : Nat) (E : List Nat) (listed : Array Bool) (a : Act) (w : World),
      (∀ j oj, ops[j]? = some oj → j ≠ i → listed.getD j true = false → (∀ e ∈ oj.after, Region.binds md e = true → e.on ≠ i) → oi.apart ops oj = true) →
      i ∈ Region.ready md ops listed → YT P ops (C i) oi v a → C i w → (∀ e ∈ E, C e w) →
      wpAnyT F n P md ops Q C fuel (i :: E) (listed.setIfInBounds i true) (a.put oi.dst v) w → wpAnyT F n P md ops Q C (fuel + 1) E listed a w := by
  intro fuel
  induction fuel with
  | zero =>
    intro E listed a w _ hr hy hS hE H
    refine ⟨fun h => (by rw [h] at hr; cases hr), fun j hj => ?_⟩
    by_cases hji : j = i
    · subst hji; exact hy.wpOpIn hd hi hS ⟨fun e he => hE e (List.mem_filter.1 he).1, H⟩
    · have := ready_mono hj hji
      rw [H.1] at this
      cases this
  | succ fuel ih =>
    intro E listed a w hfree hr hy hS hE H
    refine ⟨fun h => (by rw [h] at hr; cases hr), fun j hj => ?_⟩
    by_cases hji : j = i
    · subst hji; exact hy.wpOpIn hd hi hS ⟨fun e he => hE e (List.mem_filter.1 he).1, wpAnyT_sub _ _ _ _ _ _ (fun e he => List.mem_cons_of_mem _ (List.mem_filter.1 he).1) H⟩
    · have h1 := H.2 j (ready_mono hj hji)
      obtain ⟨hjun, oj, hoj, hall⟩ := mem_ready.1 hj
      have hnot : ∀ e ∈ oj.after, Region.binds md e = true → e.on ≠ i := fun e he hb heq => by
        have h1 := hall e he hb
        have h0 := (mem_ready.1 hr).1
        rw [heq] at h1
        rcases Nat.lt_or_ge i listed.size with h' | h'
        · simp [h'] at h0 h1; rw [h0] at h1; cases h1
        · simp [Array.getElem?_eq_none h'] at h1
      have hw : waitsB md ops j i = false := by
        cases hc : waitsB md ops j i with
        | false => rfl
        | true =>
          obtain ⟨o', ho', e, he, hb, hon⟩ := waitsB_spec hc
          obtain rfl := Option.some.inj (hoj.symm.trans ho')
          exact absurd hon (hnot e he hb)
      have hlate : lateE md ops (i :: E) j = i :: lateE md ops E j := by
        unfold lateE
        rw [List.filter_cons, hw]; rfl
      have h2 := wpOpIn_putT hd hoj (hfree j oj hoj hji hjun hnot) (fun cs b => hsel i oi cs b hi) (fun cs b => hsel j oj cs b hoj) hQ hy h1
      have hfree' : ∀ k ok, ops[k]? = some ok → k ≠ i → (listed.setIfInBounds j true).getD k true = false →
          (∀ e ∈ ok.after, Region.binds md e = true → e.on ≠ i) → oi.apart ops ok = true := fun k ok hk hki hun hno => by
        refine hfree k ok hk hki ?_ hno
        by_cases hjk : j = k
        · subst hjk; exact hjun
        · rw [getD_set_ne true hjk] at hun; exact hun
      refine wpOpIn_mono (fun a' w' h3 => ?_) h2
      obtain ⟨h4, h5, h6⟩ := h3
      rw [hlate] at h5 h6
      refine ⟨fun e he => h5 e (List.mem_cons_of_mem _ he), ih _ (listed.setIfInBounds j true) a' w' hfree' (ready_mono hr (Ne.symm hji)) h4 (h5 i List.mem_cons_self) (fun e he => h5 e (List.mem_cons_of_mem _ he)) ?_⟩
      rw [Array.setIfInBounds_comm _ _ hji]
      exact h6
theorem op0 {α : Type} {o : α} {l : List α} : (List.toArray (o :: l))[0]? = some o := rfl
theorem opS {α : Type} {x o : α} {l : List α} {i : Nat} (h : (List.toArray l)[i]? = some o) : (List.toArray (x :: l))[i + 1]? = some o := by
  simpa using h
/-- Take number i first. -/
theorem wpAnyT_take {i : Nat} {oi : Oper} (v : Value) {fuel : Nat} {E : List Nat} {listed : Array Bool} (L' : Array Bool) {a : Act} {w : World} (hi : ops[i]? = some oi)
    (hc : (noDef ops && Region.noSelect ops && Region.free md ops listed i && (Region.ready md ops listed).contains i && listed.setIfInBounds i true == L') = true)
    (hQ : ∀ c a w, Q (.panic c) (a.put oi.dst v) w → Q (.panic c) a w) (hab : ∀ w, oi.about P w a.eval = none) (hy : YieldsIf P ops (C i) oi v a) (hE : ∀ e, C e w)
    (h : wpAnyT F n P md ops Q C fuel (i :: E) L' (a.put oi.dst v) w) : wpAnyT F n P md ops Q C (fuel + 1) E listed a w := by
  simp only [Bool.and_eq_true, beq_iff_eq] at hc
  obtain ⟨⟨⟨⟨h1, h4⟩, h5⟩, h6⟩, h7⟩ := hc
  exact wpAnyT_first h1 hi (Region.noSelect_spec h4) hQ fuel E listed a w (Region.free_spec hi h5) (by simpa using h6) ⟨hy, hab⟩ (hE _) (fun e _ => hE e) (by rw [h7]; exact h)
/-- Only number i may come up. -/
theorem wpAnyT_one {i : Nat} {o : Oper} {fuel : Nat} {E : List Nat} (E' : List Nat) {listed : Array Bool} (L' : Array Bool) {a : Act} {w : World} (ho : ops[i]? = some o)
    (hc : (Region.ready md ops listed == [i] && lateE md ops E i == E' && listed.setIfInBounds i true == L') = true)
    (h : ∀ K' : Act → World → Prop, Shut (∀ a w, (∀ e ∈ E', C e w) → wpAnyT F n P md ops Q C fuel E' L' a w → K' a w) → if Region.wanted o (yielded ops a.tmps) = true then Oper.wpIn F n P o a w K' Q else (∀ f, o.about P w a.eval = some f → F.fn f) ∧ K' (a.put o.dst undef) w) :
    wpAnyT F n P md ops Q C (fuel + 1) E listed a w := by
  simp only [Bool.and_eq_true, beq_iff_eq] at hc
  obtain ⟨⟨hr, hE'⟩, hL⟩ := hc
  refine ⟨fun h0 => (by rw [h0] at hr; cases hr), fun j hj => ?_⟩
  rw [hr] at hj
  obtain rfl := List.mem_singleton.1 hj
  unfold wpOpIn
  rw [ho, hE', hL]
  exact h _ (fun a w hS hW => ⟨hS, hW⟩)
theorem wpAnyT_done {E : List Nat} {listed : Array Bool} {a : Act} {w : World} (hr : Region.ready md ops listed = []) (h : Q .normal a w) :
    ∀ fuel, wpAnyT F n P md ops Q C fuel E listed a w
  | 0 => ⟨hr, h⟩
  | _ + 1 => ⟨fun _ => h, by rw [hr]; simp⟩
theorem wpIn_region_T (C : Nat → World → Prop) (m : Nat) (L0 : Array Bool) {id : Nat} {a : Act} {w : World} (hc : (P.follows .mixedOrders && ops.size == m && Array.replicate m false == L0) = true)
    (h : wpAnyT F n P .any ops Q C m [] L0 a w.drew) : (Code.region id ops true).wpIn F n P Q a w := by
  simp only [Bool.and_eq_true, beq_iff_eq] at hc
  obtain ⟨⟨h1, h2⟩, h3⟩ := hc
  refine wpIn_region_any h1 (wpAnyIn_of_T (C := C) _ [] _ _ _ ?_)
  rw [h2, h3]
  exact h
end
section
variable {H : Type} {F : Fence} {nF : Nat} {P : Program} {ops : Array Oper} {Q : Exit → Act → World → Prop} {rest : List Oper} {o : Oper} {a : Act} {w : World}
theorem wpListIn_len_own (hg : o.guard = none) (m : Operand) (t : TypeId) (hop : o.op = Op.call { callee := Callee.builtin Builtin.len, args := #[m], argTypes := #[t] })
    (k e : TypeId) (ht : P.underlying t = some (.map k e)) (R : Value → Option (DataW H × List MemPlace)) (b n : Nat) (D : DataW H) (hm : a.eval m = .map (some b)) (hown : w.ownsMap P k R b n D)
    (hK : wpListIn F nF P ops Q rest (a.put o.dst (.int .i64 (Maps.size D))) w) :
    wpListIn F nF P ops Q (o :: rest) a w := by
  refine wpListIn_plain hg fun K' hK' => ?_
  unfold Oper.wpIn
  refine ⟨by simp [Oper.about, hop, resolve, Target.leads], ?_⟩
  rw [Oper.semAt_plain F _ _ (by rw [hop]; intro c hc'; cases hc')]
  simp [execOp, hop, resolve, invoke, builtin, hm, hown.len ht o.type, Result.andThen]
  exact hK' _ _ hK
end
/-- a frame of known size, written out by one function -/
theorem arr_fun (T : Array Value) (n : Nat) (h : T.size = n) : ∃ v : Nat → Value, T = ((List.range n).map v).toArray ∧ ∀ i, T.getD i undef = v i := by
  refine ⟨fun i => T.getD i undef, ?_, fun _ => rfl⟩
  subst h
  apply Array.ext
  · simp
  · intro i h1 h2
    simp [h1]
theorem al_cell {V : World} {o : Obj} {p : Addr} {u : Value} (h : V.cell? p = some u) : (V.alloc o).cell? p = some u := cell_kept h (World.grownBy_alloc V o none) (fun r e => by cases e)
theorem st_cell {V : World} {q p : Addr} {u x : Value} (hne : q ≠ p) (h : V.cell? p = some u) : (V.setCell q x).cell? p = some u := (World.cell?_setCell_other V q p x hne).trans h
theorem two_new (W : World) (u v : Value) (t : TypeId) : (W.alloc (.cells #[u, v] t)).cell? ⟨W.heap.size, 0, none⟩ = some u ∧ (W.alloc (.cells #[u, v] t)).cell? ⟨W.heap.size, 1, none⟩ = some v := by
  have h : (W.alloc (.cells #[u, v] t)).heap[W.heap.size]? = some (.cells #[u, v] t (0, 0)) := World.alloc_heap_new W _
  exact ⟨cell_of_row _ _ 0 _ _ _ h, cell_of_row _ _ 1 _ _ _ h⟩
/-- the marks that ranges over functions have left: blocks from B up to C that hold no deferred call, each another -/
def Marks (B C : Nat) (ds : List Deferred) (w : World) : Prop :=
  (∀ d ∈ ds, ∃ D, d = { target := .collected D, args := #[] } ∧ B ≤ D ∧ D < C ∧ w.heap[D]? = some (.deferred (some []))) ∧ ds.Pairwise fun d d' => d.target ≠ d'.target
theorem Marks.nil (B C : Nat) (w : World) : Marks B C [] w := ⟨by simp, .nil⟩
theorem Marks.keep {B C : Nat} {ds : List Deferred} {w w' : World} (h : Marks B C ds w) (hb : Below C w w') : Marks B C ds w' :=
  ⟨fun d hd => by obtain ⟨D, e, h1, h2, h3⟩ := h.1 d hd; exact ⟨D, e, h1, h2, (hb.block D h2).trans h3⟩, h.2⟩
theorem Marks.cons {B C C' : Nat} {ds : List Deferred} {w : World} {D : Nat} (h : Marks B C ds w) (hB : B ≤ D) (hC : C ≤ D) (hD : D < C') (hd : w.heap[D]? = some (.deferred (some []))) :
    Marks B C' ({ target := .collected D, args := #[] } :: ds) w := by
  refine ⟨fun d hd' => ?_, List.pairwise_cons.2 ⟨fun d hd' => ?_, h.2⟩⟩
  · rcases List.mem_cons.1 hd' with rfl | hd'
    · exact ⟨D, rfl, hB, hD, hd⟩
    · obtain ⟨D', e, h1, h2, h3⟩ := h.1 d hd'; exact ⟨D', e, h1, by omega, h3⟩
  · obtain ⟨D', rfl, h1, h2, h3⟩ := h.1 d hd'
    intro e
    simp only [Target.collected.injEq] at e
    omega
theorem leaves_marks {F : Fence} {n : Nat} {P : Program} {fn : Func} {tmps : Array Value} {R : Ending → World → Prop} {B C : Nat} : ∀ (ds : List Deferred) (w : World), Marks B C ds w →
    (∀ w', Below B w w' → LeavesIn F n P fn tmps R [] .returning w') → LeavesInM F n P fn tmps R ds .returning w
  | [], w, _, h => h w (Below.refl _ _)
  | d :: ds, w, hm, h => by
    obtain ⟨h1, h2⟩ := hm
    obtain ⟨D, rfl, hB, hC, hD⟩ := h1 d List.mem_cons_self
    have h3 := List.pairwise_cons.1 h2
    refine ⟨by simp, .inl ⟨D, _, rfl, run_takeDeferred hD, ?_⟩⟩
    have hb : Below B w (w.putObj D (.deferred none)) := (Below.refl B w).grown (grownBy_putObj' w D _) (by have := (Array.getElem?_eq_some_iff.1 hD).1; omega) (fun k e => by cases e; exact hB)
    refine leaves_marks (C := C) ds _ ⟨fun d' hd' => ?_, h3.2⟩ (fun w' hb' => h w' (hb.trans hb'))
    obtain ⟨D', rfl, hB', hC', hD'⟩ := h1 d' (List.mem_cons_of_mem _ hd')
    have hne : D' ≠ D := fun e => h3.1 _ hd' (by rw [e])
    exact ⟨D', rfl, hB', hC', by rw [(grownBy_putObj' w D (.deferred none)).block D' (Array.getElem?_eq_some_iff.1 hD').1 (by simpa using hne)]; exact hD'⟩
end Go.Proofs.YtpjggokaolnbcaaDoor
