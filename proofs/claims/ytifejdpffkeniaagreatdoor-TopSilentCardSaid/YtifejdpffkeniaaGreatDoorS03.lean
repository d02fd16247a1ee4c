import Derived.Deep.RegionHeld
import Derived.KernelRfl
import Derived.Laws.EntriesVeiled
import Derived.LoopIn
import Derived.LoopNIn
import Derived.Maps.OwnIn
import Derived.Maps.OwnOps
import Derived.Maps.OwnSet
import Derived.OrdersHeld
import Derived.OrdersIn
import Derived.OwnWalkIn
import Derived.RangeFuncBound
import Derived.RangeFuncBox
import Derived.RangeFuncCalls
import Derived.RangeFuncLeaves
import Derived.RangeFuncNested
import Derived.Shelf.Abstract
import Derived.Tactics
import Derived.TacticsInMore
import Derived.Test.YtifejdpffkeniaaGreatDoorChecked
import Derived.WalkKit
import Derived.Test.YtifejdpffkeniaaGreatDoorS01
set_option linter.unusedVariables false
set_option maxRecDepth 100000
set_option maxHeartbeats 40000000
namespace Go.Proofs.YtifejdpffkeniaaGreatDoor
open Go.RowKit
def Row (w : World) (g : Nat) (t : TypeId) (cs : List Value) : Prop := w.heap[g]? = some (.cells cs.toArray t (0,0))
section
variable {w w' : World} {g : Nat} {t : TypeId} {cs : List Value}
theorem Row.lt (h : Row w g t cs) : g < w.heap.size := heap_lt h
theorem Row.cell (h : Row w g t cs) {i : Nat} {v : Value} (hv : cs[i]? = some v) : w.cell? ⟨g,i,none⟩ = some v := by
 rw [cell_of_row w g i _ t (0,0) h];simpa using hv
theorem Row.below {B : Nat} (h : Row w g t cs) (hb : Below B w w') (hg : g < B) : Row w' g t cs := (hb.block g hg).trans h
theorem Row.alloc (h : Row w g t cs) (o : Obj) : Row (w.alloc o) g t cs := (Below.heap_alloc w o g h.lt).trans h
theorem Row.grown {row : Option Nat} (h : Row w g t cs) (hb : w.grownBy w' row) (hg : some g ≠ row) : Row w' g t cs := (hb.block g h.lt hg).trans h
end
theorem wpList_store_cells {P : Program} {ops : Array Oper} {rest : List Oper} {o : Oper} {a : Act} {w : World} {Q : Exit → Act → World → Prop} (hgd : o.guard = none) (ty : TypeId) (x y : Operand) (ho : o.op = .store ty x y)
  (g : Nat) (cs : List Value) (hx : a.eval x = .pointer (some ⟨g,0,none⟩)) (hy : a.eval y = .agg cs.toArray)
  (t : TypeId) (old : Array Value) (hg : w.heap[g]? = some (.cells old t (0,0))) (hl : old.size = cs.length) (hi : (P.info? ty).map (·.size) = some cs.length) (h1 : ∀ u ∈ cs,u.oneCell' = true)
  (h : ∀ w',Row w' g t cs → w.grownBy w' (some g) → wpList P ops Q rest (a.put o.dst undef) w') : wpList P ops Q (o :: rest) a w :=
 wpList_store_row hgd ty x y ho g _ hx hy t old hg (by simpa using hi) (by simpa using hl) (by rw [Array.all_eq_true_iff_forall_mem];intro v hv;exact h1 v (by simpa using hv)) (h _ (setRow_heap w g _ _ t _ hg) (grown_row _))
theorem flat_at2 {α : Type} (f : α → List Value) (s : Nat) : ∀ (l : List α) (hs : ∀ x ∈ l,(f x).length = s) (k i : Nat) (x : α),l[k]? = some x → i < s → (l.flatMap f)[k * s + i]? = (f x)[i]?
 | [],_,k,i,x,h,_ => by simp at h
 | a :: l,hs,0,i,x,h,hi => by
  simp at h;subst h;rw [List.flatMap_cons,List.getElem?_append_left (by rw [hs a (by simp)];omega),Nat.zero_mul,Nat.zero_add]
 | a :: l,hs,k + 1,i,x,h,hi => by
  simp at h;have ha := hs a (by simp);rw [List.flatMap_cons,List.getElem?_append_right (by rw [ha,Nat.succ_mul];omega),ha,show (k + 1) * s + i - s = k * s + i by rw [Nat.succ_mul];omega];exact flat_at2 f s l (fun y hy => hs y (by simp [hy])) k i x h hi
theorem wpList_exec_val {P : Program} {ops : Array Oper} {rest : List Oper} {o : Oper} {a : Act} {w : World} {Q : Exit → Act → World → Prop} (v : Value) (hw : Region.wanted o (yielded ops a.tmps) = true)
  (hrun : (execOp a.eval o).run P w = .ok (.value v) w) (h : wpList P ops Q rest (a.put o.dst v) w) : wpList P ops Q (o :: rest) a w := by
 refine wpList_step fun K hK => ?_;rw [if_pos hw];unfold Oper.wp;rw [hrun];exact hK _ _ h
theorem rd_nil (w : World) (B s : Nat) (A : Option Addr) : Rd w B s A 0 [] := ⟨(Nat.zero_mul s).symm,fun h => absurd h (by omega)⟩
section
variable {P : Program} {a : Act} {o : Oper} {w : World}
theorem run_load_exec (ty : TypeId) (x : Operand) (ho : o.op = .load ty x)
  (p : Addr) (hx : a.eval x = .pointer (some p)) (cs : List Value) (d : TypeDesc) (hc : ∀ (j : Nat) (v : Value),cs[j]? = some v → w.cell? (p.add j) = some v)
  (hu : P.underlying ty = some d) (hd : (match d with | .struct _ | .array _ _ => true | _ => false) = true) (hi : (P.info? ty).map (·.size) = some cs.length) :
  (execOp a.eval o).run P w = .ok (.value (.agg cs.toArray)) w := by
 unfold execOp;simp only [ho,hx,Instr.loadAt,Instr.sureAddr,Sem.run_bind,Sem.run_pure,Result.andThen_ok,run_loadVar_cells w p ty cs d hc hu hd hi]
end
end Go.Proofs.YtifejdpffkeniaaGreatDoor
namespace Go.Proofs.YtifejdpffkeniaaGreatDoor
open Go.RowKit
section
variable {P : Program} {ops : Array Oper} {md : Region.Mode} {Q : Exit → Act → World → Prop} {S : World → Prop}
def wpOrd (P : Program) (ops : Array Oper) (Q : Exit → Act → World → Prop) (S : World → Prop) : List (Nat × Bool) → Act → World → Prop
 | [],a,w => Q .normal a w
 | (i,true) :: l,a,w => ∃ o v,ops[i]? = some o ∧ YieldsIf P ops S o v a ∧ wpOrd P ops Q S l (a.put o.dst v) w
 | (i,false) :: l,a,w => wpOp P ops Q i (fun a' w' => S w' ∧ wpOrd P ops Q S l a' w') a w
def ordB (md : Region.Mode) (ops : Array Oper) : List (Nat × Bool) → Array Bool → Bool
 | [],listed => (Region.ready md ops listed).isEmpty
 | (i,true) :: l,listed => (Region.ready md ops listed).contains i && Region.free md ops listed i && ordB md ops l (listed.setIfInBounds i true)
 | (i,false) :: l,listed => decide (Region.ready md ops listed = [i]) && ordB md ops l (listed.setIfInBounds i true)
theorem wpAnyH_of_ord (hsel : Region.noSelect ops = true) (hQ : ∀ (x : Option Tmp) (v : Value) c a w,Q (.panic c) (a.put x v) w → Q (.panic c) a w) :
  ∀ (l : List (Nat × Bool)) (listed : Array Bool) (a : Act) (w : World),ordB md ops l listed = true → S w → wpOrd P ops Q S l a w → wpAnyH P md ops Q S l.length listed a w
 | [],listed,a,w,hB,_,h => ⟨by simpa [ordB] using hB,h⟩
 | (i,true) :: l,listed,a,w,hB,hS,h => by
  simp only [ordB,Bool.and_eq_true] at hB;obtain ⟨o,v,ho,hy,h⟩ := h;exact wpAnyH_take ho hsel hB.1.2 hB.1.1 (fun c a w h => hQ _ _ c a w h) hy hS (wpAnyH_of_ord hsel hQ l _ _ w hB.2 hS h)
 | (i,false) :: l,listed,a,w,hB,hS,h => by
  simp only [ordB,Bool.and_eq_true,decide_eq_true_eq] at hB;refine wpAnyH_all hB.1 (by simp) fun j hj => ?_;rw [List.mem_singleton] at hj;subst hj;exact wpOp_mono (fun a' w' h' => ⟨h'.1,wpAnyH_of_ord hsel hQ l _ a' w' hB.2 h'.1 h'.2⟩) h
theorem wp_region_ord {id : Nat} {a : Act} {w : World} {l : List Oper} (S : World → Prop) (r : List (Nat × Bool)) (hm : P.follows .mixedOrders = true) (hsel : Region.noSelect l.toArray = true) (hr : r.length = l.length)
  (hB : ordB .any l.toArray r (Array.replicate l.length false) = true) (hQ : ∀ (x : Option Tmp) (v : Value) c a w,Q (.panic c) (a.put x v) w → Q (.panic c) a w) (hS : S w.drew)
  (h : wpOrd P l.toArray Q S r a w.drew) : (Code.region id l.toArray true).wp P Q a w := by
 refine wp_region_held (S := S) hm ?_;have := wpAnyH_of_ord (md := .any) hsel hQ r (Array.replicate l.length false) a _ hB hS h;rw [hr] at this
 simpa using this
theorem wpOrd_nil {a : Act} {w : World} (h : Q .normal a w) : wpOrd P ops Q S [] a w := h
theorem wpOrd_take {i : Nat} {l : List (Nat × Bool)} {a : Act} {w : World} {o : Oper} (ho : ops[i]? = some o) (v : Value) (hw : Region.wanted o (yielded ops a.tmps) = true)
  (hy : ∀ w',S w' → (execOp a.eval o).run P w' = .ok (.value v) w') (h : ∀ K : Act → Prop,(∀ a',wpOrd P ops Q S l a' w → K a') → K (a.put o.dst v)) : wpOrd P ops Q S ((i,true) :: l) a w :=
 ⟨o,v,ho,.inl ⟨hw,hy⟩,h _ fun _ h => h⟩
theorem wpOrd_force {i : Nat} {l : List (Nat × Bool)} {a : Act} {w : World} {o : Oper} (ho : ops[i]? = some o) (hw : Region.wanted o (yielded ops a.tmps) = true)
  (h : ∀ K : Act → World → Prop,(∀ a' w',S w' → wpOrd P ops Q S l a' w' → K a' w') → o.wp P a w K Q) : wpOrd P ops Q S ((i,false) :: l) a w := by
 unfold wpOrd wpOp;rw [ho];show if Region.wanted o (yielded ops a.tmps) = true then _ else _;rw [if_pos hw];exact .inl (h _ fun _ _ h1 h2 => ⟨h1,h2⟩)
end
end Go.Proofs.YtifejdpffkeniaaGreatDoor
namespace Go.Proofs.YtifejdpffkeniaaGreatDoor
open Go.RowKit
inductive OT where
 | done
 | take (i : Nat) (t : OT)
 | one (i : Nat) (t : OT)
 | two (i : Nat) (t : OT) (j : Nat) (u : OT)
section
variable {P : Program} {ops : Array Oper} {md : Region.Mode} {Q : Exit → Act → World → Prop} {S : World → Prop}
def OT.depth : OT → Nat
 | .done => 0
 | .take _ t => t.depth + 1
 | .one _ t => t.depth + 1
 | .two _ t _ u => max t.depth u.depth + 1
def wpOT (P : Program) (ops : Array Oper) (Q : Exit → Act → World → Prop) (S : World → Prop) : OT → Act → World → Prop
 | .done,a,w => Q .normal a w
 | .take i t,a,w => ∃ o v,ops[i]? = some o ∧ YieldsIf P ops S o v a ∧ wpOT P ops Q S t (a.put o.dst v) w
 | .one i t,a,w => wpOp P ops Q i (fun a' w' => S w' ∧ wpOT P ops Q S t a' w') a w
 | .two i t j u,a,w => wpOp P ops Q i (fun a' w' => S w' ∧ wpOT P ops Q S t a' w') a w ∧ wpOp P ops Q j (fun a' w' => S w' ∧ wpOT P ops Q S u a' w') a w
def otB (md : Region.Mode) (ops : Array Oper) : OT → Array Bool → Bool
 | .done,listed => (Region.ready md ops listed).isEmpty
 | .take i t,listed => (Region.ready md ops listed).contains i && Region.free md ops listed i && otB md ops t (listed.setIfInBounds i true)
 | .one i t,listed => decide (Region.ready md ops listed = [i]) && otB md ops t (listed.setIfInBounds i true)
 | .two i t j u,listed => decide (Region.ready md ops listed = [i,j]) && otB md ops t (listed.setIfInBounds i true) && otB md ops u (listed.setIfInBounds j true)
theorem wpAnyH_of_tree (hsel : Region.noSelect ops = true) (hQ : ∀ (x : Option Tmp) (v : Value) c a w,Q (.panic c) (a.put x v) w → Q (.panic c) a w) :
  ∀ (t : OT) (fuel : Nat) (listed : Array Bool) (a : Act) (w : World),t.depth ≤ fuel → otB md ops t listed = true → S w → wpOT P ops Q S t a w → wpAnyH P md ops Q S fuel listed a w
 | .done,fuel,listed,a,w,_,hB,_,h => wpAnyH_done (by simpa [otB] using hB) h fuel
 | .take i t,0,_,_,_,hd,_,_,_ => by simp [OT.depth] at hd
 | .one i t,0,_,_,_,hd,_,_,_ => by simp [OT.depth] at hd
 | .two i t j u,0,_,_,_,hd,_,_,_ => by simp [OT.depth] at hd
 | .take i t,fuel + 1,listed,a,w,hd,hB,hS,h => by
  simp only [otB,Bool.and_eq_true] at hB;obtain ⟨o,v,ho,hy,h⟩ := h;exact wpAnyH_take ho hsel hB.1.2 hB.1.1 (fun c a w h => hQ _ _ c a w h) hy hS (wpAnyH_of_tree hsel hQ t fuel _ _ w (by simp only [OT.depth] at hd;omega) hB.2 hS h)
 | .one i t,fuel + 1,listed,a,w,hd,hB,hS,h => by
  simp only [otB,Bool.and_eq_true,decide_eq_true_eq] at hB;refine wpAnyH_all hB.1 (by simp) fun j hj => ?_;rw [List.mem_singleton] at hj;subst hj;exact wpOp_mono (fun a' w' h' => ⟨h'.1,wpAnyH_of_tree hsel hQ t fuel _ a' w' (by simp only [OT.depth] at hd;omega) hB.2 h'.1 h'.2⟩) h
 | .two i t j u,fuel + 1,listed,a,w,hd,hB,hS,h => by
  simp only [otB,Bool.and_eq_true,decide_eq_true_eq] at hB;refine wpAnyH_all hB.1.1 (by simp) fun k hk => ?_;simp only [List.mem_cons,List.not_mem_nil,or_false] at hk
  rcases hk with rfl | rfl
  ·exact wpOp_mono (fun a' w' h' => ⟨h'.1,wpAnyH_of_tree hsel hQ t fuel _ a' w' (by simp only [OT.depth] at hd;omega) hB.1.2 h'.1 h'.2⟩) h.1
  ·exact wpOp_mono (fun a' w' h' => ⟨h'.1,wpAnyH_of_tree hsel hQ u fuel _ a' w' (by simp only [OT.depth] at hd;omega) hB.2 h'.1 h'.2⟩) h.2
theorem wp_region_tree {id : Nat} {a : Act} {w : World} {l : List Oper} (S : World → Prop) (t : OT) (hm : P.follows .mixedOrders = true) (hsel : Region.noSelect l.toArray = true) (hd : decide (t.depth ≤ l.length) = true)
  (hB : otB .any l.toArray t (Array.replicate l.length false) = true) (hQ : ∀ (x : Option Tmp) (v : Value) c a w,Q (.panic c) (a.put x v) w → Q (.panic c) a w) (hS : S w.drew)
  (h : wpOT P l.toArray Q S t a w.drew) : (Code.region id l.toArray true).wp P Q a w := by
 refine wp_region_held (S := S) hm ?_;have := wpAnyH_of_tree (md := .any) hsel hQ t l.length (Array.replicate l.length false) a _ (of_decide_eq_true hd) hB hS h
 simpa using this
theorem wpOT_done {a : Act} {w : World} (h : Q .normal a w) : wpOT P ops Q S .done a w := h
theorem wpOT_take {i : Nat} {t : OT} {a : Act} {w : World} {o : Oper} (ho : ops[i]? = some o) (v : Value) (hw : Region.wanted o (yielded ops a.tmps) = true)
  (hy : ∀ w',S w' → (execOp a.eval o).run P w' = .ok (.value v) w') (h : ∀ K : Act → Prop,(∀ a',wpOT P ops Q S t a' w → K a') → K (a.put o.dst v)) : wpOT P ops Q S (.take i t) a w :=
 ⟨o,v,ho,.inl ⟨hw,hy⟩,h _ fun _ h => h⟩
theorem wpOp_force {i : Nat} {K0 : Act → World → Prop} {a : Act} {w : World} {o : Oper} (ho : ops[i]? = some o) (hw : Region.wanted o (yielded ops a.tmps) = true)
  (h : ∀ K : Act → World → Prop,(∀ a' w',K0 a' w' → K a' w') → o.wp P a w K Q) : wpOp P ops Q i K0 a w := by
 unfold wpOp;rw [ho];show if Region.wanted o (yielded ops a.tmps) = true then _ else _;rw [if_pos hw];exact .inl (h _ fun _ _ h => h)
theorem wpOT_one {i : Nat} {t : OT} {a : Act} {w : World} {o : Oper} (ho : ops[i]? = some o) (hw : Region.wanted o (yielded ops a.tmps) = true)
  (h : ∀ K : Act → World → Prop,(∀ a' w',S w' → wpOT P ops Q S t a' w' → K a' w') → o.wp P a w K Q) : wpOT P ops Q S (.one i t) a w :=
 wpOp_force ho hw fun K hK => h K fun a' w' h1 h2 => hK a' w' ⟨h1,h2⟩
theorem wpOT_two {i j : Nat} {t u : OT} {a : Act} {w : World} {o o' : Oper} (ho : ops[i]? = some o) (hw : Region.wanted o (yielded ops a.tmps) = true) (ho' : ops[j]? = some o') (hw' : Region.wanted o' (yielded ops a.tmps) = true)
  (h : ∀ K : Act → World → Prop,(∀ a' w',S w' → wpOT P ops Q S t a' w' → K a' w') → o.wp P a w K Q)
  (h' : ∀ K : Act → World → Prop,(∀ a' w',S w' → wpOT P ops Q S u a' w' → K a' w') → o'.wp P a w K Q) : wpOT P ops Q S (.two i t j u) a w :=
 ⟨wpOp_force ho hw fun K hK => h K fun a' w' h1 h2 => hK a' w' ⟨h1,h2⟩,wpOp_force ho' hw' fun K hK => h' K fun a' w' h1 h2 => hK a' w' ⟨h1,h2⟩⟩
end
section
variable {F : Fence} {n : Nat} {P : Program} {ops : Array Oper} {Q : Exit → Act → World → Prop} {md : Region.Mode} {S : World → Prop} {C : Nat → World → Prop}
def noDef (ops : Array Oper) : Bool := ops.all fun o => match o.op with | .defer _ => false | _ => true
theorem noDef_spec (h : noDef ops = true) {i : Nat} {o : Oper} (ho : ops[i]? = some o) : ∀ c,o.op ≠ Op.defer c := by
 intro c hc;obtain ⟨hi,rfl⟩ := Array.getElem?_eq_some_iff.1 ho;have := (Array.all_eq_true.1 h) i hi;rw [hc] at this
 cases this
def waitsB (md : Region.Mode) (ops : Array Oper) (j i : Nat) : Bool := match ops[j]? with | some o => o.after.any fun e => Region.binds md e && e.on == i | none => false
theorem waitsB_spec {j i : Nat} (h : waitsB md ops j i = true) : ∃ o,ops[j]? = some o ∧ ∃ e ∈ o.after,Region.binds md e = true ∧ e.on = i := by
 unfold waitsB at h
 split at h
 ·rename_i o ho
  obtain ⟨e,he,hb⟩ := Array.any_eq_true'.1 h;simp only [Bool.and_eq_true,beq_iff_eq] at hb;exact ⟨o,ho,e,he,hb.1,hb.2⟩
 ·cases h
def YT (P : Program) (ops : Array Oper) (S : World → Prop) (o : Oper) (v : Value) (a : Act) : Prop := YieldsIf P ops S o v a ∧ ∀ w,o.about P w a.eval = none
theorem YT.wpOpIn {i : Nat} {o : Oper} {v : Value} {a : Act} (hd : noDef ops = true) (hi : ops[i]? = some o) (hy : YT P ops S o v a)
  {K : Act → World → Prop} {w : World} (hS : S w) (h : K (a.put o.dst v) w) : wpOpIn F n P ops Q i K a w := by
 unfold Go.wpOpIn;simp only [hi];have hab : ∀ f,o.about P w a.eval = some f → F.fn f := fun f hf => by rw [hy.2 w] at hf;cases hf
 rcases hy.1 with ⟨hw,hv⟩ | ⟨hw,rfl⟩
 ·simp only [hw,if_true,Oper.wpIn]
  rw [Oper.semAt_plain F _ _ (noDef_spec hd hi),hv w hS];exact ⟨hab,h⟩
 ·simp only [hw,Bool.false_eq_true,if_false];exact ⟨hab,h⟩
theorem YT.of_same {o : Oper} {v : Value} {a a' : Act} (hy : YT P ops S o v a) (he : execOp a'.eval o = execOp a.eval o)
  (hw : Region.wanted o (yielded ops a'.tmps) = Region.wanted o (yielded ops a.tmps)) (hb : ∀ w,o.about P w a'.eval = o.about P w a.eval) : YT P ops S o v a' :=
 ⟨hy.1.of_same he hw,fun w => by rw [hb w];exact hy.2 w⟩
theorem wpOpIn_putT {j : Nat} {oi oj : Oper} {v : Value} (hd : noDef ops = true) (hj : ops[j]? = some oj) (hap : oi.apart ops oj = true)
  (hsi : ∀ cs b,oi.op ≠ .select cs b) (hsj : ∀ cs b,oj.op ≠ .select cs b)
  (hQ : ∀ c a w,Q (.panic c) (a.put oi.dst v) w → Q (.panic c) a w) {K : Act → World → Prop} {a : Act} {w : World}
  (hy : YT P ops S oi v a) (h : wpOpIn F n P ops Q j K (a.put oi.dst v) w) :
  wpOpIn F n P ops Q j (fun a' w' => YT P ops S oi v a' ∧ K (a'.put oi.dst v) w') a w := by
 obtain ⟨h1,h2,h3⟩ := Oper.apart_spec hap
 have keep : ∀ (a : Act),YT P ops S oi v a → ∀ u,YT P ops S oi v (a.put oj.dst u) := fun a hy u =>
  hy.of_same (execOp_put oi hsi a oj.dst u h3) (wanted_put oi a oj.dst u h3) (fun w => about_put oi w a oj.dst u h3)
 have keepD : ∀ d,YT P ops S oi v { a with defers := d :: a.defers } := fun d => hy.of_same rfl rfl (fun _ => rfl);have hnd := noDef_spec hd hj;unfold wpOpIn at *;simp only [hj] at *;rw [wanted_put oj a oi.dst v h1,about_put oj w a oi.dst v h1] at h
 split
 ·rename_i hw
  simp only [hw,if_true] at h;unfold Oper.wpIn at *;rw [about_put oj w a oi.dst v h1] at h;refine ⟨h.1,?_⟩;have h := h.2;rw [Oper.semAt_plain F _ _ hnd,execOp_put oj hsj a oi.dst v h1] at h;rw [Oper.semAt_plain F _ _ hnd];generalize (execOp a.eval oj).run P w = r at *
  cases r with
  | ok x w' =>
   cases x <;> simp only [Oper.uponIn] at h ⊢
   case value u => exact ⟨keep a hy u,by rw [← Act.put_comm a v u h2];exact h⟩
   case skip => exact ⟨keep a hy _,by rw [← Act.put_comm a v undef h2];exact h⟩
   case defer d =>
    refine ⟨keep _ (keepD d) _,?_⟩;rw [← Act.put_comm _ v undef h2,← Act.put_defers];exact h
   case enter f args =>
    refine ⟨h.1,CallsIn.mono h.2 fun e w'' he => ?_⟩
    cases e with
    | returned u => exact ⟨keep a hy u,by rw [← Act.put_comm a v u h2];exact he⟩
    | panicked c => exact hQ _ _ _ he
    | outgrown => exact he
   case row row args => exact ⟨h.1,RowsIn.mono h.2 fun u w'' he => ⟨keep a hy u,by rw [← Act.put_comm a v u h2];exact he⟩⟩
   case round l f tmps assign body =>
    refine ⟨h.1,RoundIn.mono h.2 fun e w'' he => ?_⟩
    cases e with
    | returned u => exact ⟨keep a hy u,by rw [← Act.put_comm a v u h2];exact he⟩
    | panicked c => exact hQ _ _ _ he
    | outgrown => exact he
  | halt x w' =>
   cases x <;> simp only [Oper.uponIn] at h ⊢
   case panic u => exact hQ _ _ _ h
 ·rename_i hw
  simp only [hw] at h;exact ⟨h.1,keep a hy _,by rw [← Act.put_comm a v undef h2];exact h.2⟩
def lateE (md : Region.Mode) (ops : Array Oper) (E : List Nat) (j : Nat) : List Nat := E.filter fun e => !waitsB md ops j e
theorem lateE_sub {E E' : List Nat} {j : Nat} (h : ∀ e ∈ E',e ∈ E) : ∀ e ∈ lateE md ops E' j,e ∈ lateE md ops E j := by
 intro e he;unfold lateE at *;rw [List.mem_filter] at *;exact ⟨h e he.1,he.2⟩
def wpAnyT (F : Fence) (n : Nat) (P : Program) (md : Region.Mode) (ops : Array Oper) (Q : Exit → Act → World → Prop) (C : Nat → World → Prop) : Nat → List Nat → Array Bool → Act → World → Prop
 | 0,_,listed,a,w => Region.ready md ops listed = [] ∧ Q .normal a w
 | fuel + 1,E,listed,a,w =>
  (Region.ready md ops listed = [] → Q .normal a w) ∧
  ∀ j ∈ Region.ready md ops listed,wpOpIn F n P ops Q j (fun a' w' => (∀ e ∈ lateE md ops E j,C e w') ∧ wpAnyT F n P md ops Q C fuel (lateE md ops E j) (listed.setIfInBounds j true) a' w') a w
theorem wpAnyIn_of_T : ∀ (fuel : Nat) (E : List Nat) (listed : Array Bool) (a : Act) (w : World),wpAnyT F n P md ops Q C fuel E listed a w → wpAnyIn F n P md ops Q fuel listed a w
 | 0,_,_,_,_,h => h
 | fuel + 1,_,_,_,_,h => ⟨h.1,fun i hi => wpOpIn_mono (fun a' w' h' => wpAnyIn_of_T fuel _ _ a' w' h'.2) (h.2 i hi)⟩
theorem wpAnyT_sub : ∀ (fuel : Nat) (E E' : List Nat) (listed : Array Bool) (a : Act) (w : World),(∀ e ∈ E',e ∈ E) → wpAnyT F n P md ops Q C fuel E listed a w → wpAnyT F n P md ops Q C fuel E' listed a w
 | 0,_,_,_,_,_,_,h => h
 | fuel + 1,_,_,_,_,_,hs,h => ⟨h.1,fun j hj => wpOpIn_mono (fun a' w' h' => ⟨fun e he => h'.1 e (lateE_sub hs e he),wpAnyT_sub fuel _ _ _ a' w' (lateE_sub hs) h'.2⟩) (h.2 j hj)⟩
theorem wpAnyT_first {i : Nat} {oi : Oper} {v : Value} (hd : noDef ops = true) (hi : ops[i]? = some oi) (hsel : ∀ (j : Nat) (o : Oper) cs b,ops[j]? = some o → o.op ≠ .select cs b)
  (hQ : ∀ c a w,Q (.panic c) (a.put oi.dst v) w → Q (.panic c) a w) :
  ∀ (fuel : Nat) (E : List Nat) (listed : Array Bool) (a : Act) (w : World),
   (∀ j oj,ops[j]? = some oj → j ≠ i → listed.getD j true = false → (∀ e ∈ oj.after,Region.binds md e = true → e.on ≠ i) → oi.apart ops oj = true) →
   i ∈ Region.ready md ops listed → YT P ops (C i) oi v a → C i w → (∀ e ∈ E,C e w) →
   wpAnyT F n P md ops Q C fuel (i :: E) (listed.setIfInBounds i true) (a.put oi.dst v) w → wpAnyT F n P md ops Q C (fuel + 1) E listed a w := by
 intro fuel
 induction fuel with
 | zero =>
  intro E listed a w _ hr hy hS hE H;refine ⟨fun h => (by rw [h] at hr;cases hr),fun j hj => ?_⟩
  by_cases hji : j = i
  ·subst hji;exact hy.wpOpIn hd hi hS ⟨fun e he => hE e (List.mem_filter.1 he).1,H⟩
  ·have := ready_mono hj hji
   rw [H.1] at this
   cases this
 | succ fuel ih =>
  intro E listed a w hfree hr hy hS hE H;refine ⟨fun h => (by rw [h] at hr;cases hr),fun j hj => ?_⟩
  by_cases hji : j = i
  ·subst hji;exact hy.wpOpIn hd hi hS ⟨fun e he => hE e (List.mem_filter.1 he).1,wpAnyT_sub _ _ _ _ _ _ (fun e he => List.mem_cons_of_mem _ (List.mem_filter.1 he).1) H⟩
  ·have h1 := H.2 j (ready_mono hj hji)
   obtain ⟨hjun,oj,hoj,hall⟩ := mem_ready.1 hj
   have hnot : ∀ e ∈ oj.after,Region.binds md e = true → e.on ≠ i := fun e he hb heq => by
    have h1 := hall e he hb;have h0 := (mem_ready.1 hr).1;rw [heq] at h1
    rcases Nat.lt_or_ge i listed.size with h' | h'
    ·simp [h'] at h0 h1;rw [h0] at h1;cases h1
    ·simp [Array.getElem?_eq_none h'] at h1
   have hw : waitsB md ops j i = false := by
    cases hc : waitsB md ops j i with
    | false => rfl
    | true =>
     obtain ⟨o',ho',e,he,hb,hon⟩ := waitsB_spec hc;obtain rfl := Option.some.inj (hoj.symm.trans ho');exact absurd hon (hnot e he hb)
   have hlate : lateE md ops (i :: E) j = i :: lateE md ops E j := by
    unfold lateE;rw [List.filter_cons,hw];rfl
   have h2 := wpOpIn_putT hd hoj (hfree j oj hoj hji hjun hnot) (fun cs b => hsel i oi cs b hi) (fun cs b => hsel j oj cs b hoj) hQ hy h1
   have hfree' : ∀ k ok,ops[k]? = some ok → k ≠ i → (listed.setIfInBounds j true).getD k true = false →
     (∀ e ∈ ok.after,Region.binds md e = true → e.on ≠ i) → oi.apart ops ok = true := fun k ok hk hki hun hno => by
    refine hfree k ok hk hki ?_ hno
    by_cases hjk : j = k
    ·subst hjk;exact hjun
    ·rw [getD_set_ne true hjk] at hun;exact hun
   refine wpOpIn_mono (fun a' w' h3 => ?_) h2;obtain ⟨h4,h5,h6⟩ := h3;rw [hlate] at h5 h6;refine ⟨fun e he => h5 e (List.mem_cons_of_mem _ he),ih _ (listed.setIfInBounds j true) a' w' hfree' (ready_mono hr (Ne.symm hji)) h4 (h5 i List.mem_cons_self) (fun e he => h5 e (List.mem_cons_of_mem _ he)) ?_⟩;rw [Array.setIfInBounds_comm _ _ hji];exact h6
theorem wpAnyT_done {E : List Nat} {listed : Array Bool} {a : Act} {w : World} (hr : Region.ready md ops listed = []) (h : Q .normal a w) :
  ∀ fuel,wpAnyT F n P md ops Q C fuel E listed a w
 | 0 => ⟨hr,h⟩
 | _ + 1 => ⟨fun _ => h,by rw [hr];simp⟩
end
section
variable {H : Type} {F : Fence} {nF : Nat} {P : Program} {ops : Array Oper} {Q : Exit → Act → World → Prop} {rest : List Oper} {o : Oper} {a : Act} {w : World}
end
theorem arr_fun (T : Array Value) (n : Nat) (h : T.size = n) : ∃ v : Nat → Value,T = ((List.range n).map v).toArray ∧ ∀ i,T.getD i undef = v i := by
 refine ⟨fun i => T.getD i undef,?_,fun _ => rfl⟩;subst h;apply Array.ext
 ·simp
 ·intro i h1 h2
  simp [h1]
def Marks (B C : Nat) (ds : List Deferred) (w : World) : Prop :=
 (∀ d ∈ ds,∃ D,d = { target := .collected D,args := #[] } ∧ B ≤ D ∧ D < C ∧ w.heap[D]? = some (.deferred (some []))) ∧ ds.Pairwise fun d d' => d.target ≠ d'.target
theorem Marks.nil (B C : Nat) (w : World) : Marks B C [] w := ⟨by simp,.nil⟩
theorem Marks.keep {B C : Nat} {ds : List Deferred} {w w' : World} (h : Marks B C ds w) (hb : Below C w w') : Marks B C ds w' :=
 ⟨fun d hd => by obtain ⟨D,e,h1,h2,h3⟩ := h.1 d hd;exact ⟨D,e,h1,h2,(hb.block D h2).trans h3⟩,h.2⟩
theorem Marks.cons {B C C' : Nat} {ds : List Deferred} {w : World} {D : Nat} (h : Marks B C ds w) (hB : B ≤ D) (hC : C ≤ D) (hD : D < C') (hd : w.heap[D]? = some (.deferred (some []))) :
  Marks B C' ({ target := .collected D,args := #[] } :: ds) w := by
 refine ⟨fun d hd' => ?_,List.pairwise_cons.2 ⟨fun d hd' => ?_,h.2⟩⟩
 ·rcases List.mem_cons.1 hd' with rfl | hd'
  ·exact ⟨D,rfl,hB,hD,hd⟩
  ·obtain ⟨D',e,h1,h2,h3⟩ := h.1 d hd';exact ⟨D',e,h1,by omega,h3⟩
 ·obtain ⟨D',rfl,h1,h2,h3⟩ := h.1 d hd'
  intro e;simp only [Target.collected.injEq] at e;omega
theorem leaves_marks {F : Fence} {n : Nat} {P : Program} {fn : Func} {tmps : Array Value} {R : Ending → World → Prop} {B C : Nat} : ∀ (ds : List Deferred) (w : World),Marks B C ds w →
  (∀ w',Below B w w' → LeavesIn F n P fn tmps R [] .returning w') → LeavesInM F n P fn tmps R ds .returning w
 | [],w,_,h => h w (Below.refl _ _)
 | d :: ds,w,hm,h => by
  obtain ⟨h1,h2⟩ := hm;obtain ⟨D,rfl,hB,hC,hD⟩ := h1 d List.mem_cons_self;have h3 := List.pairwise_cons.1 h2;refine ⟨by simp,.inl ⟨D,_,rfl,run_takeDeferred hD,?_⟩⟩;have hb : Below B w (w.putObj D (.deferred none)) := (Below.refl B w).grown (grownBy_putObj' w D _) (by have := (Array.getElem?_eq_some_iff.1 hD).1;omega) (fun k e => by cases e;exact hB);refine leaves_marks (C := C) ds _ ⟨fun d' hd' => ?_,h3.2⟩ (fun w' hb' => h w' (hb.trans hb'));obtain ⟨D',rfl,hB',hC',hD'⟩ := h1 d' (List.mem_cons_of_mem _ hd');have hne : D' ≠ D := fun e => h3.1 _ hd' (by rw [e]);exact ⟨D',rfl,hB',hC',by rw [(grownBy_putObj' w D (.deferred none)).block D' (Array.getElem?_eq_some_iff.1 hD').1 (by simpa using hne)];exact hD'⟩
section
variable {F : Fence} {n : Nat} {P : Program} {ops : Array Oper} {Q : Exit → Act → World → Prop} {md : Region.Mode} {S : World → Prop}
def wpOTI (F : Fence) (n : Nat) (P : Program) (ops : Array Oper) (Q : Exit → Act → World → Prop) (S : World → Prop) : OT → Act → World → Prop
 | .done,a,w => Q .normal a w
 | .take i t,a,w => ∃ o v,ops[i]? = some o ∧ YT P ops S o v a ∧ wpOTI F n P ops Q S t (a.put o.dst v) w
 | .one i t,a,w => wpOpIn F n P ops Q i (fun a' w' => S w' ∧ wpOTI F n P ops Q S t a' w') a w
 | .two i t j u,a,w => wpOpIn F n P ops Q i (fun a' w' => S w' ∧ wpOTI F n P ops Q S t a' w') a w ∧ wpOpIn F n P ops Q j (fun a' w' => S w' ∧ wpOTI F n P ops Q S u a' w') a w
theorem wpAnyT_of_tree (hd : noDef ops = true) (hsel : Region.noSelect ops = true) (hQ : ∀ (x : Option Tmp) (v : Value) c a w,Q (.panic c) (a.put x v) w → Q (.panic c) a w) :
  ∀ (t : OT) (fuel : Nat) (E : List Nat) (listed : Array Bool) (a : Act) (w : World),t.depth ≤ fuel → otB md ops t listed = true → S w → wpOTI F n P ops Q S t a w → wpAnyT F n P md ops Q (fun _ => S) fuel E listed a w
 | .done,fuel,E,listed,a,w,_,hB,_,h => wpAnyT_done (by simpa [otB] using hB) h fuel
 | .take i t,0,_,_,_,_,hp,_,_,_ => by simp [OT.depth] at hp
 | .one i t,0,_,_,_,_,hp,_,_,_ => by simp [OT.depth] at hp
 | .two i t j u,0,_,_,_,_,hp,_,_,_ => by simp [OT.depth] at hp
 | .take i t,fuel + 1,E,listed,a,w,hp,hB,hS,h => by
  simp only [otB,Bool.and_eq_true] at hB;obtain ⟨o,v,ho,hy,h⟩ := h
  exact wpAnyT_first hd ho (Region.noSelect_spec hsel) (fun c a w h => hQ _ _ c a w h) fuel E listed a w (Region.free_spec ho hB.1.2) (by simpa using hB.1.1) hy hS (fun _ _ => hS)
   (wpAnyT_of_tree hd hsel hQ t fuel _ _ _ w (by simp only [OT.depth] at hp;omega) hB.2 hS h)
 | .one i t,fuel + 1,E,listed,a,w,hp,hB,hS,h => by
  simp only [otB,Bool.and_eq_true,decide_eq_true_eq] at hB;refine ⟨fun h0 => (by rw [h0] at hB;cases hB.1),fun j hj => ?_⟩;rw [hB.1,List.mem_singleton] at hj;subst hj;exact wpOpIn_mono (fun a' w' h' => ⟨fun _ _ => h'.1,wpAnyT_of_tree hd hsel hQ t fuel _ _ a' w' (by simp only [OT.depth] at hp;omega) hB.2 h'.1 h'.2⟩) h
 | .two i t j u,fuel + 1,E,listed,a,w,hp,hB,hS,h => by
  simp only [otB,Bool.and_eq_true,decide_eq_true_eq] at hB;refine ⟨fun h0 => (by rw [h0] at hB;cases hB.1.1),fun k hk => ?_⟩;rw [hB.1.1] at hk;simp only [List.mem_cons,List.not_mem_nil,or_false] at hk
  rcases hk with rfl | rfl
  ·exact wpOpIn_mono (fun a' w' h' => ⟨fun _ _ => h'.1,wpAnyT_of_tree hd hsel hQ t fuel _ _ a' w' (by simp only [OT.depth] at hp;omega) hB.1.2 h'.1 h'.2⟩) h.1
  ·exact wpOpIn_mono (fun a' w' h' => ⟨fun _ _ => h'.1,wpAnyT_of_tree hd hsel hQ u fuel _ _ a' w' (by simp only [OT.depth] at hp;omega) hB.2 h'.1 h'.2⟩) h.2
theorem wpIn_region_tree {id : Nat} {a : Act} {w : World} {l : List Oper} (S : World → Prop) (t : OT) (hm : P.follows .mixedOrders = true) (hd : noDef l.toArray = true) (hsel : Region.noSelect l.toArray = true) (hp : decide (t.depth ≤ l.length) = true)
  (hB : otB .any l.toArray t (Array.replicate l.length false) = true) (hQ : ∀ (x : Option Tmp) (v : Value) c a w,Q (.panic c) (a.put x v) w → Q (.panic c) a w) (hS : S w.drew)
  (h : wpOTI F n P l.toArray Q S t a w.drew) : (Code.region id l.toArray true).wpIn F n P Q a w := by
 refine wpIn_region_any hm (wpAnyIn_of_T (C := fun _ => S) _ [] _ _ _ ?_);have := wpAnyT_of_tree (md := .any) hd hsel hQ t l.length [] (Array.replicate l.length false) a _ (of_decide_eq_true hp) hB hS h
 simpa using this
def noPanic (Q : Exit → Act → World → Prop) : Exit → Act → World → Prop
 | .panic _,_,_ => False
 | e,a,w => Q e a w
theorem wpIn_region_treeM {id : Nat} {a : Act} {w : World} {l : List Oper} (S : World → Prop) (t : OT) (hm : P.follows .mixedOrders = true) (hd : noDef l.toArray = true) (hsel : Region.noSelect l.toArray = true) (hp : decide (t.depth ≤ l.length) = true)
  (hB : otB .any l.toArray t (Array.replicate l.length false) = true) (hS : S w.drew)
  (h : wpOTI F n P l.toArray (noPanic Q) S t a w.drew) : (Code.region id l.toArray true).wpIn F n P Q a w := by
 refine wpIn_mono (wpIn_region_tree (Q := noPanic Q) S t hm hd hsel hp hB (fun _ _ _ _ _ h => h) hS h) ?_;intro e a w h
 cases e <;> first | exact h | exact h.elim
theorem wpOTI_done {a : Act} {w : World} (h : Q .normal a w) : wpOTI F n P ops Q S .done a w := h
theorem wpOTI_take {i : Nat} {t : OT} {a : Act} {w : World} {o : Oper} (ho : ops[i]? = some o) (v : Value) (hw : Region.wanted o (yielded ops a.tmps) = true) (hab : ∀ w,o.about P w a.eval = none)
  (hy : ∀ w',S w' → (execOp a.eval o).run P w' = .ok (.value v) w') (h : ∀ K : Act → Prop,(∀ a',wpOTI F n P ops Q S t a' w → K a') → K (a.put o.dst v)) : wpOTI F n P ops Q S (.take i t) a w :=
 ⟨o,v,ho,⟨.inl ⟨hw,hy⟩,hab⟩,h _ fun _ h => h⟩
theorem wpOpIn_force {i : Nat} {K0 : Act → World → Prop} {a : Act} {w : World} {o : Oper} (ho : ops[i]? = some o) (hw : Region.wanted o (yielded ops a.tmps) = true)
  (h : ∀ K : Act → World → Prop,(∀ a' w',K0 a' w' → K a' w') → o.wpIn F n P a w K Q) : wpOpIn F n P ops Q i K0 a w := by
 unfold wpOpIn;rw [ho];show if Region.wanted o (yielded ops a.tmps) = true then _ else _;rw [if_pos hw];exact h _ fun _ _ h => h
theorem wpOTI_one {i : Nat} {t : OT} {a : Act} {w : World} {o : Oper} (ho : ops[i]? = some o) (hw : Region.wanted o (yielded ops a.tmps) = true)
  (h : ∀ K : Act → World → Prop,(∀ a' w',S w' → wpOTI F n P ops Q S t a' w' → K a' w') → o.wpIn F n P a w K Q) : wpOTI F n P ops Q S (.one i t) a w :=
 wpOpIn_force ho hw fun K hK => h K fun a' w' h1 h2 => hK a' w' ⟨h1,h2⟩
theorem wpOTI_two {i j : Nat} {t u : OT} {a : Act} {w : World} {o o' : Oper} (ho : ops[i]? = some o) (hw : Region.wanted o (yielded ops a.tmps) = true) (ho' : ops[j]? = some o') (hw' : Region.wanted o' (yielded ops a.tmps) = true)
  (h : ∀ K : Act → World → Prop,(∀ a' w',S w' → wpOTI F n P ops Q S t a' w' → K a' w') → o.wpIn F n P a w K Q)
  (h' : ∀ K : Act → World → Prop,(∀ a' w',S w' → wpOTI F n P ops Q S u a' w' → K a' w') → o'.wpIn F n P a w K Q) : wpOTI F n P ops Q S (.two i t j u) a w :=
 ⟨wpOpIn_force ho hw fun K hK => h K fun a' w' h1 h2 => hK a' w' ⟨h1,h2⟩,wpOpIn_force ho' hw' fun K hK => h' K fun a' w' h1 h2 => hK a' w' ⟨h1,h2⟩⟩
end
section
variable {w w' : World} {g : Nat} {t : TypeId} {cs : List Value}
theorem Row.put (h : Row w g t cs) (i : Nat) (v : Value) : Row (w.setCell ⟨g,i,none⟩ v) g t (cs.set i v) := by
 unfold Row at h ⊢;simp [World.setCell,Array.getElem?_modify,h]
theorem Row.away (h : Row w g t cs) {p : Addr} (hp : g ≠ p.block) (v : Value) : Row (w.setCell p v) g t cs := (Below.heap_setCell w p v g hp).trans h
theorem Row.fz (h : Row w g t cs) (i : Nat) : w.frozen? ⟨g,i,none⟩ = false := by
 unfold Row at h;simp [World.frozen?,h]
theorem Row.fresh (w : World) (t : TypeId) (cs : List Value) : Row (w.alloc (.cells cs.toArray t)) w.heap.size t cs := heap_alloc_new w _
theorem Row.fresh' (w : World) (t : TypeId) (cs : List Value) {s : Nat} (hs : w.heap.size = s) : Row (w.alloc (.cells cs.toArray t)) s t cs := by rw [← hs];exact Row.fresh w t cs
end
def leftR {σ : Type} (B : Nat) (I : σ → World → Prop) (Ix : Code → σ → World → Prop) (s : σ) (W : World) : Exit → Act → World → Prop
 | .normal,_,W' => KeepsFrom B W W' ∧ I s W'
 | .ret,_,W' => KeepsFrom B W W' ∧ Ix .ret s W'
 | .exit id,_,W' => KeepsFrom B W W' ∧ Ix (.exit id) s W'
 | _,_,_ => False
structure Tch (ex : Nat → Prop) (w w' : World) : Prop where
 os : w'.os = w.os
 tape : w'.tape = w.tape
 output : w'.output = w.output
 size : w.heap.size ≤ w'.heap.size
 block : ∀ k,k < w.heap.size → ¬ ex k → w'.heap[k]? = w.heap[k]?
section
variable {ex : Nat → Prop} {a b c : World}
theorem Tch.refl (ex : Nat → Prop) (w : World) : Tch ex w w := ⟨rfl,rfl,rfl,Nat.le_refl _,fun _ _ _ => rfl⟩
theorem Tch.trans (h : Tch ex a b) (k : Tch ex b c) : Tch ex a c :=
 ⟨k.os.trans h.os,k.tape.trans h.tape,k.output.trans h.output,Nat.le_trans h.size k.size,fun i hi hx => (k.block i (by have := h.size;omega) hx).trans (h.block i hi hx)⟩
theorem Tch.of_below {B : Nat} (h : Below B a b) (hB : ∀ k,B ≤ k → k < a.heap.size → ex k) : Tch ex a b :=
 ⟨h.os,h.tape,h.output,h.size,fun k hk hx => h.block k (by
  rcases Nat.lt_or_ge k B with h1 | h1
  ·exact h1
  ·exact absurd (hB k h1 hk) hx)⟩
theorem Tch.of_bel (h : Below a.heap.size a b) : Tch ex a b := Tch.of_below h fun k h1 h2 => by omega
theorem Tch.set (h : Tch ex a b) {p : Addr} (hp : a.heap.size ≤ p.block ∨ ex p.block) (v : Value) : Tch ex a (b.setCell p v) :=
 ⟨h.os,h.tape,h.output,by simpa [World.setCell] using h.size,fun k hk hx => (Below.heap_setCell b p v k (fun e => by
  subst e
  rcases hp with h1 | h1
  ·omega
  ·exact hx h1)).trans (h.block k hk hx)⟩
theorem Tch.alloc (h : Tch ex a b) (o : Obj) : Tch ex a (b.alloc o) := h.trans (Tch.of_bel ((Below.refl _ _).alloc (Nat.le_refl _) o))
theorem Tch.drew (h : Tch ex a b) : Tch ex a b.drew := h.trans (Tch.of_bel (Below.refl _ _).drew)
theorem Tch.next (h : Tch ex a b) (k : Below b.heap.size b c) : Tch ex a c := h.trans (Tch.of_bel k)
theorem Tch.grown {row : Option Nat} (h : Tch ex a b) (k : b.grownBy c row) (hr : ∀ g,row = some g → a.heap.size ≤ g ∨ ex g) : Tch ex a c :=
 ⟨k.os.trans h.os,k.tape.trans h.tape,k.output.trans h.output,Nat.le_trans h.size k.size,fun i hi hx => (k.block i (by have := h.size;omega) (fun e => by
  rcases hr i e.symm with h1 | h1
  ·omega
  ·exact hx h1)).trans (h.block i hi hx)⟩
theorem Tch.row (h : Tch ex a b) {g : Nat} {t : TypeId} {cs : List Value} (hr : Row a g t cs) (hx : ¬ ex g) : Row b g t cs := (h.block g hr.lt hx).trans hr
theorem Tch.cell (h : Tch ex a b) {p : Addr} (hp : p.block < a.heap.size) (hx : ¬ ex p.block) : b.cell? p = a.cell? p := World.cell?_of_block (h.block p.block hp hx)
theorem Tch.below (h : Tch ex a b) {B : Nat} (hB : B ≤ a.heap.size) (he : ∀ i,i < B → ¬ ex i) : Below B a b := ⟨h.os,h.tape,h.output,h.size,fun k hk => h.block k (by omega) (he k hk)⟩
theorem Tch.mono {ex' : Nat → Prop} (h : Tch ex a b) (he : ∀ i,i < a.heap.size → ex i → ex' i) : Tch ex' a b := ⟨h.os,h.tape,h.output,h.size,fun k hk hx => h.block k hk (fun e => hx (he k hk e))⟩
theorem Tch.keepsFrom {B : Nat} (h : Tch ex a b) (hx : ∀ k,ex k → ∀ o,a.heap[k]? = some o → o.isCells = true) : KeepsFrom B a b :=
 ⟨h.size,fun k o _ hk ho => (h.block k (heap_lt hk) (fun he => by have := hx k he o hk;rw [ho] at this;cases this)).trans hk⟩
theorem Row.isc {w : World} {g : Nat} {t : TypeId} {cs : List Value} (h : Row w g t cs) {o : Obj} (ho : w.heap[g]? = some o) : o.isCells = true := by
 unfold Row at h;rw [h] at ho;cases ho;rfl
end
section
variable {F : Fence} {n : Nat} {P : Program} {w : World} {σ : Type}
def Hands (F : Fence) (n : Nat) (P : Program) (gf : Nat) (lb : Array Value) (w0 : World) (I : σ → World → Prop) (T : σ → Array Value → σ → World → Prop) (s0 : σ) (S : σ → Prop) : Prop :=
 ∀ (l : Nat) (J Jx : σ → World → Prop) (W : World),Below w0.heap.size w0 W → (∀ s X,J s X → I s X) → AbidesFrom W.heap.size J → AbidesFrom W.heap.size Jx →
  (∀ s vs s' X,J s X → T s vs s' X → YieldAt F (n - 1) P l vs X fun e X' => (e = .returned (.bool true) ∧ J s' X') ∨ (e = .returned (.bool false) ∧ Jx s' X')) →
  J s0 W → CallsIn F n P gf (#[.func (.yield l) #[] #[]] ++ lb) W fun e W' => (∃ v,e = .returned v) ∧ ((∃ s,S s ∧ J s W') ∨ (∃ s,Jx s W'))
theorem wpIn_range_hands {g : Operand} {ps : Array Tmp} {assign body : Code} {Q : Exit → Act → World → Prop} {a : Act} (hro : F.round = none) (h1 : 1 ≤ n) {gf : Nat} {lb : Array Value} (hg : a.eval g = .func (.func gf) #[] lb) (hFg : F.fn gf)
  (eg : ∀ args w,(callFunc gf args).run P w = .ok (.enter gf args) w) (I : σ → World → Prop) (Ix : Code → σ → World → Prop) (T : σ → Array Value → σ → World → Prop) (s0 : σ) (S : σ → Prop) (w0 : World) (hb0 : Below w0.heap.size w0 w)
  (hseq : Hands F (n - 1) P gf lb w0 I T s0 S) (hI : OwnFrom w.heap.size I) (hIx : ∀ c,OwnFrom w.heap.size (Ix c)) (h0 : I s0 w) (hps : ∀ s vs s' W,T s vs s' W → vs.size = ps.size)
  (Ax : σ → Act → World → Prop) (hAx : ∀ s a',OwnFrom w.heap.size (fun (_ : Unit) W => Ax s a' W))
  (hassign : ∀ (l : Nat) (s : σ) (vs : Array Value) (s' : σ) (W : World) (K : Act → World → Prop),I s W → T s vs s' W → (∀ a' W',KeepsFrom w.heap.size W W' → Ax s' a' W' → K a' W') →
   assign.wpIn (F.inRound l) (n - 1 - 1) P (Exit.then K (fun _ _ _ => False)) { tmps := (ps.zip vs).foldl (fun t (p,v) => t.setIfInBounds p v) a.tmps,defers := [] } W)
  (hbody : ∀ (l : Nat) (s : σ) (a' : Act) (W : World),w.heap.size ≤ l → Ax s a' W → body.wpIn (F.inRound l) (n - 1 - 1) P (leftR w.heap.size I Ix s W) a' W)
  (hdone : ∀ (D : Nat) (s : σ) (W : World),w.heap.size ≤ D → S s → I s W → W.heap[D]? = some (.deferred (some [])) → Q .normal { a with defers := { target := .collected D,args := #[] } :: a.defers } W)
  (hstop : ∀ (D : Nat) (c : Code) (s : σ) (W : World),w.heap.size ≤ D → Ix c s W → W.heap[D]? = some (.deferred (some [])) → c.wpIn F n P Q { a with defers := { target := .collected D,args := #[] } :: a.defers } W) :
  (Code.rangeFunc g ps assign body).wpIn F n P Q a w := by
 refine wpIn_rangeFunc fun fn hfn => ?_;rw [hro];obtain ⟨B,hB⟩ : ∃ B,w.heap.size = B := ⟨_,rfl⟩;rw [hB] at hI hIx hAx hassign hbody hdone hstop
 let rec_ (st : LoopState) (pe : Option Code) : Loop := { state := st,pending := pe,fn,tmps := a.tmps,params := ps,assign,body,defers := B }
 have key : ∀ X : World,X.heap[B + 1]? = some (.loop (rec_ .ready none)) → X.heap[B]? = some (.deferred (some [])) → ∀ Y,KeepsFrom B X Y → Y.heap[B + 1]? = some (.loop (rec_ .ready none)) ∧ Y.heap[B]? = some (.deferred (some [])) :=
  fun X h1 h2 Y hk => ⟨hk.same _ _ (by omega) h1 rfl,hk.same _ _ (Nat.le_refl _) h2 rfl⟩
 obtain ⟨W1,hW1⟩ : ∃ W1,(w.alloc (.deferred (some []))).alloc (.loop (rec_ .ready none)) = W1 := ⟨_,rfl⟩;have hs1 : W1.heap.size = B + 2 := by rw [← hW1];simp [hB]
 have hL1 : W1.heap[B + 1]? = some (.loop (rec_ .ready none)) := by
  rw [← hW1];have h := World.alloc_heap_new (w.alloc (.deferred (some []))) (.loop (rec_ .ready none))
  rwa [World.size_alloc,hB] at h
 have hK1 : W1.heap[B]? = some (.deferred (some [])) := by
  rw [← hW1,← hB];exact (Below.heap_alloc _ _ _ (by simp)).trans (World.alloc_heap_new w _)
 have hI1 : I s0 W1 := by rw [← hW1];exact hI.alloc _ (hI.alloc _ h0)
 have hb1 : Below w0.heap.size w0 W1 := by
  rw [← hW1];exact hb0.trans ((((Below.refl _ w).alloc (Nat.le_refl _) _).alloc (by simp) _).mono hb0.size)
 refine ⟨B + 1,[{ target := .collected B,args := #[] }],W1,{ target := .fn (.func gf) lb,args := #[.func (.yield (B + 1)) #[] #[]] },W1,gf,#[.func (.yield (B + 1)) #[] #[]] ++ lb,W1,?_,?_,?_,?_,fun _ => h1,?_⟩
 ·rw [← hW1]
  have h := run_enterLoop_outer (P := P) (w := w) fn a.tmps ps assign body;rw [hB] at h;exact h
 ·simp only [resolve,hg];simp [go_sem]
 ·intro f' hf';simp [Target.leads] at hf';subst hf';exact hFg
 ·simp [invoke,go_sem,eg]
 ·have hw2 : ∀ {X : World} {row : Option Nat},(∀ r,row = some r → W1.heap.size ≤ r ∧ ∃ o : Obj,X.heap[r]? = some o ∧ o.isWalk = true) → (∀ r,row = some r → B ≤ r ∧ ∃ o : Obj,X.heap[r]? = some o ∧ o.isCells = false) := fun hr r e => by
   obtain ⟨h1,o,ho,hw⟩ := hr r e;exact ⟨by omega,o,ho,Obj.not_cells_of_walk hw⟩
  refine (hseq (B + 1) (fun s X => I s X ∧ X.heap[B + 1]? = some (.loop (rec_ .ready none)) ∧ X.heap[B]? = some (.deferred (some []))) (fun s X => ∃ c,Ix c s X ∧ X.heap[B + 1]? = some (.loop (rec_ .done (some c))) ∧ X.heap[B]? = some (.deferred (some [])))
   W1 hb1 (fun s X h => h.1) ?_ ?_ ?_ ⟨hI1,hL1,hK1⟩).mono ?_
  ·rintro s X Y row ⟨h1,h2,h3⟩ hg' hr
   exact ⟨hI s X Y row h1 hg' (hw2 hr),(grownBy_keeps hg' (fun r e => (hr r e).2) h2 rfl).trans h2,(grownBy_keeps hg' (fun r e => (hr r e).2) h3 rfl).trans h3⟩
  ·rintro s X Y row ⟨c,h1,h2,h3⟩ hg' hr
   exact ⟨c,hIx c s X Y row h1 hg' (hw2 hr),(grownBy_keeps hg' (fun r e => (hr r e).2) h2 rfl).trans h2,(grownBy_keeps hg' (fun r e => (hr r e).2) h3 rfl).trans h3⟩
  ·rintro s vs s' X ⟨hi,hl,hk⟩ hT
   refine ⟨fn,_,assign,body,run_yield (P := P) hl (hps s vs s' X hT),roundIn_of_wpIn hfn (hassign _ s vs s' X _ hi hT ?_)⟩;intro a' X1 hk1 hax;obtain ⟨hl1,hd1⟩ := key X hl hk X1 hk1;have hlt : B + 1 < X1.heap.size := heap_lt hl1;refine ⟨_,run_beginRound hl1 rfl,?_⟩;have hl2 : (X1.putObj (B + 1) (.loop { rec_ .ready none with state := .busy })).heap[B + 1]? = some (.loop { rec_ .ready none with state := .busy }) := World.putObj_heap_same hlt;have hd2 : (X1.putObj (B + 1) (.loop { rec_ .ready none with state := .busy })).heap[B]? = some (.deferred (some [])) := (World.putObj_heap_other (by omega)).trans hd1;refine wpIn_mono (hbody _ s' a' _ (by omega) ((hAx s' a').putObj (s := ()) _ hax (by omega) hl1 rfl)) ?_;intro e a3 X3 hp
   have fin : ∀ jump : Option Code,KeepsFrom B (X1.putObj (B + 1) (.loop { rec_ .ready none with state := .busy })) X3 → X3.heap[B + 1]? = some (.loop { rec_ .ready none with state := .busy }) ∧
     (X3.putObj (B + 1) (.loop (rec_ (if jump.isNone then .ready else .done) jump))).heap[B + 1]? = some (.loop (rec_ (if jump.isNone then .ready else .done) jump)) ∧
     (X3.putObj (B + 1) (.loop (rec_ (if jump.isNone then .ready else .done) jump))).heap[B]? = some (.deferred (some [])) := fun jump hk3 => by
    have hl3 := hk3.same _ _ (by omega) hl2 rfl;exact ⟨hl3,World.putObj_heap_same (heap_lt hl3),(World.putObj_heap_other (by omega)).trans (hk3.same _ _ (Nat.le_refl _) hd2 rfl)⟩
   have out : ∀ c : Code,KeepsFrom B (X1.putObj (B + 1) (.loop { rec_ .ready none with state := .busy })) X3 → Ix c s' X3 → (∃ c',Ix c' s' (X3.putObj (B + 1) (.loop (rec_ .done (some c)))) ∧ (X3.putObj (B + 1) (.loop (rec_ .done (some c)))).heap[B + 1]? = some (.loop (rec_ .done (some c'))) ∧ (X3.putObj (B + 1) (.loop (rec_ .done (some c)))).heap[B]? = some (.deferred (some []))) := fun c hk3 hi3 => by
    obtain ⟨hl3,hl4,hd4⟩ := fin (some c) hk3;exact ⟨c,(hIx c).putObj _ hi3 (by omega) hl3 rfl,hl4,hd4⟩
   cases e with
   | normal =>
    obtain ⟨hl3,hl4,hd4⟩ := fin none hp.1;exact ⟨_,_,run_endRound (P := P) none hl3,.inl ⟨rfl,hI.putObj _ hp.2 (by omega) hl3 rfl,hl4,hd4⟩⟩
   | ret => exact ⟨_,_,run_endRound (P := P) (some .ret) (fin (some .ret) hp.1).1,.inr ⟨rfl,out _ hp.1 hp.2⟩⟩
   | exit id => exact ⟨_,_,run_endRound (P := P) (some (.exit id)) (fin (some (.exit id)) hp.1).1,.inr ⟨rfl,out _ hp.1 hp.2⟩⟩
   | goto t => exact hp.elim
   | panic ch => exact hp.elim
   | outgrown => exact hp.elim
  ·rintro e W2 ⟨⟨v,rfl⟩,(⟨s,hS,hi,hl,hk⟩ | ⟨s,c,hi,hl,hk⟩)⟩
   ·exact ⟨none,_,run_endLoop (P := P) hl (by intro h;cases h),hdone B s _ (Nat.le_refl _) hS (hI.putObj _ hi (by omega) hl rfl) ((World.putObj_heap_other (by omega)).trans hk)⟩
   ·exact ⟨some c,_,run_endLoop (P := P) hl (by intro h;cases h),hstop B c s _ (Nat.le_refl _) ((hIx c).putObj _ hi (by omega) hl rfl) ((World.putObj_heap_other (by omega)).trans hk)⟩
end
end Go.Proofs.YtifejdpffkeniaaGreatDoor
namespace Go.Proofs.YtifejdpffkeniaaGreatDoor
open Go.RowKit
attribute [local go_sem] Oper.semAt_some
theorem Marks.chgT {B C : Nat} {ds : List Deferred} {w w' : World} {ex : Nat → Prop} (h : Marks B C ds w) (hc : Tch ex w w') (hx : ∀ k,ex k → ∀ o,w.heap[k]? = some o → o.isCells = true) (hC : C ≤ w.heap.size) : Marks B C ds w' :=
 ⟨fun d hd => by
  obtain ⟨D,e,h1,h2,h3⟩ := h.1 d hd
  exact ⟨D,e,h1,h2,(hc.block D (by omega) (fun he => by have := hx D he _ h3;simp [Obj.isCells] at this)).trans h3⟩,h.2⟩
theorem wpIn_loop_ghostU {F : Fence} {n : Nat} {P : Program} {Q : Exit → Act → World → Prop} {a : Act} {w : World} {c : Code} (J : Nat → Act → World → Prop) (h : ∃ m,J m a w)
  (round : ∀ m a w,J m a w → c.wpIn F n P (Exit.then (fun a' w' => ∃ m',m' < m ∧ J m' a' w') Q) a w) : (Code.loop c).wpIn F n P Q a w := by
 have key : ∀ k m a w,m < k → J m a w → Code.roundsIn F n P c Q k a w := by
  intro k
  induction k with
  | zero => intro m a w hm;omega
  | succ k ih =>
   intro m a w hm hJ;rw [roundsIn_succ];refine wpIn_mono (round m a w hJ) ?_;intro e a' w' he
   cases e with
   | normal =>
    obtain ⟨m',h1,h2⟩ := he;exact ih m' a' w' (by omega) h2
   | exit id => exact he
   | goto l => exact he
   | ret => exact he
   | panic ch => exact he
   | outgrown => exact he
 obtain ⟨m,hm⟩ := h;exact wpIn_loop_rounds (m + 1) (key (m + 1) m a w (by omega) hm)
theorem Marks.moreU {B C C' : Nat} {ds : List Deferred} {w : World} (h : Marks B C ds w) (hC : C ≤ C') : Marks B C' ds w :=
 ⟨fun d hd => by obtain ⟨D,e,h1,h2,h3⟩ := h.1 d hd;exact ⟨D,e,h1,by omega,h3⟩,h.2⟩
theorem results_none' {P : Program} {fn : Func} (h : fn.results = #[]) (tmps : Array Value) (w : World) (v : Value) (hv : v = .tuple #[]) : (results fn tmps).run P w = .ok v w := by
 subst hv;simp [results,h]
abbrev ivs (L : List Int) : List Value := L.map (Value.int .i64)
structure Ppl (L : List Int) : Prop where
 inc : L.Pairwise (· < ·)
 lo : ∀ p ∈ L,0 ≤ p
 hi : ∀ p ∈ L,p < 64
theorem Ppl.len {L : List Int} (h : Ppl L) : L.length ≤ 64 := by
 have key : ∀ (L : List Int) (a : Int),L.Pairwise (· < ·) → (∀ p ∈ L,a ≤ p) → (∀ p ∈ L,p < 64) → a ≤ 64 → (L.length : Int) ≤ 64 - a := by
  intro L
  induction L with
  | nil => intro a _ _ _ ha;simp;omega
  | cons x l ih =>
   intro a h1 h2 h3 ha;have hx := List.pairwise_cons.1 h1;have hx2 := h2 x (by simp);have hx3 := h3 x (by simp);have := ih (x + 1) hx.2 (fun p hp => by have := hx.1 p hp;omega) (fun p hp => h3 p (by simp [hp])) (by omega);simp only [List.length_cons];omega
 have := key L 0 h.inc h.lo h.hi (by omega);omega
def lastI (d : List Int) (k : Nat) : Int := if k = 0 then -1 else d.getD (k - 1) 0
theorem Ppl.last {L : List Int} (h : Ppl L) {k : Nat} (hk : k < L.length) : lastI L k < L.getD k 0 ∧ 0 ≤ L.getD k 0 ∧ L.getD k 0 < 64 ∧ L[k]? = some (L.getD k 0) := by
 have e : L.getD k 0 = L[k] := by rw [List.getD_eq_getElem?_getD,List.getElem?_eq_getElem hk];rfl
 have h0 := h.lo L[k] (List.getElem_mem hk);refine ⟨?_,by rw [e];exact h0,by rw [e];exact h.hi _ (List.getElem_mem hk),by rw [e];exact List.getElem?_eq_getElem hk⟩;unfold lastI
 split
 ·rw [e];omega
 ·have e2 : L.getD (k - 1) 0 = L[k - 1] := by rw [List.getD_eq_getElem?_getD,List.getElem?_eq_getElem (by omega)];rfl
  rw [e,e2];exact List.pairwise_iff_getElem.1 h.inc (k - 1) k (by omega) hk (by omega)
theorem i64at {w : World} {B n : Nat} {A : Option Addr} {L : List Int} (h : Rd w B 1 A n (ivs L)) {k : Nat} (hk : k < n) : L.length = n ∧ ∃ b o,A = some ⟨b,o,none⟩ ∧ b < B ∧ ∀ j,j < n → ∀ W,Below B w W → W.cell? ⟨b,o + j,none⟩ = some (.int .i64 (L.getD j 0)) := by
 have hl : L.length = n := by have := h.1;simpa using this
 obtain ⟨b,o,e1,hb,hc⟩ := h.2 (by omega);refine ⟨hl,b,o,e1,hb,fun j hj W hW => (hW.cell (p := ⟨b,o + j,none⟩) hb).trans (hc j _ ?_)⟩;rw [List.getElem?_map,List.getElem?_eq_getElem (by omega),List.getD_eq_getElem?_getD,List.getElem?_eq_getElem (by omega)]
 rfl
end Go.Proofs.YtifejdpffkeniaaGreatDoor
