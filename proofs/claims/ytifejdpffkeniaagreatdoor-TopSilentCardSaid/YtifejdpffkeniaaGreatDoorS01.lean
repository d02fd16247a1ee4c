import Derived.Below
import Derived.BigQuiet
import Derived.Deep.AppendLies
import Derived.Deep.Draws
import Derived.Deep.LoopGhost
import Derived.Deep.QuietTactic
import Derived.Deep.RegionHeld3
import Derived.Handy
import Derived.IntWalk
import Derived.LaidLaws
import Derived.LaidMore
import Derived.Laws.OwnMore
import Derived.Laws.Rows
import Derived.Lib.Hide
import Derived.Lib.LaidTab
import Derived.Maps.AppendAt
import Derived.Outline
import Derived.OwnWalk
import Derived.RegionTactic
import Derived.Test.YtifejdpffkeniaaGreatDoorChecked
import Derived.Test.YtifejdpffkeniaaGreatDoorRows
import Derived.WalkKit
import Derived.WalkLawsBesides
import Derived.WalkSmall
import Derived.WalkSpells
set_option linter.unusedVariables false
set_option maxRecDepth 100000
set_option maxHeartbeats 40000000
namespace Go.Proofs.YtifejdpffkeniaaGreatDoor
open Go.RowKit
theorem Addr.add_flat (b o k : Nat) : Addr.add ⟨b,o,none⟩ k = ⟨b,o + k,none⟩ := by
 unfold Addr.add;by_cases h : k = 0 <;> simp [h]
def Rd (w : World) (B size : Nat) (A : Option Addr) (n : Nat) (xs : List Value) : Prop :=
 xs.length = n * size ∧ (0 < n → ∃ b o,A = some ⟨b,o,none⟩ ∧ b < B ∧ ∀ (j : Nat) (u : Value),xs[j]? = some u → w.cell? ⟨b,o + j,none⟩ = some u)
section
variable {w w' : World} {B B' size n : Nat} {A : Option Addr} {xs : List Value}
theorem Rd.nil_ : Rd w B size A 0 [] := ⟨by simp,fun h => absurd h (by omega)⟩
theorem Rd.keep (h : Rd w B size A n xs) (hk : ∀ p : Addr,p.block < B → w'.cell? p = w.cell? p) : Rd w' B size A n xs :=
 ⟨h.1,fun hn => by
  obtain ⟨b,o,e,hb,hc⟩ := h.2 hn
  exact ⟨b,o,e,hb,fun j u hu => (hk _ hb).trans (hc j u hu)⟩⟩
theorem Rd.more (h : Rd w B size A n xs) (hB : B ≤ B') : Rd w B' size A n xs :=
 ⟨h.1,fun hn => by
  obtain ⟨b,o,e,hb,hc⟩ := h.2 hn
  exact ⟨b,o,e,by omega,hc⟩⟩
theorem Rd.below (h : Rd w B size A n xs) (hb : Below B w w') : Rd w' B size A n xs := h.keep fun _ hp => hb.cell hp
theorem Rd.drew (h : Rd w B size A n xs) : Rd w.drew B size A n xs := h
theorem Rd.alloc (h : Rd w B size A n xs) (hB : B ≤ w.heap.size) (o : Obj) : Rd (w.alloc o) B size A n xs := h.keep fun p hp => World.cell?_alloc_lt w o p (by omega)
theorem Rd.grown (h : Rd w B size A n xs) {row : Option Nat} (hg : w.grownBy w' row) (hB : B ≤ w.heap.size) (hr : ∀ g,row = some g → B ≤ g) : Rd w' B size A n xs :=
 h.keep fun p hp => World.cell?_of_block (hg.block p.block (by omega) (fun e => by have := hr _ e.symm;omega))
theorem Rd.cut (h : Rd w B size A n xs) {k cap : Nat} (hk : k ≤ n) (hc : n ≤ cap) :
  Rd w B size (if cap = k then A else A.map (·.add (k * size))) (n - k) (xs.drop (k * size)) := by
 refine ⟨by rw [List.length_drop,h.1,Nat.sub_mul],fun hn => ?_⟩;obtain ⟨b,o,rfl,hb,hcell⟩ := h.2 (by omega);rw [if_neg (by omega)];refine ⟨b,o + k * size,by simp [Addr.add_flat],hb,fun j u hu => ?_⟩;rw [Nat.add_assoc];exact hcell _ u (by rw [← hu,List.getElem?_drop])
theorem Rd.take (h : Rd w B size A n xs) {k : Nat} (hk : k ≤ n) : Rd w B size A k (xs.take (k * size)) := by
 refine ⟨?_,fun hn => ?_⟩
 ·rw [List.length_take,h.1];have := Nat.mul_le_mul_right size hk;omega
 obtain ⟨b,o,rfl,hb,hcell⟩ := h.2 (by omega);refine ⟨b,o,rfl,hb,fun j u hu => hcell j u ?_⟩;rw [List.getElem?_take] at hu
 split at hu
 ·exact hu
 ·cases hu
theorem Rd.of_own {base : Nat} {e : TypeId} {c : Nat} (h : w.ownsRow base e size (.slice A n c) n xs) : Rd w w.heap.size size A n xs := by
 refine ⟨h.1,fun hn => ?_⟩;obtain ⟨g,cap,hv,_,hlt⟩ := h.form hn;have hA : A = some ⟨g,0,none⟩ := by injection hv
 subst hA;refine ⟨g,0,rfl,hlt,fun j u hu => ?_⟩;have := h.cells (g := g) rfl j u hu;rw [Addr.add_flat] at this;exact this
end
section
variable {P : Program} (w : World)
theorem run_append_rd (base : Nat) (t ty e : TypeId) (i : TypeInfo) (z : Value) (size bytes : Nat) (ht : P.underlying t = some (.slice e)) (hi : P.info? e = some i) (hz : i.zero = some z)
  (hsize : i.size = size) (hby : i.bytes = bytes) (hzs : z.cells.size = size) (hsz : 0 < size)
  (v : Value) (n : Nat) (xs : List Value) (hown : w.ownsRow base e size v n xs)
  (B : Nat) (A : Option Addr) (m c : Nat) (news : List Value) (hr : Rd w B size A m news) (h1 : ∀ u ∈ news,u.oneCell' = true)
  (h63 : n + m ≤ maxLen) (hbytes : (n + m) * bytes ≤ 140737488355328) (hbase : base ≤ w.heap.size) :
  ∃ v' w',(Builtin.append_ #[t,t] ty #[v,.slice A m c]).run P w = .ok v' w' ∧ w'.ownsRow base e size v' (n + m) (xs ++ news) ∧ w.grownBy w' v.ownBlock ∧
   (v'.ownBlock = v.ownBlock ∨ v'.ownBlock = some w.heap.size) := by
 rcases A with _ | ad
 ·have hm : m = 0 := by
   rcases Nat.eq_zero_or_pos m with h0 | h0
   ·exact h0
   ·obtain ⟨b,o,h,_⟩ := hr.2 h0
    cases h
  subst hm;have hn : news = [] := List.eq_nil_of_length_eq_zero (by simpa using hr.1);subst hn;refine ⟨v,w,?_,by simpa using hown,World.grownBy.refl w _,.inl rfl⟩
  rcases hown.2 with ⟨rfl,rfl⟩ | ⟨g,cap,cur,rfl,_,_,hnc,_⟩
  ·simp [Builtin.append_,run_underlying ht,sizeOf,typeInfo,hi,Builtin.lenOf,Builtin.firstCells]
  ·simp [Builtin.append_,run_underlying ht,sizeOf,typeInfo,hi,Builtin.lenOf,Builtin.firstCells,hnc,storeCells]
 ·have hcells : ∀ j u,news[j]? = some u → w.cell? (ad.add j) = some u := by
   intro j u hu
   rcases Nat.eq_zero_or_pos m with h0 | h0
   ·subst h0
    have hn : news = [] := List.eq_nil_of_length_eq_zero (by simpa using hr.1);subst hn;simp at hu
   ·obtain ⟨b,o,h,_,hc⟩ := hr.2 h0
    injection h with h
    subst h;rw [Addr.add_flat];exact hc j u hu
  obtain ⟨v',w',hrun,h2,h3,_,h5⟩ := run_append_own_at (P := P) w base t ty e i z size bytes ht hi hz hsize hby hzs hsz v n xs hown ad m c news hr.1 hcells h1 h63 hbytes hbase;exact ⟨v',w',hrun,h2,h3,h5⟩
theorem wp_append_rd {o : Oper} {a : Act} {K : Act → World → Prop} {Q : Exit → Act → World → Prop} (s x : Operand) (t : TypeId)
  (ho : o.op = .call { callee := .builtin .append,args := #[s,x],argTypes := #[t,t] })
  (base : Nat) (e : TypeId) (i : TypeInfo) (z : Value) (size bytes : Nat) (ht : P.underlying t = some (.slice e)) (hi : P.info? e = some i) (hz : i.zero = some z)
  (hsize : i.size = size) (hby : i.bytes = bytes) (hzs : z.cells.size = size) (hsz : 0 < size)
  (v : Value) (n : Nat) (xs : List Value) (hs : a.eval s = v) (hown : w.ownsRow base e size v n xs)
  (B : Nat) (A : Option Addr) (m c : Nat) (news : List Value) (hx : a.eval x = .slice A m c) (hr : Rd w B size A m news) (h1 : ∀ u ∈ news,u.oneCell' = true)
  (h63 : n + m ≤ maxLen) (hbytes : (n + m) * bytes ≤ 140737488355328) (hbase : base ≤ w.heap.size)
  (h : ∀ v' w',w'.ownsRow base e size v' (n + m) (xs ++ news) → w.grownBy w' v.ownBlock → (v'.ownBlock = v.ownBlock ∨ v'.ownBlock = some w.heap.size) → K (a.put o.dst v') w') : o.wp P a w K Q := by
 obtain ⟨v',w',hrun,h2,h3,h4⟩ := run_append_rd (P := P) w base t o.type e i z size bytes ht hi hz hsize hby hzs hsz v n xs hown B A m c news hr h1 h63 hbytes hbase;unfold Oper.wp execOp;simp only [ho,resolve,invoke,builtin,Sem.run_bind,Sem.run_pure,Result.andThen_ok,List.map_toArray,List.map_cons,List.map_nil,hs,hx,hrun];exact h v' w' h2 h3 h4
theorem wpList_append_rd {ops : Array Oper} {rest : List Oper} {o : Oper} {a : Act} {Q : Exit → Act → World → Prop} (hgd : o.guard = none) (s x : Operand) (t : TypeId)
  (ho : o.op = .call { callee := .builtin .append,args := #[s,x],argTypes := #[t,t] })
  (base : Nat) (e : TypeId) (i : TypeInfo) (z : Value) (size bytes : Nat) (ht : P.underlying t = some (.slice e)) (hi : P.info? e = some i) (hz : i.zero = some z)
  (hsize : i.size = size) (hby : i.bytes = bytes) (hzs : z.cells.size = size) (hsz : 0 < size)
  (v : Value) (n : Nat) (xs : List Value) (hs : a.eval s = v) (hown : w.ownsRow base e size v n xs)
  (B : Nat) (A : Option Addr) (m c : Nat) (news : List Value) (hx : a.eval x = .slice A m c) (hr : Rd w B size A m news) (h1 : ∀ u ∈ news,u.oneCell' = true)
  (h63 : n + m ≤ maxLen) (hbytes : (n + m) * bytes ≤ 140737488355328) (hbase : base ≤ w.heap.size)
  (h : ∀ v' w',w'.ownsRow base e size v' (n + m) (xs ++ news) → w.grownBy w' v.ownBlock → (v'.ownBlock = v.ownBlock ∨ v'.ownBlock = some w.heap.size) → wpList P ops Q rest (a.put o.dst v') w') : wpList P ops Q (o :: rest) a w :=
 wpList_plain hgd fun _ hK => wp_append_rd w s x t ho base e i z size bytes ht hi hz hsize hby hzs hsz v n xs hs hown B A m c news hx hr h1 h63 hbytes hbase fun v' w' h2 h3 h4 => hK _ _ (h v' w' h2 h3 h4)
end
theorem quiet_eq {P : Program} {f : FuncId} {args : Array Value} {w : World} {n : Nat} {v : Value}
  (h : Calls P f args (w.drewN n) fun e w' => e = .returned v ∧ w.drewN n = w') : Calls P f args (w.drewN n) fun e w'' => e = .returned v ∧ ∃ m,w'' = w.drewN m :=
 h.mono fun _ _ ⟨he,hm⟩ => ⟨he,n,hm.symm⟩
def Ints (w : World) (g : Nat) (t : TypeId) (k : IntKind) (l : List Int) : Prop := w.heap[g]? = some (.cells (l.map (Value.int k)).toArray t (0,0))
theorem heap_lt {w : World} {g : Nat} {o : Obj} (h : w.heap[g]? = some o) : g < w.heap.size := by
 rcases Nat.lt_or_ge g w.heap.size with hlt | hge
 ·exact hlt
 ·rw [Array.getElem?_eq_none hge] at h;cases h
section
variable {w w' : World} {g : Nat} {t : TypeId} {k : IntKind} {l : List Int}
theorem Ints.lt (h : Ints w g t k l) : g < w.heap.size := heap_lt h
theorem Ints.cell? (h : Ints w g t k l) (i : Nat) : w.cell? ⟨g,i,none⟩ = (l[i]?).map (Value.int k) := by
 rw [cell_of_row w g i _ t (0,0) h];simp
theorem Ints.cell (h : Ints w g t k l) {i : Nat} (hi : i < l.length) : w.cell? ⟨g,i,none⟩ = some (.int k (l.getD i 0)) := by
 rw [h.cell? i,List.getElem?_eq_getElem hi,List.getD_eq_getElem?_getD,List.getElem?_eq_getElem hi];rfl
theorem Ints.frozen (h : Ints w g t k l) (i : Nat) : w.frozen? ⟨g,i,none⟩ = false := by
 unfold Ints at h;simp [World.frozen?,h]
theorem Ints.new (w : World) (t : TypeId) (k : IntKind) (l : List Int) : Ints (w.alloc (.cells (l.map (Value.int k)).toArray t)) w.heap.size t k l := heap_alloc_new w _
theorem Ints.drew (h : Ints w g t k l) : Ints w.drew g t k l := h
theorem Ints.drewN (h : Ints w g t k l) (n : Nat) : Ints (w.drewN n) g t k l := h
theorem Ints.alloc (h : Ints w g t k l) (o : Obj) : Ints (w.alloc o) g t k l := (Below.heap_alloc w o g h.lt).trans h
theorem Ints.set_ (h : Ints w g t k l) (i : Nat) (u : Int) : Ints (w.setCell ⟨g,i,none⟩ (.int k u)) g t k (l.set i u) := by
 unfold Ints at h ⊢;simp [World.setCell,Array.getElem?_modify,h,List.map_set]
theorem Ints.far (h : Ints w g t k l) {p : Addr} (hp : g ≠ p.block) (u : Value) : Ints (w.setCell p u) g t k l := (Below.heap_setCell w p u g hp).trans h
theorem Ints.below {B : Nat} (h : Ints w g t k l) (hb : Below B w w') (hg : g < B) : Ints w' g t k l := (hb.block g hg).trans h
theorem Ints.grown {row : Option Nat} (h : Ints w g t k l) (hb : w.grownBy w' row) (hg : some g ≠ row) : Ints w' g t k l := (hb.block g h.lt hg).trans h
theorem Ints.rd (h : Ints w g t k l) (o n : Nat) (hn : o + n ≤ l.length) : Rd w w.heap.size 1 (some ⟨g,o,none⟩) n (((l.drop o).take n).map (Value.int k)) := by
 refine ⟨by simp;omega,fun _ => ⟨g,o,rfl,h.lt,fun j u hu => ?_⟩⟩;rw [List.getElem?_map,Option.map_eq_some_iff] at hu;obtain ⟨x,hx,rfl⟩ := hu;have hj : j < n := by have := (List.getElem?_eq_some_iff.1 hx).1;simp at this;omega
 rw [List.getElem?_take,if_pos hj,List.getElem?_drop] at hx;rw [h.cell? (o + j),hx];rfl
end
theorem grown_then {a b c : World} {row row' : Option Nat} (h : a.grownBy b row) (k : b.grownBy c row') (hr : ∀ j,row' = some j → a.heap.size ≤ j ∨ row = some j) : a.grownBy c row :=
 ⟨k.os.trans h.os,k.tape.trans h.tape,k.output.trans h.output,Nat.le_trans h.size k.size,fun i hi hne => (k.block i (by have := h.size;omega) (fun e => by
  rcases hr i e.symm with h1 | h1
  ·omega
  ·exact hne h1.symm)).trans (h.block i hi hne)⟩
theorem grown_row {w : World} {g : Nat} (cs : Array Value) : w.grownBy (w.setRow g cs) (some g) :=
 ⟨rfl,rfl,rfl,by simp,fun k hk hne => setRow_other w g k cs (fun e => hne (by rw [e]))⟩
theorem wp_copy_ints {P : Program} {w : World} {o : Oper} {a : Act} {K : Act → World → Prop} {Q : Exit → Act → World → Prop} (d s : Operand) (dT sT : TypeId)
  (ho : o.op = .call { callee := .builtin .copy,args := #[d,s],argTypes := #[dT,sT] }) (elem : TypeId) (hu : P.underlying dT = some (.slice elem)) (hsz : (P.info? elem).map (·.size) = some 1)
  (g off dLen dCap g' so sLen sCap : Nat) (hd : a.eval d = .slice (some ⟨g,off,none⟩) dLen dCap) (hs : a.eval s = .slice (some ⟨g',so,none⟩) sLen sCap)
  {t : TypeId} {k : IntKind} {l : List Int} (hI : Ints w g t k l) (cs : List Int) (hn : cs.length = Nat.min sLen dLen)
  (hsrc : ∀ (j : Nat) (v : Int),cs[j]? = some v → w.cell? ⟨g',so + j,none⟩ = some (.int k v)) (hfit : off + cs.length ≤ l.length)
  (h : ∀ w',Ints w' g t k (l.take off ++ (cs ++ l.drop (off + cs.length))) → w.grownBy w' (some g) → K (a.put o.dst (goInt cs.length)) w') : o.wp P a w K Q := by
 have hrun := run_copy_row (P := P) w dT sT o.type elem g off dLen dCap ⟨g',so,none⟩ sLen sCap (l.map (Value.int k)).toArray t (cs.map (Value.int k)) hu hsz hI (by simpa using hn)
  (fun j v hv => by
   rw [List.getElem?_map,Option.map_eq_some_iff] at hv;obtain ⟨x,hx,rfl⟩ := hv
   rw [Addr.add_flat];exact hsrc j x hx) (by simpa using hfit) (fun v hv => by obtain ⟨x,_,rfl⟩ := List.mem_map.1 hv;rfl)
 unfold Oper.wp;simp only [execOp,ho,resolve,invoke,builtin,Sem.run_bind,Sem.run_pure,Result.andThen_ok,List.map_toArray,List.map_cons,List.map_nil,hd,hs,hrun]
 have h2 := h _ (show Ints (w.setRow g ((l.map (Value.int k)).take off ++ (cs.map (Value.int k) ++ (l.map (Value.int k)).drop (off + cs.length))).toArray) g t k _ by
  unfold Ints
  rw [setRow_heap w g _ _ t _ hI,List.map_append,List.map_append,List.map_take,List.map_drop]) (grown_row _)
 simp only [List.append_assoc,List.length_map];exact h2
theorem run_loadVar_cells {P : Program} (w : World) (a : Addr) (ty : TypeId) (cs : List Value) (d : TypeDesc) (hc : ∀ (j : Nat) (v : Value),cs[j]? = some v → w.cell? (a.add j) = some v)
  (hu : P.underlying ty = some d) (hd : (match d with | .struct _ | .array _ _ => true | _ => false) = true) (hi : (P.info? ty).map (·.size) = some cs.length) :
  (loadVar ty a).run P w = .ok (.agg cs.toArray) w := by
 have hl : (loadCells a cs.length).run P w = .ok cs.toArray w := run_loadCells_list (P := P) w a cs hc
 cases hq : P.info? ty with
 | none => simp [hq] at hi
 | some i =>
  have hs : i.size = cs.length := by simpa [hq] using hi
  have hagg : (isAgg ty).run P w = .ok true w := by
   unfold isAgg;rw [Sem.run_bind,run_underlying hu w]
   cases d <;> simp_all
  simp [loadVar,Sem.run_bind,hagg,sizeOf,typeInfo,hq,hs,hl]
theorem wp_load_cells {P : Program} {o : Oper} {a : Act} {w : World} {K : Act → World → Prop} {Q : Exit → Act → World → Prop} (ty : TypeId) (x : Operand) (ho : o.op = .load ty x)
  (p : Addr) (hx : a.eval x = .pointer (some p)) (cs : List Value) (d : TypeDesc) (hc : ∀ (j : Nat) (v : Value),cs[j]? = some v → w.cell? (p.add j) = some v)
  (hu : P.underlying ty = some d) (hd : (match d with | .struct _ | .array _ _ => true | _ => false) = true) (hi : (P.info? ty).map (·.size) = some cs.length)
  (h : K (a.put o.dst (.agg cs.toArray)) w) : o.wp P a w K Q := by
 unfold Oper.wp execOp;simp only [ho,hx,Instr.loadAt,Instr.sureAddr,Sem.run_bind,Sem.run_pure,Result.andThen_ok,run_loadVar_cells w p ty cs d hc hu hd hi];exact h
theorem wpList_load_cells {P : Program} {ops : Array Oper} {rest : List Oper} {o : Oper} {a : Act} {w : World} {Q : Exit → Act → World → Prop} (hgd : o.guard = none) (ty : TypeId) (x : Operand) (ho : o.op = .load ty x)
  (p : Addr) (hx : a.eval x = .pointer (some p)) (cs : List Value) (d : TypeDesc) (hc : ∀ (j : Nat) (v : Value),cs[j]? = some v → w.cell? (p.add j) = some v)
  (hu : P.underlying ty = some d) (hd : (match d with | .struct _ | .array _ _ => true | _ => false) = true) (hi : (P.info? ty).map (·.size) = some cs.length)
  (h : wpList P ops Q rest (a.put o.dst (.agg cs.toArray)) w) : wpList P ops Q (o :: rest) a w :=
 wpList_plain hgd fun _ hK => wp_load_cells ty x ho p hx cs d hc hu hd hi (hK _ _ h)
theorem ints_cells {w : World} {g o : Nat} {k : IntKind} {l : List Int} (h : ∀ (i : Nat),i < l.length → w.cell? ⟨g,o + i,none⟩ = some (.int k (l.getD i 0))) :
  ∀ (j : Nat) (v : Value),(l.map (Value.int k))[j]? = some v → w.cell? ((⟨g,o,none⟩ : Addr).add j) = some v := by
 intro j v hv;rw [List.getElem?_map,Option.map_eq_some_iff] at hv;obtain ⟨x,hx,rfl⟩ := hv;have hj := (List.getElem?_eq_some_iff.1 hx).1;rw [Addr.add_flat,h j hj,List.getD_eq_getElem?_getD,hx];rfl
theorem wp_copy_rd {P : Program} {w : World} {o : Oper} {a : Act} {K : Act → World → Prop} {Q : Exit → Act → World → Prop} (d s : Operand) (dT sT : TypeId)
  (ho : o.op = .call { callee := .builtin .copy,args := #[d,s],argTypes := #[dT,sT] }) (elem : TypeId) (hu : P.underlying dT = some (.slice elem)) (hsz : (P.info? elem).map (·.size) = some 1)
  (g off dLen dCap : Nat) (A : Option Addr) (sLen sCap : Nat) (hd : a.eval d = .slice (some ⟨g,off,none⟩) dLen dCap) (hs : a.eval s = .slice A sLen sCap)
  {t : TypeId} {k : IntKind} {l : List Int} (hI : Ints w g t k l) (cs : List Int) {B : Nat} (hr : Rd w B 1 A sLen (cs.map (Value.int k))) (hle : sLen ≤ dLen) (hfit : off + cs.length ≤ l.length)
  (h : ∀ w',Ints w' g t k (l.take off ++ (cs ++ l.drop (off + cs.length))) → w.grownBy w' (some g) → K (a.put o.dst (goInt cs.length)) w') : o.wp P a w K Q := by
 have hlen : cs.length = sLen := by simpa using hr.1
 rcases Nat.eq_zero_or_pos sLen with h0 | h0
 ·obtain rfl : cs = [] := List.eq_nil_of_length_eq_zero (by omega)
  have hrun := run_copy_none (P := P) w dT sT o.type elem (some ⟨g,off,none⟩) A dLen dCap sLen sCap hu hsz (by show min sLen dLen = 0;omega);unfold Oper.wp;simp only [execOp,ho,resolve,invoke,builtin,Sem.run_bind,Sem.run_pure,Result.andThen_ok,List.map_toArray,List.map_cons,List.map_nil,hd,hs,hrun];exact h w (by simpa using hI) (World.grownBy.refl _ _)
 ·obtain ⟨b,o',rfl,_,hc⟩ := hr.2 h0
  refine wp_copy_ints d s dT sT ho elem hu hsz g off dLen dCap b o' sLen sCap hd hs hI cs (by rw [hlen];show sLen = min sLen dLen;omega) (fun j v hv => hc j _ (by rw [List.getElem?_map,hv];rfl)) hfit h
theorem wpList_copy_rd {P : Program} {ops : Array Oper} {rest : List Oper} {w : World} {o : Oper} {a : Act} {Q : Exit → Act → World → Prop} (hgd : o.guard = none) (d s : Operand) (dT sT : TypeId)
  (ho : o.op = .call { callee := .builtin .copy,args := #[d,s],argTypes := #[dT,sT] }) (elem : TypeId) (hu : P.underlying dT = some (.slice elem)) (hsz : (P.info? elem).map (·.size) = some 1)
  (g off dLen dCap : Nat) (A : Option Addr) (sLen sCap : Nat) (hd : a.eval d = .slice (some ⟨g,off,none⟩) dLen dCap) (hs : a.eval s = .slice A sLen sCap)
  {t : TypeId} {k : IntKind} {l : List Int} (hI : Ints w g t k l) (cs : List Int) {B : Nat} (hr : Rd w B 1 A sLen (cs.map (Value.int k))) (hle : sLen ≤ dLen) (hfit : off + cs.length ≤ l.length)
  (h : ∀ w',Ints w' g t k (l.take off ++ (cs ++ l.drop (off + cs.length))) → w.grownBy w' (some g) → wpList P ops Q rest (a.put o.dst (goInt cs.length)) w') : wpList P ops Q (o :: rest) a w :=
 wpList_plain hgd fun _ hK => wp_copy_rd d s dT sT ho elem hu hsz g off dLen dCap A sLen sCap hd hs hI cs hr hle hfit fun w' h1 h2 => hK _ _ (h w' h1 h2)
theorem bytes_at {w : World} {B : Nat} {k : IntKind} {b o n : Nat} {l : List Int} (h : Rd w B 1 (some ⟨b,o,none⟩) n (l.map (Value.int k))) {j : Nat} (hj : j < n) : w.cell? ⟨b,o + j,none⟩ = some (.int k (l.getD j 0)) := by
 obtain ⟨h1,h2⟩ := h;obtain ⟨b',o',e,_,hc⟩ := h2 (by omega)
 injection e with e
 injection e with e1 e2
 subst e1;subst e2;have hl : j < l.length := by simpa using (show j < (l.map (Value.int k)).length by omega)
 exact hc j _ (by rw [List.getElem?_map,List.getElem?_eq_getElem hl];simp [hl])
theorem getD_bd {l : List Int} {P : Int → Prop} (h : ∀ x ∈ l,P x) {j : Nat} (hj : j < l.length) : P (l.getD j 0) := by
 rw [List.getD_eq_getElem?_getD,List.getElem?_eq_getElem hj];exact h _ (List.getElem_mem hj)
theorem grown_set {a w : World} {g : Nat} (h : a.grownBy w (some g)) (i : Nat) (u : Value) : a.grownBy (w.setCell ⟨g,i,none⟩ u) (some g) :=
 ⟨h.os,h.tape,h.output,by simpa [World.setCell] using h.size,fun k hk hne => (Below.heap_setCell w ⟨g,i,none⟩ u k (fun e => hne (by rw [e]))).trans (h.block k hk hne)⟩
theorem grown_drewN {a w : World} {row : Option Nat} (h : a.grownBy w row) (n : Nat) : a.grownBy (w.drewN n) row := ⟨h.os,h.tape,h.output,h.size,h.block⟩
theorem grown_drew {a w : World} {row : Option Nat} (h : a.grownBy w row) : a.grownBy w.drew row := ⟨h.os,h.tape,h.output,h.size,h.block⟩
theorem grown_alloc {a w : World} {row : Option Nat} (h : a.grownBy w row) (o : Obj) : a.grownBy (w.alloc o) row :=
 ⟨h.os,h.tape,h.output,by have := h.size;simp;omega,fun k hk hne => (Below.heap_alloc w o k (by have := h.size;omega)).trans (h.block k hk hne)⟩
theorem grown_setNew {a w : World} {row : Option Nat} (h : a.grownBy w row) {p : Addr} (hp : a.heap.size ≤ p.block) (u : Value) : a.grownBy (w.setCell p u) row :=
 ⟨h.os,h.tape,h.output,by simpa [World.setCell] using h.size,fun k hk hne => (Below.heap_setCell w p u k (by omega)).trans (h.block k hk hne)⟩
theorem ret_int {k : IntKind} {a b : Int} (h : a = b) : Ending.returned (.int k a) = .returned (.int k b) := by rw [h]
namespace Sh
def rl (x : Int) (s : Nat) : Int := bits .or .u32 (IntKind.u32.wrap (x * 2 ^ s)) (x / 2 ^ (32 - s))
def rot (x : Int) (a b c : Nat) : Int := bits .xor .u32 (bits .xor .u32 (rl x a) (rl x b)) (rl x c)
def wstep (n c : Int) : Int := bits .or .u32 (IntKind.u32.wrap (n * 2 ^ 8)) c
def word (c0 c1 c2 c3 : Int) : Int := wstep (wstep (wstep (wstep 0 c0) c1) c2) c3
def byte (n : Int) (i : Nat) : Int := IntKind.u8.wrap (n / 2 ^ (8 * i))
def put (l : List Int) (o m : Nat) (n : Int) : Nat → List Int
 | 0 => l
 | k + 1 => (put l o m n k).set (o + (m - 1 - k)) (byte n k)
theorem put_length (l : List Int) (o m : Nat) (n : Int) : ∀ k,(put l o m n k).length = l.length
 | 0 => rfl
 | k + 1 => by rw [put,List.length_set,put_length l o m n k]
end Sh
theorem rot_any (x k : Int) (s : Nat) (h : bits .and .u64 (IntKind.u64.wrap k) 31 = (s : Int)) (hs : s ≤ 31) (w : World) :
  Calls Tryz.prog 152 #[.int .u32 x,.int .i64 k] w fun e w' => e = .returned (.int .u32 (Sh.rl x s)) ∧ w = w' := by
 go_enter Tryz.func152,Tryz.ntmps152;go_wp2;go_ret;exact ⟨rfl,rfl⟩
theorem rotated_6 (x : Int) (w : World) : Calls Tryz.prog 153 #[.int .u32 x,.int .i64 6,.int .i64 11,.int .i64 25] w fun e w' => e = .returned (.int .u32 (Sh.rot x 26 21 7)) ∧ w = w' := by
 go_enter Tryz.func153,Tryz.ntmps153
 go_wp2_with (first | (go_at_call 152;(with_reducible refine (rot_any _ (-6) 26 (by decide) (by decide) _).mono ?_);rintro e w' ⟨rfl,rfl⟩) | (go_at_call 152;(with_reducible refine (rot_any _ (-11) 21 (by decide) (by decide) _).mono ?_);rintro e w' ⟨rfl,rfl⟩) | (go_at_call 152;(with_reducible refine (rot_any _ (-25) 7 (by decide) (by decide) _).mono ?_);rintro e w' ⟨rfl,rfl⟩))
 go_ret;exact ⟨rfl,rfl⟩
theorem rotated_2 (x : Int) (w : World) : Calls Tryz.prog 153 #[.int .u32 x,.int .i64 2,.int .i64 13,.int .i64 22] w fun e w' => e = .returned (.int .u32 (Sh.rot x 30 19 10)) ∧ w = w' := by
 go_enter Tryz.func153,Tryz.ntmps153
 go_wp2_with (first | (go_at_call 152;(with_reducible refine (rot_any _ (-2) 30 (by decide) (by decide) _).mono ?_);rintro e w' ⟨rfl,rfl⟩) | (go_at_call 152;(with_reducible refine (rot_any _ (-13) 19 (by decide) (by decide) _).mono ?_);rintro e w' ⟨rfl,rfl⟩) | (go_at_call 152;(with_reducible refine (rot_any _ (-22) 10 (by decide) (by decide) _).mono ?_);rintro e w' ⟨rfl,rfl⟩))
 go_ret;exact ⟨rfl,rfl⟩
theorem wstep_zero (c : Int) : Sh.wstep 0 c = bits .or .u32 0 c := by unfold Sh.wstep;rw [Int.zero_mul];rfl
theorem word_any (b o n cap : Nat) (c0 c1 c2 c3 : Int) (w : World) (h0 : w.cell? ⟨b,o,none⟩ = some (.int .u8 c0)) (h1 : w.cell? ⟨b,o + 1,none⟩ = some (.int .u8 c1)) (h2 : w.cell? ⟨b,o + 2,none⟩ = some (.int .u8 c2)) (h3 : w.cell? ⟨b,o + 3,none⟩ = some (.int .u8 c3))
  (b0 : 0 ≤ c0 ∧ c0 < 256) (b1 : 0 ≤ c1 ∧ c1 < 256) (b2 : 0 ≤ c2 ∧ c2 < 256) (b3 : 0 ≤ c3 ∧ c3 < 256) (hn : n ≤ cap) (hc : 4 ≤ cap) :
  Calls Tryz.prog 151 #[.slice (some ⟨b,o,none⟩) n cap] w fun e w' => e = .returned (.int .u32 (Sh.word c0 c1 c2 c3)) ∧ w = w' := by
 have hc' : (4 : Int) ≤ cap := by omega
 obtain ⟨b01,b02⟩ := b0;obtain ⟨b11,b12⟩ := b1;obtain ⟨b21,b22⟩ := b2;obtain ⟨b31,b32⟩ := b3;go_enter Tryz.func151,Tryz.ntmps151;go_wp2;refine wp_loop_rounds 5 ?_
 iterate 2 (rw [rounds_succ];go_wp2;rw [rounds_succ];go_wp2)
 rw [rounds_succ];go_wp2;go_ret;exact ⟨ret_int (by rw [Sh.word,wstep_zero];rfl),rfl⟩
theorem put_any (g o m c : Nat) (t : TypeId) (l : List Int) (n : Int) (w : World) (hI : Ints w g t .u8 l) (hm : o + m ≤ l.length) (hm8 : m ≤ 8) (hmc : m ≤ c) :
  Calls Tryz.prog 149 #[.slice (some ⟨g,o,none⟩) m c,.int .u64 n] w fun e w' => e = .returned (.tuple #[]) ∧ Ints w' g t .u8 (Sh.put l o m n m) ∧ w.grownBy w' (some g) := by
 go_enter Tryz.func149,Tryz.ntmps149;go_wp2
 go_loopw [7] (fun i wr => ∃ k : Nat,k ≤ m ∧ i = .int .i64 k ∧ Ints wr g t .u8 (Sh.put l o m n k) ∧ w.grownBy wr (some g)) (fun i _ => m - (intOf i).toNat)
 case atStart => exact ⟨0,Nat.zero_le _,rfl,hI,World.grownBy.refl _ _⟩
 case round =>
  obtain ⟨k,hk,rfl,hJ,hg⟩ := hrel
  by_cases hlt : k < m
  ·have e1 : (m : Int) - 1 - (k : Int) = ((m - 1 - k : Nat) : Int) := by omega
   have e2 : IntKind.i64.wrap ((m : Int) - 1) = (m : Int) - 1 := IntWalk.i64_in _ (by omega);have hc := hJ.cell (i := o + (m - 1 - k)) (by rw [Sh.put_length];omega);have hf := hJ.frozen (o + (m - 1 - k));go_wp2;go_roundw
   case rel => exact ⟨k + 1,by omega,by go_num,hJ.set_ _ _,grown_set hg _ _⟩
   case measure => simp [intOf];omega
  ·obtain rfl : k = m := by omega
   go_wp2
   go_end0
   exact ⟨rfl,hJ,hg⟩
end Go.Proofs.YtifejdpffkeniaaGreatDoor
namespace Go.Proofs.YtifejdpffkeniaaGreatDoor
theorem wp_at {P : Program} {o : Oper} {a : Act} {ops : Array Oper} {w : World} {K : Act → World → Prop} {Q : Exit → Act → World → Prop} {E : Prop} (hgd : o.guard = none) (h : Oper.wp P o a w K Q) :
  if Region.wanted o (yielded ops a.tmps) = true then Oper.wp P o a w K Q else E := by
 have hw : Region.wanted o (yielded ops a.tmps) = true := by simp [Region.wanted,hgd]
 rw [if_pos hw];exact h
open Go.RowKit
namespace Sh
structure Cst where
 a : Nat
 b : Nat
 d : Nat
 ha : a = 48
 hb : b = 64
 hd : d = 8
def wordAt (bl : List Int) (k : Nat) : Int := word (bl.getD (4 * k) 0) (bl.getD (4 * k + 1) 0) (bl.getD (4 * k + 2) 0) (bl.getD (4 * k + 3) 0)
def ws1 (bl : List Int) : Nat → List Int
 | 0 => List.replicate 64 0
 | k + 1 => (ws1 bl k).set k (wordAt bl k)
theorem ws1_length (bl : List Int) : ∀ k,(ws1 bl k).length = 64
 | 0 => by rw [ws1,List.length_replicate]
 | k + 1 => by rw [ws1,List.length_set,ws1_length bl k]
def add (a b : Int) : Int := (a + b) % 4294967296
def sg0 (x : Int) : Int := bits .xor .u32 (bits .xor .u32 (rl x 25) (rl x 14)) (x / 8)
def sg1 (x : Int) : Int := bits .xor .u32 (bits .xor .u32 (rl x 15) (rl x 13)) (x / 1024)
def wnext (a x b y : Int) : Int := add (add (add a (sg0 x)) b) (sg1 y)
def ws2 (bl : List Int) : Nat → List Int
 | 0 => ws1 bl 16
 | j + 1 => (ws2 bl j).set (16 + j) (wnext ((ws2 bl j).getD j 0) ((ws2 bl j).getD (j + 1) 0) ((ws2 bl j).getD (j + 9) 0) ((ws2 bl j).getD (j + 14) 0))
theorem ws2_length (bl : List Int) : ∀ k,(ws2 bl k).length = 64
 | 0 => ws1_length bl 16
 | k + 1 => by rw [ws2,List.length_set,ws2_length bl k]
def rstep (v : List Int) (kt wt : Int) : List Int :=
 match v with
 | [a,b,c,d,e,f,g,h] =>
  let p := h + rot e 26 21 7 + bits .xor .u32 g (bits .and .u32 e (bits .xor .u32 f g)) + kt + wt
  let q := rot a 30 19 10 + bits .or .u32 (bits .and .u32 a b) (bits .and .u32 c (bits .or .u32 a b))
  [(p + q) % 4294967296,a,b,c,(d + p) % 4294967296,e,f,g]
 | v => v
def Ks : List Int := [1116352408,1899447441,3049323471,3921009573,961987163,1508970993,2453635748,2870763221,3624381080,310598401,607225278,1426881987,1925078388,2162078206,2614888103,3248222580,3835390401,4022224774,264347078,604807628,770255983,1249150122,1555081692,1996064986,2554220882,2821834349,2952996808,3210313671,3336571891,3584528711,113926993,338241895,666307205,773529912,1294757372,1396182291,1695183700,1986661051,2177026350,2456956037,2730485921,2820302411,3259730800,3345764771,3516065817,3600352804,4094571909,275423344,430227734,506948616,659060556,883997877,958139571,1322822218,1537002063,1747873779,1955562222,2024104815,2227730452,2361852424,2428436474,2756734187,3204031479,3329325298]
def Hs : List Int := [1779033703,3144134277,1013904242,2773480762,1359893119,2600822924,528734635,1541459225]
def K (k : Nat) : Int := Ks.getD k 0
def rs (W st : List Int) : Nat → List Int
 | 0 => st
 | k + 1 => rstep (rs W st k) (K k) (W.getD k 0)
theorem rstep_length {v : List Int} (h : v.length = 8) (kt wt : Int) : (rstep v kt wt).length = 8 := by
 match v,h with
 | [a,b,c,d,e,f,g,i],_ => rfl
theorem rs_length {W st : List Int} (h : st.length = 8) : ∀ k,(rs W st k).length = 8
 | 0 => h
 | k + 1 => rstep_length (rs_length h k) _ _
def fin (st V : List Int) : Nat → List Int
 | 0 => st
 | q + 1 => (fin st V q).set q (((fin st V q).getD q 0 + V.getD q 0) % 4294967296)
theorem fin_length (st V : List Int) : ∀ q,(fin st V q).length = st.length
 | 0 => rfl
 | q + 1 => by rw [fin,List.length_set,fin_length st V q]
def block (c : Cst) (st bl : List Int) : List Int := fin st (rs (ws2 bl c.a) st c.b) c.d
theorem block_length (c : Cst) (st bl : List Int) : (block c st bl).length = st.length := fin_length _ _ _
end Sh
structure Laid (w : World) : Prop where
 start : ∀ i,i < 8 → w.cell? ⟨0,i,none⟩ = some (.int .u32 (Sh.Hs.getD i 0))
 nums : ∀ i,i < 64 → w.cell? ⟨1,i,none⟩ = some (.int .u32 (Sh.K i))
 size : 2 ≤ w.heap.size
theorem Laid.below {w w' : World} {B : Nat} (h : Laid w) (hb : Below B w w') (hB : 2 ≤ B) : Laid w' :=
 ⟨fun i hi => (hb.cell (p := ⟨0,i,none⟩) (by show 0 < B;omega)).trans (h.start i hi),fun i hi => (hb.cell (p := ⟨1,i,none⟩) (by show 1 < B;omega)).trans (h.nums i hi),Nat.le_trans h.size hb.size⟩
theorem Laid.grown {w w' : World} {g : Option Nat} (h : Laid w) (hb : w.grownBy w' g) (hg : ∀ k,g = some k → 2 ≤ k) : Laid w' :=
 ⟨fun i hi => hb.cell (h.start i hi) (fun e => by have h2 : 2 ≤ 0 := hg _ e.symm;omega),fun i hi => hb.cell (h.nums i hi) (fun e => by have h2 : 2 ≤ 1 := hg _ e.symm;omega),Nat.le_trans h.size hb.size⟩
theorem copy_src {w : World} {g : Nat} {t : TypeId} {a b c d e f g' h : Int} (hv : Ints w g t .u32 [a,b,c,d,e,f,g',h]) {j : Nat} {v : Int} (hj : [a,b,c,d,e,f,g'][j]? = some v) : w.drew.cell? ⟨g,j,none⟩ = some (.int .u32 v) := by
 rw [hv.drew.cell? j]
 match j,hj with
 | 0,hj => simp at hj;subst hj;rfl
 | 1,hj => simp at hj;subst hj;rfl
 | 2,hj => simp at hj;subst hj;rfl
 | 3,hj => simp at hj;subst hj;rfl
 | 4,hj => simp at hj;subst hj;rfl
 | 5,hj => simp at hj;subst hj;rfl
 | 6,hj => simp at hj;subst hj;rfl
theorem eight {l : List Int} (h : l.length = 8) : ∃ a b c d e f g i,l = [a,b,c,d,e,f,g,i] := by
 match l,h with
 | [a,b,c,d,e,f,g,i],_ => exact ⟨a,b,c,d,e,f,g,i,rfl⟩
theorem absorb_any (K : Sh.Cst) (gs b o cap : Nat) (ts : TypeId) (st bl : List Int) (w : World) (hs : Ints w gs ts .u32 st) (hl : st.length = 8)
  (hb : Rd w w.heap.size 1 (some ⟨b,o,none⟩) 64 (bl.map (Value.int .u8))) (hbb : ∀ x ∈ bl,0 ≤ x ∧ x < 256) (hcap : 64 ≤ cap) (hcap2 : cap ≤ maxLen) (hne : b ≠ gs) (hL : Laid w) :
  Calls Tryz.prog 148 #[.pointer (some ⟨gs,0,none⟩),.slice (some ⟨b,o,none⟩) 64 cap] w fun e w' => e = .returned (.tuple #[]) ∧ Ints w' gs ts .u32 (Sh.block K st bl) ∧ w.grownBy w' (some gs) := by
 unfold maxLen at hcap2;have hgs0 := hs.lt;have hKa := Lib.hid K.ha;have hKb := Lib.hid K.hb;have hKd := Lib.hid K.hd;go_enter Tryz.func148,Tryz.ntmps148;go_wp2
 go_loopw [14] (fun i wr => ∃ k : Nat,k ≤ 16 ∧ i = .int .i64 k ∧ Ints wr w.heap.size 224 .u32 (Sh.ws1 bl k) ∧ w.grownBy wr none) (fun i _ => 16 - (intOf i).toNat)
 case atStart => exact ⟨0,by omega,rfl,Ints.new w 224 .u32 (List.replicate 64 0),World.grownBy_alloc _ _ _⟩
 case round =>
  obtain ⟨k,hk,rfl,hI,hg⟩ := hrel
  by_cases hlt : k < 16
  ·have k1 : (k : Int) < 16 := by omega
   have k2 : (4 * (k : Int)) ≤ (cap : Int) := by omega
   have k3 : ¬ cap = 4 * k := by omega
   have k4 : (4 * (k : Int)) ≤ 64 := by omega
   have hR := hb.grown hg (Nat.le_refl _) (fun _ h => by cases h);have hlen : bl.length = 64 := by simpa using hb.1
   have c0 := bytes_at hR (j := 4 * k) (by omega);have c1 := bytes_at hR (j := 4 * k + 1) (by omega);have c2 := bytes_at hR (j := 4 * k + 2) (by omega);have c3 := bytes_at hR (j := 4 * k + 3) (by omega);have b0 := getD_bd hbb (j := 4 * k) (by omega);have b1 := getD_bd hbb (j := 4 * k + 1) (by omega);have b2 := getD_bd hbb (j := 4 * k + 2) (by omega);have b3 := getD_bd hbb (j := 4 * k + 3) (by omega);have HW : Hid (Sh.ws1 bl (k + 1) = (Sh.ws1 bl k).set k (Sh.word (bl.getD (4 * k) 0) (bl.getD (4 * k + 1) 0) (bl.getD (4 * k + 2) 0) (bl.getD (4 * k + 3) 0))) := rfl;have hc := hI.cell (i := k) (by rw [Sh.ws1_length];omega);have hf := hI.frozen k;rw [← Nat.add_assoc] at c1 c2 c3;generalize bl.getD (4 * k) 0 = x0 at *;generalize bl.getD (4 * k + 1) 0 = x1 at *;generalize bl.getD (4 * k + 2) 0 = x2 at *;generalize bl.getD (4 * k + 3) 0 = x3 at *;clear hlen hR
   go_wp2_with (go_at_call 151;(with_reducible refine (word_any _ _ _ _ x0 x1 x2 x3 _ c0 c1 c2 c3 b0 b1 b2 b3 (by omega) (by omega)).mono ?_);rintro e w' ⟨rfl,rfl⟩)
   go_roundw
   case rel => exact ⟨k + 1,by omega,by go_num,by rw [HW.out];exact hI.set_ _ _,grown_setNew hg (Nat.le_refl _) _⟩
   case measure => simp [intOf];omega
  ·have hk16 : k = 16 := by omega
   rw [hk16] at hI;clear hk16;go_wp2
   go_loopw [6] (fun i wr => ∃ j : Nat,j ≤ 48 ∧ i = .int .i64 ((16 + j : Nat) : Int) ∧ Ints wr w.heap.size 224 .u32 (Sh.ws2 bl j) ∧ w.grownBy wr none) (fun i _ => 64 - (intOf i).toNat)
   case atStart => exact ⟨0,by omega,rfl,hI,hg⟩
   case round =>
    clear hI hg;obtain ⟨j,hj,rfl,hI,hg⟩ := hrel;have hlen := Sh.ws2_length bl j
    by_cases hlt : j < 48
    ·have HW : Hid (Sh.ws2 bl (j + 1) = (Sh.ws2 bl j).set (16 + j) (Sh.wnext ((Sh.ws2 bl j).getD j 0) ((Sh.ws2 bl j).getD (j + 1) 0) ((Sh.ws2 bl j).getD (j + 9) 0) ((Sh.ws2 bl j).getD (j + 14) 0))) := rfl
     obtain ⟨t,ht⟩ : ∃ t,16 + j = t := ⟨_,rfl⟩;obtain ⟨j1,hj1⟩ : ∃ t,j + 1 = t := ⟨_,rfl⟩;obtain ⟨j9,hj9⟩ : ∃ t,j + 9 = t := ⟨_,rfl⟩;obtain ⟨j14,hj14⟩ : ∃ t,j + 14 = t := ⟨_,rfl⟩;rw [ht,hj1,hj9,hj14] at HW;have q0 := hI.cell (i := j) (by omega);have q1 := hI.cell (i := j1) (by omega);have q9 := hI.cell (i := j9) (by omega);have q14 := hI.cell (i := j14) (by omega);have qt := hI.cell (i := t) (by omega);have qf := hI.frozen t;generalize (Sh.ws2 bl j).getD j 0 = x0 at *;generalize (Sh.ws2 bl j).getD j1 0 = x1 at *;generalize (Sh.ws2 bl j).getD j9 0 = x9 at *;generalize (Sh.ws2 bl j).getD j14 0 = x14 at *;have e15 : IntKind.i64.wrap ((t : Int) - 15) = (j1 : Int) := by rw [IntWalk.i64_in _ (by omega)];omega
     have e2 : IntKind.i64.wrap ((t : Int) - 2) = (j14 : Int) := by rw [IntWalk.i64_in _ (by omega)];omega
     have e16 : IntKind.i64.wrap ((t : Int) - 16) = (j : Int) := by rw [IntWalk.i64_in _ (by omega)];omega
     have e7 : IntKind.i64.wrap ((t : Int) - 7) = (j9 : Int) := by rw [IntWalk.i64_in _ (by omega)];omega
     have t1 : (t : Int) < 64 := by omega
     have t2 : (j : Int) < 64 := by omega
     have t3 : (j1 : Int) < 64 := by omega
     have t4 : (j9 : Int) < 64 := by omega
     have t5 : (j14 : Int) < 64 := by omega
     have s2 : (0 : Int) ≤ (j : Int) := by omega
     have s3 : (0 : Int) ≤ (j1 : Int) := by omega
     have s4 : (0 : Int) ≤ (j9 : Int) := by omega
     have s5 : (0 : Int) ≤ (j14 : Int) := by omega
     have s6 : (0 : Int) ≤ (t : Int) := by omega
     have HT := Lib.hid ht;have HT9 : Hid (t ≠ j9) := by show t ≠ j9;omega
     have HJ1 := Lib.hid hj1;clear ht hj1 hj9 hj14 hlen;rw [HT.out];go_wp2
     go_quiet (fail)
     go_wp2;have qf : (wr.drewN nq).frozen? ⟨w.heap.size,t,none⟩ = false := qf
     go_region_held3 (fun w' => w'.cell? ⟨w.heap.size,j,none⟩ = some (.int .u32 x0) ∧ w'.cell? ⟨w.heap.size,j9,none⟩ = some (.int .u32 x9))
      (first
       | go_keep
       | exact ⟨(World.cell?_setCell_other _ _ _ _ (by simp;have := HT.out;omega)).trans q0,(World.cell?_setCell_other _ _ _ _ (by simp;have := HT9.out;omega)).trans q9⟩)
      ((first | (go_at_call 152;(with_reducible refine (rot_any _ (-7) 25 (by decide) (by decide) _).mono ?_);rintro e w' ⟨rfl,rfl⟩) | (go_at_call 152;(with_reducible refine (rot_any _ (-18) 14 (by decide) (by decide) _).mono ?_);rintro e w' ⟨rfl,rfl⟩) | (go_at_call 152;(with_reducible refine (rot_any _ (-17) 15 (by decide) (by decide) _).mono ?_);rintro e w' ⟨rfl,rfl⟩) | (go_at_call 152;(with_reducible refine (rot_any _ (-19) 13 (by decide) (by decide) _).mono ?_);rintro e w' ⟨rfl,rfl⟩)))
     go_wp2;go_roundw
     case rel => exact ⟨j1,by have h2 := HJ1.out;omega,by have h1 := HT.out;have h2 := HJ1.out;rw [← h1,← h2];go_num,by rw [HW.out];exact (hI.drewN _).set_ _ _,grown_setNew (grown_drewN hg _) (Nat.le_refl _) _⟩
     case measure => simp [intOf];omega
    ·have hj48 : j = K.a := by have := hKa.out;omega
     rw [hj48] at hI hlen;have HLn := Lib.hid hlen;obtain ⟨t,ht⟩ : ∃ t,16 + j = t := ⟨_,rfl⟩;have t64 : 64 ≤ t := by omega
     rw [ht];clear hlen hj48 ht;generalize hW : Sh.ws2 bl K.a = W at *;have HWe := Lib.hid hW;clear hW;obtain ⟨s0,s1,s2,s3,s4,s5,s6,s7,rfl⟩ := eight hl;have hs1 := hs.grown hg (by simp)
     go_wp2_with (refine wpList_load_row rfl 218 (.tmp 67) rfl gs (by rfl) ts _ (0,0) _ hs1 Tryz.underlying218 (by rfl) (by kernel_rfl) ?_)
     have hv := Ints.new wr 218 .u32 [s0,s1,s2,s3,s4,s5,s6,s7];obtain ⟨g9,hg9⟩ : ∃ g,wr.heap.size = g := ⟨_,rfl⟩;rw [hg9] at hv;have hwg : w.heap.size < g9 := by have := hI.lt;omega
     have hI := hI.alloc (.cells #[.int .u32 s0,.int .u32 s1,.int .u32 s2,.int .u32 s3,.int .u32 s4,.int .u32 s5,.int .u32 s6,.int .u32 s7] 218);have hg := grown_alloc hg (.cells #[.int .u32 s0,.int .u32 s1,.int .u32 s2,.int .u32 s3,.int .u32 s4,.int .u32 s5,.int .u32 s6,.int .u32 s7] 218);rw [hg9];clear hg9 hs1
     go_loopw [69] (fun i wx => ∃ r : Nat,r ≤ 64 ∧ i = .int .i64 r ∧ Ints wx g9 218 .u32 (Sh.rs W [s0,s1,s2,s3,s4,s5,s6,s7] r) ∧ Ints wx w.heap.size 224 .u32 W ∧ w.grownBy wx none) (fun i _ => 64 - (intOf i).toNat)
     case atStart => exact ⟨0,by omega,rfl,hv,hI,hg⟩
     case round =>
      clear hI hg hv;obtain ⟨r,hr,rfl,hv,hI,hg⟩ := hrel
      by_cases hlt : r < 64
      ·obtain ⟨v0,v1,v2,v3,v4,v5,v6,v7,hvv⟩ := eight (Sh.rs_length (W := W) (st := [s0,s1,s2,s3,s4,s5,s6,s7]) hl r)
       have HR : Hid (Sh.rs W [s0,s1,s2,s3,s4,s5,s6,s7] (r + 1) = Sh.rstep [v0,v1,v2,v3,v4,v5,v6,v7] (Sh.K r) (W.getD r 0)) := by
        show _ = _;rw [Sh.rs,hvv]
       rw [hvv] at hv;clear hvv;have q0 : _ = some (Value.int .u32 v0) := hv.cell? 0;have q1 : _ = some (Value.int .u32 v1) := hv.cell? 1;have q2 : _ = some (Value.int .u32 v2) := hv.cell? 2;have q3 : _ = some (Value.int .u32 v3) := hv.cell? 3;have q4 : _ = some (Value.int .u32 v4) := hv.cell? 4;have q5 : _ = some (Value.int .u32 v5) := hv.cell? 5;have q6 : _ = some (Value.int .u32 v6) := hv.cell? 6;have q7 : _ = some (Value.int .u32 v7) := hv.cell? 7;have qk := (hL.grown hg (fun _ h => by cases h)).nums r hlt;have qw := hI.cell (i := r) (by have := HLn.out;omega);generalize W.getD r 0 = xw at *;generalize Sh.K r = xk at *;have r0 : (0 : Int) ≤ (r : Int) := by omega
       have r1 : (r : Int) < 64 := by omega
       go_wp2
       go_quiet ((go_at_call 153;exact quiet_eq (rotated_6 _ _)))
       go_wp2;have hv := hv.drewN nq;have hI := hI.drewN nq;have hg := grown_drewN hg nq;clear q0 q1 q2 q3 q4 q5 q6 q7 qk qw;generalize wr.drewN nq = wy at hv hI hg ⊢;have q0 : _ = some (Value.int .u32 v0) := hv.cell? 0;have q1 : _ = some (Value.int .u32 v1) := hv.cell? 1;have q2 : _ = some (Value.int .u32 v2) := hv.cell? 2
       go_quiet ((go_at_call 153;exact quiet_eq (rotated_2 _ _)))
       go_wp2;have hv := hv.drewN nq;have hI := hI.drewN nq;have hg := grown_drewN hg nq;clear q0 q1 q2;generalize wy.drewN nq = wz at hv hI hg ⊢
       go_region_held3 (fun w' => True) (trivial)
        ((refine wp_at (by rfl) (wp_copy_ints (.tmp 116) (.tmp 117) 228 228 (by rfl) 216 Tryz.underlying228 (by kernel_rfl) g9 1 7 7 g9 0 7 8 (by rfl) (by rfl) hv.drew [v0,v1,v2,v3,v4,v5,v6] (by rfl) (fun j v h => by rw [Nat.zero_add];exact copy_src hv h) (by simp) ?_);intro wc hvc hgc))
       have hvc : Ints wc g9 218 .u32 [v0,v0,v1,v2,v3,v4,v5,v6] := hvc;have hI := hI.drew.grown hgc (by simp;omega);have hg := grown_then (grown_drew hg) hgc (fun i e => by injection e with e;omega);clear hv hgc;have q4 : _ = some (Value.int .u32 v3) := hvc.cell? 4;have q0 : _ = some (Value.int .u32 v0) := hvc.cell? 0;have f4 := hvc.frozen 4;have f0 := hvc.frozen 0;go_wp2;go_roundw
       case rel => exact ⟨r + 1,by omega,by go_num,by rw [HR.out];exact (hvc.set_ 4 _).set_ 0 _,(hI.far (by simp;omega) _).far (by simp;omega) _,grown_setNew (grown_setNew hg (by simp;omega) _) (by simp;omega) _⟩
       case measure => simp [intOf];omega
      ·have hr64 : r = K.b := by have := hKb.out;omega
       rw [hr64] at hv;have HRL := Lib.hid (Sh.rs_length (W := W) (st := [s0,s1,s2,s3,s4,s5,s6,s7]) hl K.b);generalize hV : Sh.rs W [s0,s1,s2,s3,s4,s5,s6,s7] K.b = V at *;have HV := Lib.hid hV;clear hV hr64;have hs := hs.grown hg (by simp);clear hI;obtain ⟨r64,hr64⟩ : ∃ x,r = x := ⟨_,rfl⟩;have hg := hg.but (some gs);obtain ⟨ss,hss⟩ : ∃ ss,[s0,s1,s2,s3,s4,s5,s6,s7] = ss := ⟨_,rfl⟩;have hsl : ss.length = 8 := by rw [← hss];exact hl
       go_wp2;rw [hss] at hs;rw [hss] at HV;have HSL := Lib.hid hsl;have HSS := Lib.hid hss;clear hss hsl hr64
       go_loopw [129] (fun i wx => ∃ q : Nat,q ≤ 8 ∧ i = .int .i64 q ∧ Ints wx gs ts .u32 (Sh.fin ss V q) ∧ Ints wx g9 218 .u32 V ∧ w.grownBy wx (some gs)) (fun i _ => 8 - (intOf i).toNat)
       case atStart => exact ⟨0,by omega,rfl,hs,hv,hg⟩
       case round =>
        clear hs hv hg;obtain ⟨q,hq,rfl,hs,hv,hg⟩ := hrel
        by_cases hlt : q < 8
        ·have HQ : Hid (Sh.fin ss V (q + 1) = (Sh.fin ss V q).set q (((Sh.fin ss V q).getD q 0 + V.getD q 0) % 4294967296)) := rfl
         have q0 := hs.cell (i := q) (by rw [Sh.fin_length,HSL.out];exact hlt);have q1 := hv.cell (i := q) (by rw [HRL.out];exact hlt);have f0 := hs.frozen q;generalize (Sh.fin ss V q).getD q 0 = x0 at *;generalize V.getD q 0 = x1 at *;have r0 : (0 : Int) ≤ (q : Int) := by omega
         have r1 : (q : Int) < 8 := by omega
         go_wp2
         go_region
         go_wp2;go_roundw
         case rel => exact ⟨q + 1,by omega,by go_num,by rw [HQ.out];exact hs.drew.set_ q _,hv.drew.far (by simp;omega) _,grown_set (grown_drew hg) _ _⟩
         case measure => simp [intOf];omega
        ·have hq8 : q = K.d := by have := hKd.out;omega
         rw [hq8] at hs;rw [← HV.out,← HWe.out] at hs;go_wp2
         go_end0
         have hss := HSS.out;subst hss;exact ⟨rfl,hs,hg⟩
end Go.Proofs.YtifejdpffkeniaaGreatDoor
namespace Go.Proofs.YtifejdpffkeniaaGreatDoor
open Go.RowKit
def laid2 : List (String × DataW Unit) := [("signatory/digest.start",Rows.laid_signatory_digest_start),("signatory/digest.numbers",Rows.laid_signatory_digest_numbers)]
theorem gStart : Tryz.prog.globalNamed "signatory/digest.start" = some 0 := by kernel_rfl
theorem gNums : Tryz.prog.globalNamed "signatory/digest.numbers" = some 1 := by kernel_rfl
theorem tStart : (Tryz.prog.globals[0]?).map (·.type) = some 217 := by kernel_rfl
theorem tNums : (Tryz.prog.globals[1]?).map (·.type) = some 224 := by kernel_rfl
theorem laid_of {W : World} (h : laidMetH Tryz.prog laid2 W) : Laid W := by
 rw [MakeChecks.laidMetH_plain _ _ _ (by kernel_rfl)] at h;obtain ⟨ps,⟨g0,t0,cs0,f0,p0,q0,hg0,ht0,hv0,hd0,⟨g1,t1,cs1,f1,p1,q1,hg1,ht1,hv1,hd1,_,_⟩,_⟩,_,_⟩ := h;obtain rfl := Option.some.inj (gStart.symm.trans hg0);obtain rfl := Option.some.inj (gNums.symm.trans hg1);obtain rfl := Option.some.inj (tStart.symm.trans ht0);obtain rfl := Option.some.inj (tNums.symm.trans ht1);have e0 := Lib.cells_of_tab (k := .u32) (zs := Sh.Hs) Tryz.underlying217 Tryz.underlying216 (by kernel_rfl) (by kernel_rfl) hd0;have e1 := Lib.cells_of_tab (k := .u32) (zs := Sh.Ks) Tryz.underlying224 Tryz.underlying216 (by kernel_rfl) (by kernel_rfl) hd1;have hl0 : Sh.Hs.length = 8 := rfl;have hl1 : Sh.Ks.length = 64 := rfl
 have n1 : ∀ i,i < 64 → W.cell? ⟨1,i,none⟩ = some (.int .u32 (Sh.K i)) := fun i hi => by
  have hi' : i < Sh.Ks.length := by rw [hl1];exact hi
  have := World.var?_cell hg1 hv1 i;rw [this,← Array.getElem?_toList,e1,List.getElem?_map,List.getElem?_eq_getElem hi'];unfold Sh.K;rw [List.getD_eq_getElem?_getD,List.getElem?_eq_getElem hi']
  rfl
 refine ⟨fun i hi => ?_,n1,?_⟩
 ·have hi' : i < Sh.Hs.length := by rw [hl0];exact hi
  have := World.var?_cell hg0 hv0 i;rw [this,← Array.getElem?_toList,e0,List.getElem?_map,List.getElem?_eq_getElem hi'];rw [List.getD_eq_getElem?_getD,List.getElem?_eq_getElem hi']
  rfl
 ·have := World.block_lt_of_cell? W _ (n1 0 (by omega))
  exact this
theorem door_met (os : Os) (args : Array Value) : laidMetH Tryz.prog laid2 ((World.doorLaid Tryz.prog 19 os).forCall (fun _ _ => 0) ⟨#[],args,[]⟩).memory :=
 laidMetH_of_parts3 (fuel := 8) (laidMet_of_run' 8 (by kernel_rfl) (by kernel_rfl)) (by kernel_rfl) (by kernel_rfl)
theorem grown_below {w w' : World} (hb : Below w.heap.size w w') : w.grownBy w' none := ⟨hb.os,hb.tape,hb.output,hb.size,fun k hk _ => hb.block k hk⟩
theorem own_below {w w' : World} {base : Nat} {e : TypeId} {v : Value} {size n : Nat} {xs : List Value} (h : w.ownsRow base e size v n xs) (hb : Below w.heap.size w w') : w'.ownsRow base e size v n xs :=
 h.kept (grown_below hb) (by cases v.ownBlock <;> simp)
theorem own_far {w : World} {base : Nat} {e : TypeId} {v : Value} {size n : Nat} {xs : List Value} (h : w.ownsRow base e size v n xs) : some w.heap.size ≠ v.ownBlock := fun e => by
 have := (h.lt _ e.symm).2;omega
structure One (w0 : World) (B : Nat) (w : World) (e : TypeId) (size : Nat) (v : Value) (n : Nat) (xs : List Value) : Prop where
 own : w.ownsRow B e size v n xs
 bel : Below B w0 w
 size : B ≤ w.heap.size
theorem One.start (w0 : World) (e : TypeId) (s : Nat) : One w0 w0.heap.size w0 e s (.slice none 0 0) 0 [] :=
 ⟨World.ownsRow_nil _ _ _ _,Below.refl _ _,Nat.le_refl _⟩
section
variable {w0 w w' : World} {B : Nat} {e : TypeId} {s n : Nat} {v : Value} {xs : List Value}
theorem One.alloc (h : One w0 B w e s v n xs) (o : Obj) : One w0 B (w.alloc o) e s v n xs := ⟨h.own.alloc o,h.bel.alloc h.size o,by have := h.size;simp;omega⟩
theorem One.below (h : One w0 B w e s v n xs) (hb : Below w.heap.size w w') : One w0 B w' e s v n xs := ⟨own_below h.own hb,h.bel.trans (hb.mono h.size),Nat.le_trans h.size hb.size⟩
theorem One.grew {v' : Value} {n' : Nat} {xs' : List Value} (h : One w0 B w e s v n xs) (hown : w'.ownsRow B e s v' n' xs') (hg : w.grownBy w' v.ownBlock) : One w0 B w' e s v' n' xs' :=
 ⟨hown,h.bel.grown hg h.size fun k hk => (h.own.lt k hk).1,Nat.le_trans h.size hg.size⟩
end
theorem alloc_cell0 (w : World) (x : Value) (cs : List Value) (t : TypeId) : (w.alloc (.cells ⟨x :: cs⟩ t)).cell? ⟨w.heap.size,0,none⟩ = some x := by
 rw [cell_of_row (w.alloc (.cells ⟨x :: cs⟩ t)) w.heap.size 0 _ _ _ (heap_alloc_new w _)];rfl
theorem alloc_cell1 (w : World) (x y : Value) (cs : List Value) (t : TypeId) : (w.alloc (.cells ⟨x :: y :: cs⟩ t)).cell? ⟨w.heap.size,1,none⟩ = some y := by
 rw [cell_of_row (w.alloc (.cells ⟨x :: y :: cs⟩ t)) w.heap.size 1 _ _ _ (heap_alloc_new w _)];rfl
namespace Cd
def numL (u : Nat) : List Int := if h : u < 128 then [(u : Int)] else bits .or .u8 (IntKind.u8.wrap u) 128 :: numL (u / 128)
termination_by u
decreasing_by omega
theorem numL_small {u : Nat} (h : u < 128) : numL u = [(u : Int)] := by rw [numL,dif_pos h]
theorem numL_big {u : Nat} (h : ¬ u < 128) : numL u = bits .or .u8 (IntKind.u8.wrap u) 128 :: numL (u / 128) := by rw [numL,dif_neg h]
theorem numL_len : ∀ (k u : Nat),u < 128 ^ (k + 1) → (numL u).length ≤ k + 1
 | 0,u,h => by rw [numL_small (by simpa using h)];simp
 | k + 1,u,h => by
  by_cases h1 : u < 128
  ·rw [numL_small h1];simp
  ·rw [numL_big h1,List.length_cons]
   have := numL_len k (u / 128) (by rw [Nat.pow_succ] at h;omega);omega
theorem numL_ten {u : Nat} (h : u < 18446744073709551616) : (numL u).length ≤ 10 := numL_len 9 u (by omega)
end Cd
structure Grew (base : Nat) (w : World) (v : Value) (n : Nat) (xs : List Int) (w' : World) (v' : Value) (ys : List Int) : Prop where
 own : w'.ownsRow base 5 1 v' (n + ys.length) ((xs ++ ys).map (Value.int .u8))
 grow : w.grownBy w' v.ownBlock
 blk : ∀ j,v'.ownBlock = some j → w.heap.size ≤ j ∨ v.ownBlock = some j
theorem Grew.then {base : Nat} {a b c : World} {v v1 v2 : Value} {n : Nat} {xs ys zs : List Int} (h : Grew base a v n xs b v1 ys) (k : Grew base b v1 (n + ys.length) (xs ++ ys) c v2 zs) : Grew base a v n xs c v2 (ys ++ zs) := by
 refine ⟨?_,grown_then h.grow k.grow h.blk,fun j hj => ?_⟩
 ·have := k.own
  rwa [List.append_assoc,Nat.add_assoc,← List.length_append] at this
 ·rcases k.blk j hj with h1 | h1
  ·exact .inl (Nat.le_trans h.grow.size h1)
  ·exact h.blk j h1
theorem infoU8c : (Tryz.prog.info? 5).map (fun i => (i.zero,i.size,i.bytes)) = some (some (.int .u8 0),1,1) := by kernel_rfl
theorem Grew.byte {base : Nat} {w w' : World} {v v' : Value} {n : Nat} {xs : List Int} {x : Int} {o : Obj} (hown : w'.ownsRow base 5 1 v' (n + 1) (xs.map (Value.int .u8) ++ [.int .u8 x]))
  (hg : (w.alloc o).grownBy w' v.ownBlock) (hb : v'.ownBlock = v.ownBlock ∨ v'.ownBlock = some (w.alloc o).heap.size) : Grew base w v n xs w' v' [x] := by
 refine ⟨by simpa using hown,grown_then (World.grownBy_alloc w o _) hg (fun j hj => .inr hj),fun j hj => ?_⟩
 rcases hb with hb | hb
 ·exact .inr (hb ▸ hj)
 ·rw [hb] at hj;injection hj with hj;simp at hj;exact .inl (by omega)
theorem one_at (w : World) (x : Value) (t : TypeId) (g : Nat) (hg : g = w.heap.size) : ∀ (j : Nat) (u : Value),[x][j]? = some u → (w.alloc (.cells #[x] t)).cell? ((⟨g,0,none⟩ : Addr).add j) = some u := by
 subst hg;intro j u hj
 match j,hj with
 | 0,hj =>
  simp at hj;subst hj;have h := cell_of_row (w.alloc (.cells #[x] t)) w.heap.size 0 _ _ _ (heap_alloc_new w _);rw [Addr.add_flat,h]
  rfl
theorem wp_atc {P : Program} {o : Oper} {a : Act} {ops : Array Oper} {w : World} {K : Act → World → Prop} {Q : Exit → Act → World → Prop} {E : Prop} (hgd : o.guard = none) (h : Oper.wp P o a w K Q) :
  if Region.wanted o (yielded ops a.tmps) = true then Oper.wp P o a w K Q else E := by
 have hw : Region.wanted o (yielded ops a.tmps) = true := by simp [Region.wanted,hgd]
 rw [if_pos hw];exact h
def NumPost (base : Nat) (w : World) (v : Value) (n : Nat) (xs ys : List Int) (e : Ending) (w' : World) : Prop := ∃ v',e = .returned v' ∧ Grew base w v n xs w' v' ys
theorem numeral_any (base : Nat) (v : Value) (n : Nat) (xs : List Int) (u : Nat) (w : World) (hown : w.ownsRow base 5 1 v n (xs.map (Value.int .u8))) (hu : u < 18446744073709551616) (hn : n ≤ 1000000) (hbase : base ≤ w.heap.size) :
  Calls Tryz.prog 136 #[v,.int .u64 u] w (NumPost base w v n xs (Cd.numL u)) := by
 obtain ⟨i0,hi,hz0,hz1,hz2⟩ := info_parts infoU8c;have hten := Cd.numL_ten hu;have HT := Lib.hid hten;have hgr : Grew base w v n xs w v [] := ⟨by simpa using hown,World.grownBy.refl _ _,fun j hj => .inr hj⟩;clear hten hown;go_enter Tryz.func136,Tryz.ntmps136;go_wp2
 go_loopw [0,1] (fun b x wx => ∃ (y : Nat) (ys : List Int),x = .int .u64 y ∧ y ≤ u ∧ Cd.numL u = ys ++ Cd.numL y ∧ Grew base w v n xs wx b ys) (fun _ x _ => (intOf x).toNat)
 case atStart => exact ⟨u,[],rfl,Nat.le_refl _,rfl,hgr⟩
 case round =>
  clear hgr;obtain ⟨y,ys,rfl,hy,hys,hG⟩ := hrel;have hyl : ys.length ≤ 10 := by have := HT.out;rw [hys,List.length_append] at this;omega
  have hbs := Nat.le_trans hbase hG.grow.size
  by_cases h128 : y < 128
  ·have HY := Lib.hid (Cd.numL_small h128)
   have HYS := Lib.hid hys;clear hys;have k1 : (y : Int) < 128 := by omega
   go_wp2_with (at_builtin;refine wpList_append_own_at _ rfl (.tmp 15) (.tmp 18) 57 rfl base 5 i0 (.int .u8 0) 1 1 Tryz.underlying57 hi hz0 hz1 hz2 rfl (by decide) _ (n + ys.length) _ (by rfl) (hG.own.alloc _) _ 1 1 [.int .u8 y] (by rfl) rfl (one_at _ _ _ _ (by simp)) (fun u hu => by simp at hu;subst hu;rfl) (by unfold maxLen;omega) (by omega) (by simp;omega) ?_;intro v' w2 ho hg _ hb2)
   have hG2 := hG.then (Grew.byte ho hg hb2);go_wp2;go_ret;exact ⟨v',rfl,by rw [HYS.out,HY.out];exact hG2⟩
  ·have HY := Lib.hid (Cd.numL_big h128)
   have HYS := Lib.hid hys;clear hys;have k1 : (128 : Int) ≤ y := by omega
   go_wp2_with (at_builtin;refine wpList_append_own_at _ rfl (.tmp 9) (.tmp 13) 57 rfl base 5 i0 (.int .u8 0) 1 1 Tryz.underlying57 hi hz0 hz1 hz2 rfl (by decide) _ (n + ys.length) _ (by rfl) (hG.own.alloc _) _ 1 1 [.int .u8 (bits .or .u8 (IntKind.u8.wrap y) 128)] (by rfl) rfl (one_at _ _ _ _ (by simp)) (fun u hu => by simp at hu;subst hu;rfl) (by unfold maxLen;omega) (by omega) (by simp;omega) ?_;intro v' w2 ho hg _ hb2)
   have hG2 := hG.then (Grew.byte ho hg hb2);clear ho hg hb2;go_wp2;go_roundw
   case rel => exact ⟨y / 128,_,by go_num,by omega,by rw [HYS.out,HY.out,List.append_assoc];rfl,hG2⟩
   case measure => simp [intOf];omega
theorem retI {k : IntKind} {a b : Int} (h : a = b) : Ending.returned (.int k a) = .returned (.int k b) := by rw [h]
theorem xor_zero (n : Nat) (h : n < 4611686018427387904) : bits .xor .u64 ((n : Int) * 2) 0 = (n : Int) * 2 := by
 have e : bits .xor .u64 ((n : Int) * 2) 0 = IntKind.u64.wrap (((BitVec.ofInt 64 ((n : Int) * 2) ^^^ 0#64).toNat : Nat) : Int) := rfl;rw [e,BitVec.xor_zero,BitVec.toNat_ofInt];simp only [IntKind.wrap,IntKind.bits,IntKind.signed];simp;omega
theorem unsigned_any (n : Nat) (h : n < 4611686018427387904) (w : World) : Calls Tryz.prog 137 #[.int .i64 n] w fun e w' => e = .returned (.int .u64 ((2 * n : Nat) : Int)) ∧ w = w' := by
 have e0 : (n : Int) / 9223372036854775808 = 0 := by omega
 have e1 := xor_zero n h;have h1 : (n : Int) < 4611686018427387904 := by omega
 go_enter Tryz.func137,Tryz.ntmps137;go_wp2;go_ret;exact ⟨retI (by omega),rfl⟩
def intV (n : Int) : Value := .agg #[.int .i64 1,.int .i64 n,.string ⟨#[]⟩,.slice none 0 0]
theorem formed_int (n : Int) (w : World) : Calls Tryz.prog 134 #[intV n] w fun e w' => e = .returned (.tuple #[.int .i64 0,.bool true]) ∧ Below w.heap.size w w' := by
 unfold intV
 by_cases h0 : n = 0
 ·subst h0
  go_enter Tryz.func134,Tryz.ntmps134;go_wp2;go_ret2;exact ⟨rfl,((Below.refl _ _).alloc (Nat.le_refl _) _).alloc (by simp) _⟩
 ·have h1 : (n == 0) = false := by simp [h0]
  go_enter Tryz.func134,Tryz.ntmps134;go_wp2;go_ret2;exact ⟨rfl,((Below.refl _ _).alloc (Nat.le_refl _) _).alloc (by simp) _⟩
def listV (A : Option Addr) (n c : Nat) : Value := .agg #[.int .i64 3,.int .i64 0,.string ⟨#[]⟩,.slice A n c]
def intCells (ns : List Int) : List Value := ns.flatMap fun n => [.int .i64 1,.int .i64 n,.string ⟨#[]⟩,.slice none 0 0]
theorem formed_two (g c : Nat) (n1 n2 : Int) (w : World) (hr : Rd w w.heap.size 4 (some ⟨g,0,none⟩) 2 (intCells [n1,n2])) :
  Calls Tryz.prog 134 #[listV (some ⟨g,0,none⟩) 2 c] w fun e w' => e = .returned (.tuple #[.int .i64 1,.bool true]) ∧ Below w.heap.size w w' := by
 unfold listV;obtain ⟨b,o,e,hb,hc⟩ := hr.2 (by omega)
 injection e with e
 injection e with e1 e2
 subst e1;subst e2;have q0 : w.cell? ⟨g,0,none⟩ = some (.int .i64 1) := hc 0 _ rfl;have q1 : w.cell? ⟨g,1,none⟩ = some (.int .i64 n1) := hc 1 _ rfl;have q2 : w.cell? ⟨g,2,none⟩ = some (.string ⟨#[]⟩) := hc 2 _ rfl;have q3 : w.cell? ⟨g,3,none⟩ = some (.slice none 0 0) := hc 3 _ rfl;have q4 : w.cell? ⟨g,4,none⟩ = some (.int .i64 1) := hc 4 _ rfl;have q5 : w.cell? ⟨g,5,none⟩ = some (.int .i64 n2) := hc 5 _ rfl;have q6 : w.cell? ⟨g,6,none⟩ = some (.string ⟨#[]⟩) := hc 6 _ rfl;have q7 : w.cell? ⟨g,7,none⟩ = some (.slice none 0 0) := hc 7 _ rfl;clear hc hr;go_enter Tryz.func134,Tryz.ntmps134;go_wp2;refine wp_loop_rounds 3 ?_;rw [rounds_succ]
 go_wp2_with fail
 refine (formed_int n1 _).mono ?_;rintro e w1 ⟨rfl,hb1⟩;have hB1 := ((((Below.refl w.heap.size w).alloc (Nat.le_refl _) _).alloc (by simp) _).alloc (by simp;omega) _).trans (hb1.mono (by simp;omega));clear hb1;have p4 := (hB1.cell (p := ⟨g,4,none⟩) hb).trans q4;have p5 := (hB1.cell (p := ⟨g,5,none⟩) hb).trans q5;have p6 := (hB1.cell (p := ⟨g,6,none⟩) hb).trans q6;have p7 := (hB1.cell (p := ⟨g,7,none⟩) hb).trans q7;go_wp2;rw [rounds_succ]
 go_wp2_with fail
 refine (formed_int n2 _).mono ?_;rintro e w2 ⟨rfl,hb2⟩;have hB2 := (hB1.alloc hB1.size _).trans (hb2.mono (by have := hB1.size;simp;omega));clear hb2;go_wp2;rw [rounds_succ];go_wp2;go_ret2;exact ⟨rfl,hB2⟩
theorem check_two (g c : Nat) (n1 n2 : Int) (w : World) (hr : Rd w w.heap.size 4 (some ⟨g,0,none⟩) 2 (intCells [n1,n2])) :
  Calls Tryz.prog 97 #[listV (some ⟨g,0,none⟩) 2 c] w fun e w' => e = .returned (.int .i64 0) ∧ Below w.heap.size w w' := by
 have hR := Lib.hid ((hr.alloc (Nat.le_refl _) (.cells #[.int .i64 3,.int .i64 0,.string ⟨#[]⟩,.slice (some ⟨g,0,none⟩) 2 c] 107)).more (B' := w.heap.size + 1) (by omega));clear hr;unfold listV;go_enter Tryz.func97,Tryz.ntmps97
 go_wp2_with fail
 refine (formed_two g c n1 n2 _ (by rw [World.size_alloc];exact hR.out)).mono ?_;rintro e w1 ⟨rfl,hb1⟩;have hB1 := ((Below.refl w.heap.size w).alloc (Nat.le_refl _) _).trans (hb1.mono (by simp));clear hb1;go_wp2;go_ret;exact ⟨rfl,hB1⟩
end Go.Proofs.YtifejdpffkeniaaGreatDoor
