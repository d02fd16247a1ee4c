import Derived.Below
import Derived.Deep.AppendLies
import Derived.Deep.Draws
import Derived.Deep.QuietTactic
import Derived.KernelRfl
import Derived.Laws.OwnMore
import Derived.Laws.Rows
import Derived.Lib.Hide
import Derived.Maps.AppendAt
import Derived.OrdersHeld
import Derived.OwnWalk
import Derived.RegionTactic
import Derived.Tactics
import Derived.Test.YtjcpjhlclpdpjaaGreatChecked
import Derived.WalkKit
import Derived.WalkSmall
set_option linter.unusedVariables false
set_option maxRecDepth 100000
set_option maxHeartbeats 16000000
namespace Go.Proofs.YtjcpjhlclpdpjaaGreat
open Go.RowKit
theorem Addr.add_flat (b o k : Nat) : Addr.add ⟨b,o,none⟩ k = ⟨b,o + k,none⟩ := by
 unfold Addr.add;by_cases h : k = 0 <;> simp [h]
def Rd (w : World) (B size : Nat) (A : Option Addr) (n : Nat) (xs : List Value) : Prop :=
 xs.length = n * size ∧ (0 < n → ∃ b o,A = some ⟨b,o,none⟩ ∧ b < B ∧ ∀ (j : Nat) (u : Value),xs[j]? = some u → w.cell? ⟨b,o + j,none⟩ = some u)
section
variable {w w' : World} {B B' size n : Nat} {A : Option Addr} {xs : List Value}
theorem Rd.nil_ : Rd w B size A 0 [] := ⟨by simp,fun h => absurd h (by omega)⟩
theorem Rd.keep (h : Rd w B size A n xs) (hk : ∀ p : Addr,p.block < B → w'.cell? p = w.cell? p) : Rd w' B size A n xs :=
 ⟨h.1,fun hn => by
  obtain ⟨b,o,e,hb,hc⟩ := h.2 hn
  exact ⟨b,o,e,hb,fun j u hu => (hk _ hb).trans (hc j u hu)⟩⟩
theorem Rd.more (h : Rd w B size A n xs) (hB : B ≤ B') : Rd w B' size A n xs :=
 ⟨h.1,fun hn => by
  obtain ⟨b,o,e,hb,hc⟩ := h.2 hn
  exact ⟨b,o,e,by omega,hc⟩⟩
theorem Rd.below (h : Rd w B size A n xs) (hb : Below B w w') : Rd w' B size A n xs := h.keep fun _ hp => hb.cell hp
theorem Rd.drew (h : Rd w B size A n xs) : Rd w.drew B size A n xs := h
theorem Rd.drewN (h : Rd w B size A n xs) (k : Nat) : Rd (w.drewN k) B size A n xs := h
theorem Rd.alloc (h : Rd w B size A n xs) (hB : B ≤ w.heap.size) (o : Obj) : Rd (w.alloc o) B size A n xs := h.keep fun p hp => World.cell?_alloc_lt w o p (by omega)
theorem Rd.setCell (h : Rd w B size A n xs) {p : Addr} (hB : B ≤ p.block) (u : Value) : Rd (w.setCell p u) B size A n xs :=
 h.keep fun q hq => World.cell?_setCell_other w p q u (fun e => by subst e;omega)
theorem Rd.grown (h : Rd w B size A n xs) {row : Option Nat} (hg : w.grownBy w' row) (hB : B ≤ w.heap.size) (hr : ∀ g,row = some g → B ≤ g) : Rd w' B size A n xs :=
 h.keep fun p hp => World.cell?_of_block (hg.block p.block (by omega) (fun e => by have := hr _ e.symm;omega))
theorem Rd.cut (h : Rd w B size A n xs) {k cap : Nat} (hk : k ≤ n) (hc : n ≤ cap) :
  Rd w B size (if cap = k then A else A.map (·.add (k * size))) (n - k) (xs.drop (k * size)) := by
 refine ⟨by rw [List.length_drop,h.1,Nat.sub_mul],fun hn => ?_⟩
 obtain ⟨b,o,rfl,hb,hcell⟩ := h.2 (by omega)
 rw [if_neg (by omega)]
 refine ⟨b,o + k * size,by simp [Addr.add_flat],hb,fun j u hu => ?_⟩
 rw [Nat.add_assoc]
 exact hcell _ u (by rw [← hu,List.getElem?_drop])
theorem Rd.take (h : Rd w B size A n xs) {k : Nat} (hk : k ≤ n) : Rd w B size A k (xs.take (k * size)) := by
 refine ⟨?_,fun hn => ?_⟩
 ·rw [List.length_take,h.1];have := Nat.mul_le_mul_right size hk;omega
 obtain ⟨b,o,rfl,hb,hcell⟩ := h.2 (by omega)
 refine ⟨b,o,rfl,hb,fun j u hu => hcell j u ?_⟩
 rw [List.getElem?_take] at hu
 split at hu
 ·exact hu
 ·cases hu
theorem Rd.of_own {base : Nat} {e : TypeId} {c : Nat} (h : w.ownsRow base e size (.slice A n c) n xs) : Rd w w.heap.size size A n xs := by
 refine ⟨h.1,fun hn => ?_⟩
 obtain ⟨g,cap,hv,_,hlt⟩ := h.form hn
 have hA : A = some ⟨g,0,none⟩ := by injection hv
 subst hA
 refine ⟨g,0,rfl,hlt,fun j u hu => ?_⟩
 have := h.cells (g := g) rfl j u hu
 rw [Addr.add_flat] at this
 exact this
end
section
variable {P : Program} (w : World)
theorem run_append_rd (base : Nat) (t ty e : TypeId) (i : TypeInfo) (z : Value) (size bytes : Nat) (ht : P.underlying t = some (.slice e)) (hi : P.info? e = some i) (hz : i.zero = some z)
  (hsize : i.size = size) (hby : i.bytes = bytes) (hzs : z.cells.size = size) (hsz : 0 < size)
  (v : Value) (n : Nat) (xs : List Value) (hown : w.ownsRow base e size v n xs)
  (B : Nat) (A : Option Addr) (m c : Nat) (news : List Value) (hr : Rd w B size A m news) (h1 : ∀ u ∈ news,u.oneCell' = true)
  (h63 : n + m ≤ maxLen) (hbytes : (n + m) * bytes ≤ 140737488355328) (hbase : base ≤ w.heap.size) :
  ∃ v' w',(Builtin.append_ #[t,t] ty #[v,.slice A m c]).run P w = .ok v' w' ∧ w'.ownsRow base e size v' (n + m) (xs ++ news) ∧ w.grownBy w' v.ownBlock ∧
   (v'.ownBlock = v.ownBlock ∨ v'.ownBlock = some w.heap.size) := by
 rcases A with _ | ad
 ·have hm : m = 0 := by
   rcases Nat.eq_zero_or_pos m with h0 | h0
   ·exact h0
   ·obtain ⟨b,o,h,_⟩ := hr.2 h0
    cases h
  subst hm
  have hn : news = [] := List.eq_nil_of_length_eq_zero (by simpa using hr.1)
  subst hn
  refine ⟨v,w,?_,by simpa using hown,World.grownBy.refl w _,.inl rfl⟩
  rcases hown.2 with ⟨rfl,rfl⟩ | ⟨g,cap,cur,rfl,_,_,hnc,_⟩
  ·simp [Builtin.append_,run_underlying ht,sizeOf,typeInfo,hi,Builtin.lenOf,Builtin.firstCells]
  ·simp [Builtin.append_,run_underlying ht,sizeOf,typeInfo,hi,Builtin.lenOf,Builtin.firstCells,hnc,storeCells]
 ·have hcells : ∀ j u,news[j]? = some u → w.cell? (ad.add j) = some u := by
   intro j u hu
   rcases Nat.eq_zero_or_pos m with h0 | h0
   ·subst h0
    have hn : news = [] := List.eq_nil_of_length_eq_zero (by simpa using hr.1)
    subst hn
    simp at hu
   ·obtain ⟨b,o,h,_,hc⟩ := hr.2 h0
    injection h with h
    subst h
    rw [Addr.add_flat]
    exact hc j u hu
  obtain ⟨v',w',hrun,h2,h3,_,h5⟩ := run_append_own_at (P := P) w base t ty e i z size bytes ht hi hz hsize hby hzs hsz v n xs hown ad m c news hr.1 hcells h1 h63 hbytes hbase
  exact ⟨v',w',hrun,h2,h3,h5⟩
theorem wp_append_rd {o : Oper} {a : Act} {K : Act → World → Prop} {Q : Exit → Act → World → Prop} (s x : Operand) (t : TypeId)
  (ho : o.op = .call { callee := .builtin .append,args := #[s,x],argTypes := #[t,t] })
  (base : Nat) (e : TypeId) (i : TypeInfo) (z : Value) (size bytes : Nat) (ht : P.underlying t = some (.slice e)) (hi : P.info? e = some i) (hz : i.zero = some z)
  (hsize : i.size = size) (hby : i.bytes = bytes) (hzs : z.cells.size = size) (hsz : 0 < size)
  (v : Value) (n : Nat) (xs : List Value) (hs : a.eval s = v) (hown : w.ownsRow base e size v n xs)
  (B : Nat) (A : Option Addr) (m c : Nat) (news : List Value) (hx : a.eval x = .slice A m c) (hr : Rd w B size A m news) (h1 : ∀ u ∈ news,u.oneCell' = true)
  (h63 : n + m ≤ maxLen) (hbytes : (n + m) * bytes ≤ 140737488355328) (hbase : base ≤ w.heap.size)
  (h : ∀ v' w',w'.ownsRow base e size v' (n + m) (xs ++ news) → w.grownBy w' v.ownBlock → (v'.ownBlock = v.ownBlock ∨ v'.ownBlock = some w.heap.size) → K (a.put o.dst v') w') : o.wp P a w K Q := by
 obtain ⟨v',w',hrun,h2,h3,h4⟩ := run_append_rd (P := P) w base t o.type e i z size bytes ht hi hz hsize hby hzs hsz v n xs hown B A m c news hr h1 h63 hbytes hbase
 unfold Oper.wp execOp
 simp only [ho,resolve,invoke,builtin,Sem.run_bind,Sem.run_pure,Result.andThen_ok,List.map_toArray,List.map_cons,List.map_nil,hs,hx,hrun]
 exact h v' w' h2 h3 h4
theorem wpList_append_rd {ops : Array Oper} {rest : List Oper} {o : Oper} {a : Act} {Q : Exit → Act → World → Prop} (hgd : o.guard = none) (s x : Operand) (t : TypeId)
  (ho : o.op = .call { callee := .builtin .append,args := #[s,x],argTypes := #[t,t] })
  (base : Nat) (e : TypeId) (i : TypeInfo) (z : Value) (size bytes : Nat) (ht : P.underlying t = some (.slice e)) (hi : P.info? e = some i) (hz : i.zero = some z)
  (hsize : i.size = size) (hby : i.bytes = bytes) (hzs : z.cells.size = size) (hsz : 0 < size)
  (v : Value) (n : Nat) (xs : List Value) (hs : a.eval s = v) (hown : w.ownsRow base e size v n xs)
  (B : Nat) (A : Option Addr) (m c : Nat) (news : List Value) (hx : a.eval x = .slice A m c) (hr : Rd w B size A m news) (h1 : ∀ u ∈ news,u.oneCell' = true)
  (h63 : n + m ≤ maxLen) (hbytes : (n + m) * bytes ≤ 140737488355328) (hbase : base ≤ w.heap.size)
  (h : ∀ v' w',w'.ownsRow base e size v' (n + m) (xs ++ news) → w.grownBy w' v.ownBlock → (v'.ownBlock = v.ownBlock ∨ v'.ownBlock = some w.heap.size) → wpList P ops Q rest (a.put o.dst v') w') : wpList P ops Q (o :: rest) a w :=
 wpList_plain hgd fun _ hK => wp_append_rd w s x t ho base e i z size bytes ht hi hz hsize hby hzs hsz v n xs hs hown B A m c news hx hr h1 h63 hbytes hbase fun v' w' h2 h3 h4 => hK _ _ (h v' w' h2 h3 h4)
end
theorem quiet_eq {P : Program} {f : FuncId} {args : Array Value} {w : World} {n : Nat} {v : Value}
  (h : Calls P f args (w.drewN n) fun e w' => e = .returned v ∧ w.drewN n = w') : Calls P f args (w.drewN n) fun e w'' => e = .returned v ∧ ∃ m,w'' = w.drewN m :=
 h.mono fun _ _ ⟨he,hm⟩ => ⟨he,n,hm.symm⟩
def Drw (w w' : World) : Prop := ∃ m,w.drewN m = w'
theorem Drw.refl (w : World) : Drw w w := ⟨0,rfl⟩
theorem Drw.drewN {w w' : World} (h : Drw w w') (n : Nat) : Drw w (w'.drewN n) := by
 obtain ⟨m,rfl⟩ := h;exact ⟨m + n,by rw [World.drewN_drewN]⟩
theorem Drw.drew {w w' : World} (h : Drw w w') : Drw w w'.drew := h.drewN 1
theorem Drw.trans {a b c : World} (h : Drw a b) (k : Drw b c) : Drw a c := by
 obtain ⟨m,rfl⟩ := h;obtain ⟨n,rfl⟩ := k;exact ⟨m + n,by rw [World.drewN_drewN]⟩
theorem Drw.below {w w' : World} (h : Drw w w') (B : Nat) : Below B w w' := by
 obtain ⟨m,rfl⟩ := h;exact below_drewN (Below.refl _ _) _
theorem Drw.size {w w' : World} (h : Drw w w') : w'.heap.size = w.heap.size := by obtain ⟨m,rfl⟩ := h;rfl
theorem Drw.cell {w w' : World} (h : Drw w w') (a : Addr) : w'.cell? a = w.cell? a := by obtain ⟨m,rfl⟩ := h;rfl
theorem Rd.drw {w w' : World} {B size n : Nat} {A : Option Addr} {xs : List Value} (h : Rd w B size A n xs) (hd : Drw w w') : Rd w' B size A n xs := by
 obtain ⟨m,rfl⟩ := hd;exact h
theorem quiet_dr {P : Program} {f : FuncId} {args : Array Value} {w : World} {n : Nat} {v : Value}
  (h : Calls P f args (w.drewN n) fun e w' => e = .returned v ∧ Drw (w.drewN n) w') : Calls P f args (w.drewN n) fun e w'' => e = .returned v ∧ ∃ m,w'' = w.drewN m :=
 h.mono fun _ _ ⟨he,m,hm⟩ => ⟨he,n + m,by rw [← hm,World.drewN_drewN]⟩
theorem bcell {B : Nat} {W w1 : World} (hb : Below B W w1) : (∀ b o,b < B → w1.cell? ⟨b,o,none⟩ = W.cell? ⟨b,o,none⟩) ∧ (∀ b o,b < B → w1.frozen? ⟨b,o,none⟩ = W.frozen? ⟨b,o,none⟩) :=
 ⟨fun b o h => hb.cell (p := ⟨b,o,none⟩) h,fun b o h => hb.frozen (p := ⟨b,o,none⟩) h⟩
end Go.Proofs.YtjcpjhlclpdpjaaGreat
namespace Go.Proofs.YtjcpjhlclpdpjaaGreat
open Go.RowKit
def Ints (w : World) (g : Nat) (t : TypeId) (k : IntKind) (l : List Int) : Prop := w.heap[g]? = some (.cells (l.map (Value.int k)).toArray t (0,0))
theorem heap_lt {w : World} {g : Nat} {o : Obj} (h : w.heap[g]? = some o) : g < w.heap.size := by
 rcases Nat.lt_or_ge g w.heap.size with hlt | hge
 ·exact hlt
 ·rw [Array.getElem?_eq_none hge] at h;cases h
section
variable {w w' : World} {g : Nat} {t : TypeId} {k : IntKind} {l : List Int}
theorem Ints.lt (h : Ints w g t k l) : g < w.heap.size := heap_lt h
theorem Ints.cell? (h : Ints w g t k l) (i : Nat) : w.cell? ⟨g,i,none⟩ = (l[i]?).map (Value.int k) := by
 rw [cell_of_row w g i _ t (0,0) h];simp
theorem Ints.cell (h : Ints w g t k l) {i : Nat} (hi : i < l.length) : w.cell? ⟨g,i,none⟩ = some (.int k (l.getD i 0)) := by
 rw [h.cell? i,List.getElem?_eq_getElem hi,List.getD_eq_getElem?_getD,List.getElem?_eq_getElem hi];rfl
theorem Ints.frozen (h : Ints w g t k l) (i : Nat) : w.frozen? ⟨g,i,none⟩ = false := by
 unfold Ints at h
 simp [World.frozen?,h]
theorem Ints.new (w : World) (t : TypeId) (k : IntKind) (l : List Int) : Ints (w.alloc (.cells (l.map (Value.int k)).toArray t)) w.heap.size t k l := heap_alloc_new w _
theorem Ints.drew (h : Ints w g t k l) : Ints w.drew g t k l := h
theorem Ints.drewN (h : Ints w g t k l) (n : Nat) : Ints (w.drewN n) g t k l := h
theorem Ints.alloc (h : Ints w g t k l) (o : Obj) : Ints (w.alloc o) g t k l := (Below.heap_alloc w o g h.lt).trans h
theorem Ints.set_ (h : Ints w g t k l) (i : Nat) (u : Int) : Ints (w.setCell ⟨g,i,none⟩ (.int k u)) g t k (l.set i u) := by
 unfold Ints at h ⊢
 simp [World.setCell,Array.getElem?_modify,h,List.map_set]
theorem Ints.far (h : Ints w g t k l) {p : Addr} (hp : g ≠ p.block) (u : Value) : Ints (w.setCell p u) g t k l := (Below.heap_setCell w p u g hp).trans h
theorem Ints.below {B : Nat} (h : Ints w g t k l) (hb : Below B w w') (hg : g < B) : Ints w' g t k l := (hb.block g hg).trans h
theorem Ints.grown {row : Option Nat} (h : Ints w g t k l) (hb : w.grownBy w' row) (hg : some g ≠ row) : Ints w' g t k l := (hb.block g h.lt hg).trans h
theorem Ints.rd (h : Ints w g t k l) (o n : Nat) (hn : o + n ≤ l.length) : Rd w w.heap.size 1 (some ⟨g,o,none⟩) n (((l.drop o).take n).map (Value.int k)) := by
 refine ⟨by simp;omega,fun _ => ⟨g,o,rfl,h.lt,fun j u hu => ?_⟩⟩
 rw [List.getElem?_map,Option.map_eq_some_iff] at hu
 obtain ⟨x,hx,rfl⟩ := hu
 have hj : j < n := by have := (List.getElem?_eq_some_iff.1 hx).1;simp at this;omega
 rw [List.getElem?_take,if_pos hj,List.getElem?_drop] at hx
 rw [h.cell? (o + j),hx];rfl
end
theorem grown_then {a b c : World} {row row' : Option Nat} (h : a.grownBy b row) (k : b.grownBy c row') (hr : ∀ j,row' = some j → a.heap.size ≤ j ∨ row = some j) : a.grownBy c row :=
 ⟨k.os.trans h.os,k.tape.trans h.tape,k.output.trans h.output,Nat.le_trans h.size k.size,fun i hi hne => (k.block i (by have := h.size;omega) (fun e => by
  rcases hr i e.symm with h1 | h1
  ·omega
  ·exact hne h1.symm)).trans (h.block i hi hne)⟩
theorem grown_row {w : World} {g : Nat} (cs : Array Value) : w.grownBy (w.setRow g cs) (some g) :=
 ⟨rfl,rfl,rfl,by simp,fun k hk hne => setRow_other w g k cs (fun e => hne (by rw [e]))⟩
theorem wp_copy_ints {P : Program} {w : World} {o : Oper} {a : Act} {K : Act → World → Prop} {Q : Exit → Act → World → Prop} (d s : Operand) (dT sT : TypeId)
  (ho : o.op = .call { callee := .builtin .copy,args := #[d,s],argTypes := #[dT,sT] }) (elem : TypeId) (hu : P.underlying dT = some (.slice elem)) (hsz : (P.info? elem).map (·.size) = some 1)
  (g off dLen dCap g' so sLen sCap : Nat) (hd : a.eval d = .slice (some ⟨g,off,none⟩) dLen dCap) (hs : a.eval s = .slice (some ⟨g',so,none⟩) sLen sCap)
  {t : TypeId} {k : IntKind} {l : List Int} (hI : Ints w g t k l) (cs : List Int) (hn : cs.length = Nat.min sLen dLen)
  (hsrc : ∀ (j : Nat) (v : Int),cs[j]? = some v → w.cell? ⟨g',so + j,none⟩ = some (.int k v)) (hfit : off + cs.length ≤ l.length)
  (h : ∀ w',Ints w' g t k (l.take off ++ (cs ++ l.drop (off + cs.length))) → w.grownBy w' (some g) → K (a.put o.dst (goInt cs.length)) w') : o.wp P a w K Q := by
 have hrun := run_copy_row (P := P) w dT sT o.type elem g off dLen dCap ⟨g',so,none⟩ sLen sCap (l.map (Value.int k)).toArray t (cs.map (Value.int k)) hu hsz hI (by simpa using hn)
  (fun j v hv => by
   rw [List.getElem?_map,Option.map_eq_some_iff] at hv
   obtain ⟨x,hx,rfl⟩ := hv
   rw [Addr.add_flat];exact hsrc j x hx) (by simpa using hfit) (fun v hv => by obtain ⟨x,_,rfl⟩ := List.mem_map.1 hv;rfl)
 unfold Oper.wp
 simp only [execOp,ho,resolve,invoke,builtin,Sem.run_bind,Sem.run_pure,Result.andThen_ok,List.map_toArray,List.map_cons,List.map_nil,hd,hs,hrun]
 have h2 := h _ (show Ints (w.setRow g ((l.map (Value.int k)).take off ++ (cs.map (Value.int k) ++ (l.map (Value.int k)).drop (off + cs.length))).toArray) g t k _ by
  unfold Ints
  rw [setRow_heap w g _ _ t _ hI,List.map_append,List.map_append,List.map_take,List.map_drop]) (grown_row _)
 simp only [List.append_assoc,List.length_map]
 exact h2
theorem run_loadVar_cells {P : Program} (w : World) (a : Addr) (ty : TypeId) (cs : List Value) (d : TypeDesc) (hc : ∀ (j : Nat) (v : Value),cs[j]? = some v → w.cell? (a.add j) = some v)
  (hu : P.underlying ty = some d) (hd : (match d with | .struct _ | .array _ _ => true | _ => false) = true) (hi : (P.info? ty).map (·.size) = some cs.length) :
  (loadVar ty a).run P w = .ok (.agg cs.toArray) w := by
 have hl : (loadCells a cs.length).run P w = .ok cs.toArray w := run_loadCells_list (P := P) w a cs hc
 cases hq : P.info? ty with
 | none => simp [hq] at hi
 | some i =>
  have hs : i.size = cs.length := by simpa [hq] using hi
  have hagg : (isAgg ty).run P w = .ok true w := by
   unfold isAgg
   rw [Sem.run_bind,run_underlying hu w]
   cases d <;> simp_all
  simp [loadVar,Sem.run_bind,hagg,sizeOf,typeInfo,hq,hs,hl]
theorem wp_load_cells {P : Program} {o : Oper} {a : Act} {w : World} {K : Act → World → Prop} {Q : Exit → Act → World → Prop} (ty : TypeId) (x : Operand) (ho : o.op = .load ty x)
  (p : Addr) (hx : a.eval x = .pointer (some p)) (cs : List Value) (d : TypeDesc) (hc : ∀ (j : Nat) (v : Value),cs[j]? = some v → w.cell? (p.add j) = some v)
  (hu : P.underlying ty = some d) (hd : (match d with | .struct _ | .array _ _ => true | _ => false) = true) (hi : (P.info? ty).map (·.size) = some cs.length)
  (h : K (a.put o.dst (.agg cs.toArray)) w) : o.wp P a w K Q := by
 unfold Oper.wp execOp
 simp only [ho,hx,Instr.loadAt,Instr.sureAddr,Sem.run_bind,Sem.run_pure,Result.andThen_ok,run_loadVar_cells w p ty cs d hc hu hd hi]
 exact h
theorem wpList_load_cells {P : Program} {ops : Array Oper} {rest : List Oper} {o : Oper} {a : Act} {w : World} {Q : Exit → Act → World → Prop} (hgd : o.guard = none) (ty : TypeId) (x : Operand) (ho : o.op = .load ty x)
  (p : Addr) (hx : a.eval x = .pointer (some p)) (cs : List Value) (d : TypeDesc) (hc : ∀ (j : Nat) (v : Value),cs[j]? = some v → w.cell? (p.add j) = some v)
  (hu : P.underlying ty = some d) (hd : (match d with | .struct _ | .array _ _ => true | _ => false) = true) (hi : (P.info? ty).map (·.size) = some cs.length)
  (h : wpList P ops Q rest (a.put o.dst (.agg cs.toArray)) w) : wpList P ops Q (o :: rest) a w :=
 wpList_plain hgd fun _ hK => wp_load_cells ty x ho p hx cs d hc hu hd hi (hK _ _ h)
theorem ints_cells {w : World} {g o : Nat} {k : IntKind} {l : List Int} (h : ∀ (i : Nat),i < l.length → w.cell? ⟨g,o + i,none⟩ = some (.int k (l.getD i 0))) :
  ∀ (j : Nat) (v : Value),(l.map (Value.int k))[j]? = some v → w.cell? ((⟨g,o,none⟩ : Addr).add j) = some v := by
 intro j v hv
 rw [List.getElem?_map,Option.map_eq_some_iff] at hv
 obtain ⟨x,hx,rfl⟩ := hv
 have hj := (List.getElem?_eq_some_iff.1 hx).1
 rw [Addr.add_flat,h j hj,List.getD_eq_getElem?_getD,hx];rfl
theorem wp_copy_rd {P : Program} {w : World} {o : Oper} {a : Act} {K : Act → World → Prop} {Q : Exit → Act → World → Prop} (d s : Operand) (dT sT : TypeId)
  (ho : o.op = .call { callee := .builtin .copy,args := #[d,s],argTypes := #[dT,sT] }) (elem : TypeId) (hu : P.underlying dT = some (.slice elem)) (hsz : (P.info? elem).map (·.size) = some 1)
  (g off dLen dCap : Nat) (A : Option Addr) (sLen sCap : Nat) (hd : a.eval d = .slice (some ⟨g,off,none⟩) dLen dCap) (hs : a.eval s = .slice A sLen sCap)
  {t : TypeId} {k : IntKind} {l : List Int} (hI : Ints w g t k l) (cs : List Int) {B : Nat} (hr : Rd w B 1 A sLen (cs.map (Value.int k))) (hle : sLen ≤ dLen) (hfit : off + cs.length ≤ l.length)
  (h : ∀ w',Ints w' g t k (l.take off ++ (cs ++ l.drop (off + cs.length))) → w.grownBy w' (some g) → K (a.put o.dst (goInt cs.length)) w') : o.wp P a w K Q := by
 have hlen : cs.length = sLen := by simpa using hr.1
 rcases Nat.eq_zero_or_pos sLen with h0 | h0
 ·obtain rfl : cs = [] := List.eq_nil_of_length_eq_zero (by omega)
  have hrun := run_copy_none (P := P) w dT sT o.type elem (some ⟨g,off,none⟩) A dLen dCap sLen sCap hu hsz (by show min sLen dLen = 0;omega)
  unfold Oper.wp
  simp only [execOp,ho,resolve,invoke,builtin,Sem.run_bind,Sem.run_pure,Result.andThen_ok,List.map_toArray,List.map_cons,List.map_nil,hd,hs,hrun]
  exact h w (by simpa using hI) (World.grownBy.refl _ _)
 ·obtain ⟨b,o',rfl,_,hc⟩ := hr.2 h0
  refine wp_copy_ints d s dT sT ho elem hu hsz g off dLen dCap b o' sLen sCap hd hs hI cs (by rw [hlen];show sLen = min sLen dLen;omega) (fun j v hv => hc j _ (by rw [List.getElem?_map,hv];rfl)) hfit h
theorem wpList_copy_rd {P : Program} {ops : Array Oper} {rest : List Oper} {w : World} {o : Oper} {a : Act} {Q : Exit → Act → World → Prop} (hgd : o.guard = none) (d s : Operand) (dT sT : TypeId)
  (ho : o.op = .call { callee := .builtin .copy,args := #[d,s],argTypes := #[dT,sT] }) (elem : TypeId) (hu : P.underlying dT = some (.slice elem)) (hsz : (P.info? elem).map (·.size) = some 1)
  (g off dLen dCap : Nat) (A : Option Addr) (sLen sCap : Nat) (hd : a.eval d = .slice (some ⟨g,off,none⟩) dLen dCap) (hs : a.eval s = .slice A sLen sCap)
  {t : TypeId} {k : IntKind} {l : List Int} (hI : Ints w g t k l) (cs : List Int) {B : Nat} (hr : Rd w B 1 A sLen (cs.map (Value.int k))) (hle : sLen ≤ dLen) (hfit : off + cs.length ≤ l.length)
  (h : ∀ w',Ints w' g t k (l.take off ++ (cs ++ l.drop (off + cs.length))) → w.grownBy w' (some g) → wpList P ops Q rest (a.put o.dst (goInt cs.length)) w') : wpList P ops Q (o :: rest) a w :=
 wpList_plain hgd fun _ hK => wp_copy_rd d s dT sT ho elem hu hsz g off dLen dCap A sLen sCap hd hs hI cs hr hle hfit fun w' h1 h2 => hK _ _ (h w' h1 h2)
theorem bytes_at {w : World} {B : Nat} {k : IntKind} {b o n : Nat} {l : List Int} (h : Rd w B 1 (some ⟨b,o,none⟩) n (l.map (Value.int k))) {j : Nat} (hj : j < n) : w.cell? ⟨b,o + j,none⟩ = some (.int k (l.getD j 0)) := by
 obtain ⟨h1,h2⟩ := h
 obtain ⟨b',o',e,_,hc⟩ := h2 (by omega)
 injection e with e
 injection e with e1 e2
 subst e1;subst e2
 have hl : j < l.length := by simpa using (show j < (l.map (Value.int k)).length by omega)
 exact hc j _ (by rw [List.getElem?_map,List.getElem?_eq_getElem hl];simp [hl])
theorem getD_bd {l : List Int} {P : Int → Prop} (h : ∀ x ∈ l,P x) {j : Nat} (hj : j < l.length) : P (l.getD j 0) := by
 rw [List.getD_eq_getElem?_getD,List.getElem?_eq_getElem hj];exact h _ (List.getElem_mem hj)
theorem grown_set {a w : World} {g : Nat} (h : a.grownBy w (some g)) (i : Nat) (u : Value) : a.grownBy (w.setCell ⟨g,i,none⟩ u) (some g) :=
 ⟨h.os,h.tape,h.output,by simpa [World.setCell] using h.size,fun k hk hne => (Below.heap_setCell w ⟨g,i,none⟩ u k (fun e => hne (by rw [e]))).trans (h.block k hk hne)⟩
theorem grown_drewN {a w : World} {row : Option Nat} (h : a.grownBy w row) (n : Nat) : a.grownBy (w.drewN n) row := ⟨h.os,h.tape,h.output,h.size,h.block⟩
theorem grown_drew {a w : World} {row : Option Nat} (h : a.grownBy w row) : a.grownBy w.drew row := ⟨h.os,h.tape,h.output,h.size,h.block⟩
theorem grown_alloc {a w : World} {row : Option Nat} (h : a.grownBy w row) (o : Obj) : a.grownBy (w.alloc o) row :=
 ⟨h.os,h.tape,h.output,by have := h.size;simp;omega,fun k hk hne => (Below.heap_alloc w o k (by have := h.size;omega)).trans (h.block k hk hne)⟩
theorem grown_setNew {a w : World} {row : Option Nat} (h : a.grownBy w row) {p : Addr} (hp : a.heap.size ≤ p.block) (u : Value) : a.grownBy (w.setCell p u) row :=
 ⟨h.os,h.tape,h.output,by simpa [World.setCell] using h.size,fun k hk hne => (Below.heap_setCell w p u k (by omega)).trans (h.block k hk hne)⟩
theorem Below.of_grown {B : Nat} {a w w' : World} {row : Option Nat} (h : Below B a w) (hg : w.grownBy w' row) (hB : B ≤ w.heap.size) (hr : ∀ k,row = some k → B ≤ k) : Below B a w' := h.grown hg hB hr
end Go.Proofs.YtjcpjhlclpdpjaaGreat
namespace Go.Proofs.YtjcpjhlclpdpjaaGreat
open Go.RowKit
def Row (w : World) (g : Nat) (t : TypeId) (cs : List Value) : Prop := w.heap[g]? = some (.cells cs.toArray t (0,0))
section
variable {w w' : World} {g : Nat} {t : TypeId} {cs : List Value}
theorem Row.lt (h : Row w g t cs) : g < w.heap.size := heap_lt h
theorem Row.cell (h : Row w g t cs) {i : Nat} {v : Value} (hv : cs[i]? = some v) : w.cell? ⟨g,i,none⟩ = some v := by
 rw [cell_of_row w g i _ t (0,0) h];simpa using hv
theorem Row.below {B : Nat} (h : Row w g t cs) (hb : Below B w w') (hg : g < B) : Row w' g t cs := (hb.block g hg).trans h
theorem Row.alloc (h : Row w g t cs) (o : Obj) : Row (w.alloc o) g t cs := (Below.heap_alloc w o g h.lt).trans h
theorem Row.grown {row : Option Nat} (h : Row w g t cs) (hb : w.grownBy w' row) (hg : some g ≠ row) : Row w' g t cs := (hb.block g h.lt hg).trans h
end
theorem wpList_store_cells {P : Program} {ops : Array Oper} {rest : List Oper} {o : Oper} {a : Act} {w : World} {Q : Exit → Act → World → Prop} (hgd : o.guard = none) (ty : TypeId) (x y : Operand) (ho : o.op = .store ty x y)
  (g : Nat) (cs : List Value) (hx : a.eval x = .pointer (some ⟨g,0,none⟩)) (hy : a.eval y = .agg cs.toArray)
  (t : TypeId) (old : Array Value) (hg : w.heap[g]? = some (.cells old t (0,0))) (hl : old.size = cs.length) (hi : (P.info? ty).map (·.size) = some cs.length) (h1 : ∀ u ∈ cs,u.oneCell' = true)
  (h : ∀ w',Row w' g t cs → w.grownBy w' (some g) → wpList P ops Q rest (a.put o.dst undef) w') : wpList P ops Q (o :: rest) a w :=
 wpList_store_row hgd ty x y ho g _ hx hy t old hg (by simpa using hi) (by simpa using hl) (by rw [Array.all_eq_true_iff_forall_mem];intro v hv;exact h1 v (by simpa using hv)) (h _ (setRow_heap w g _ _ t _ hg) (grown_row _))
theorem flat_at2 {α : Type} (f : α → List Value) (s : Nat) : ∀ (l : List α) (hs : ∀ x ∈ l,(f x).length = s) (k i : Nat) (x : α),l[k]? = some x → i < s → (l.flatMap f)[k * s + i]? = (f x)[i]?
 | [],_,k,i,x,h,_ => by simp at h
 | a :: l,hs,0,i,x,h,hi => by
  simp at h
  subst h
  rw [List.flatMap_cons,List.getElem?_append_left (by rw [hs a (by simp)];omega),Nat.zero_mul,Nat.zero_add]
 | a :: l,hs,k + 1,i,x,h,hi => by
  simp at h
  have ha := hs a (by simp)
  rw [List.flatMap_cons,List.getElem?_append_right (by rw [ha,Nat.succ_mul];omega),ha,show (k + 1) * s + i - s = k * s + i by rw [Nat.succ_mul];omega]
  exact flat_at2 f s l (fun y hy => hs y (by simp [hy])) k i x h hi
theorem wpList_exec_val {P : Program} {ops : Array Oper} {rest : List Oper} {o : Oper} {a : Act} {w : World} {Q : Exit → Act → World → Prop} (v : Value) (hw : Region.wanted o (yielded ops a.tmps) = true)
  (hrun : (execOp a.eval o).run P w = .ok (.value v) w) (h : wpList P ops Q rest (a.put o.dst v) w) : wpList P ops Q (o :: rest) a w := by
 refine wpList_step fun K hK => ?_
 rw [if_pos hw]
 unfold Oper.wp
 rw [hrun]
 exact hK _ _ h
theorem wpList_want {P : Program} {ops : Array Oper} {rest : List Oper} {o : Oper} {a : Act} {w : World} {Q : Exit → Act → World → Prop} (hw : Region.wanted o (yielded ops a.tmps) = true)
  (h : ∀ K : Act → World → Prop,(∀ a w,wpList P ops Q rest a w → K a w) → o.wp P a w K Q) : wpList P ops Q (o :: rest) a w :=
 wpList_step fun K hK => by rw [if_pos hw];exact h K hK
theorem wp_build_as {P : Program} {o : Oper} {a : Act} {w : World} {K : Act → World → Prop} {Q : Exit → Act → World → Prop} (t : TypeId) (parts : Array (Nat × Operand)) (ho : o.op = .build t parts) (l : List (Nat × Value))
  (hl : (parts.toList.map fun (x : Nat × Operand) => (x.1,a.eval x.2)) = l) (cells : Array Value) (hb : P.built t l = some cells) (h : K (a.put o.dst (.agg cells)) w) : o.wp P a w K Q := by
 have hl' : (parts.map fun (i,x) => (i,a.eval x)).toList = l := by rw [Array.toList_map];exact hl
 refine wp_build t parts ho (by rw [hl',hb];rfl) ?_
 rw [hl',hb]
 exact h
theorem rd_nil (w : World) (B s : Nat) (A : Option Addr) : Rd w B s A 0 [] := ⟨(Nat.zero_mul s).symm,fun h => absurd h (by omega)⟩
section
variable {P : Program} {a : Act} {o : Oper} {w : World}
theorem run_load_exec (ty : TypeId) (x : Operand) (ho : o.op = .load ty x)
  (p : Addr) (hx : a.eval x = .pointer (some p)) (cs : List Value) (d : TypeDesc) (hc : ∀ (j : Nat) (v : Value),cs[j]? = some v → w.cell? (p.add j) = some v)
  (hu : P.underlying ty = some d) (hd : (match d with | .struct _ | .array _ _ => true | _ => false) = true) (hi : (P.info? ty).map (·.size) = some cs.length) :
  (execOp a.eval o).run P w = .ok (.value (.agg cs.toArray)) w := by
 unfold execOp
 simp only [ho,hx,Instr.loadAt,Instr.sureAddr,Sem.run_bind,Sem.run_pure,Result.andThen_ok,run_loadVar_cells w p ty cs d hc hu hd hi]
end
end Go.Proofs.YtjcpjhlclpdpjaaGreat
namespace Go.Proofs.YtjcpjhlclpdpjaaGreat
open Go.RowKit
section
variable {P : Program} {ops : Array Oper} {md : Region.Mode} {Q : Exit → Act → World → Prop} {S : World → Prop}
def wpOrd (P : Program) (ops : Array Oper) (Q : Exit → Act → World → Prop) (S : World → Prop) : List (Nat × Bool) → Act → World → Prop
 | [],a,w => Q .normal a w
 | (i,true) :: l,a,w => ∃ o v,ops[i]? = some o ∧ YieldsIf P ops S o v a ∧ wpOrd P ops Q S l (a.put o.dst v) w
 | (i,false) :: l,a,w => wpOp P ops Q i (fun a' w' => S w' ∧ wpOrd P ops Q S l a' w') a w
def ordB (md : Region.Mode) (ops : Array Oper) : List (Nat × Bool) → Array Bool → Bool
 | [],listed => (Region.ready md ops listed).isEmpty
 | (i,true) :: l,listed => (Region.ready md ops listed).contains i && Region.free md ops listed i && ordB md ops l (listed.setIfInBounds i true)
 | (i,false) :: l,listed => decide (Region.ready md ops listed = [i]) && ordB md ops l (listed.setIfInBounds i true)
theorem wpAnyH_of_ord (hsel : Region.noSelect ops = true) (hQ : ∀ (x : Option Tmp) (v : Value) c a w,Q (.panic c) (a.put x v) w → Q (.panic c) a w) :
  ∀ (l : List (Nat × Bool)) (listed : Array Bool) (a : Act) (w : World),ordB md ops l listed = true → S w → wpOrd P ops Q S l a w → wpAnyH P md ops Q S l.length listed a w
 | [],listed,a,w,hB,_,h => ⟨by simpa [ordB] using hB,h⟩
 | (i,true) :: l,listed,a,w,hB,hS,h => by
  simp only [ordB,Bool.and_eq_true] at hB
  obtain ⟨o,v,ho,hy,h⟩ := h
  exact wpAnyH_take ho hsel hB.1.2 hB.1.1 (fun c a w h => hQ _ _ c a w h) hy hS (wpAnyH_of_ord hsel hQ l _ _ w hB.2 hS h)
 | (i,false) :: l,listed,a,w,hB,hS,h => by
  simp only [ordB,Bool.and_eq_true,decide_eq_true_eq] at hB
  refine wpAnyH_all hB.1 (by simp) fun j hj => ?_
  rw [List.mem_singleton] at hj
  subst hj
  exact wpOp_mono (fun a' w' h' => ⟨h'.1,wpAnyH_of_ord hsel hQ l _ a' w' hB.2 h'.1 h'.2⟩) h
theorem wp_region_ord {id : Nat} {a : Act} {w : World} {l : List Oper} (S : World → Prop) (r : List (Nat × Bool)) (hm : P.follows .mixedOrders = true) (hsel : Region.noSelect l.toArray = true) (hr : r.length = l.length)
  (hB : ordB .any l.toArray r (Array.replicate l.length false) = true) (hQ : ∀ (x : Option Tmp) (v : Value) c a w,Q (.panic c) (a.put x v) w → Q (.panic c) a w) (hS : S w.drew)
  (h : wpOrd P l.toArray Q S r a w.drew) : (Code.region id l.toArray true).wp P Q a w := by
 refine wp_region_held (S := S) hm ?_
 have := wpAnyH_of_ord (md := .any) hsel hQ r (Array.replicate l.length false) a _ hB hS h
 rw [hr] at this
 simpa using this
theorem wpOrd_nil {a : Act} {w : World} (h : Q .normal a w) : wpOrd P ops Q S [] a w := h
theorem wpOrd_take {i : Nat} {l : List (Nat × Bool)} {a : Act} {w : World} {o : Oper} (ho : ops[i]? = some o) (v : Value) (hw : Region.wanted o (yielded ops a.tmps) = true)
  (hy : ∀ w',S w' → (execOp a.eval o).run P w' = .ok (.value v) w') (h : ∀ K : Act → Prop,(∀ a',wpOrd P ops Q S l a' w → K a') → K (a.put o.dst v)) : wpOrd P ops Q S ((i,true) :: l) a w :=
 ⟨o,v,ho,.inl ⟨hw,hy⟩,h _ fun _ h => h⟩
theorem wpOrd_skip {i : Nat} {l : List (Nat × Bool)} {a : Act} {w : World} {o : Oper} (ho : ops[i]? = some o) (hw : Region.wanted o (yielded ops a.tmps) = false)
  (h : ∀ K : Act → Prop,(∀ a',wpOrd P ops Q S l a' w → K a') → K (a.put o.dst undef)) : wpOrd P ops Q S ((i,true) :: l) a w :=
 ⟨o,undef,ho,.inr ⟨hw,rfl⟩,h _ fun _ h => h⟩
theorem wpOrd_force {i : Nat} {l : List (Nat × Bool)} {a : Act} {w : World} {o : Oper} (ho : ops[i]? = some o) (hw : Region.wanted o (yielded ops a.tmps) = true)
  (h : ∀ K : Act → World → Prop,(∀ a' w',S w' → wpOrd P ops Q S l a' w' → K a' w') → o.wp P a w K Q) : wpOrd P ops Q S ((i,false) :: l) a w := by
 unfold wpOrd wpOp
 rw [ho]
 show if Region.wanted o (yielded ops a.tmps) = true then _ else _
 rw [if_pos hw]
 exact .inl (h _ fun _ _ h1 h2 => ⟨h1,h2⟩)
theorem wpOrd_pass {i : Nat} {l : List (Nat × Bool)} {a : Act} {w : World} {o : Oper} (ho : ops[i]? = some o) (hw : Region.wanted o (yielded ops a.tmps) = false) (hS : S w)
  (h : ∀ K : Act → Prop,(∀ a',wpOrd P ops Q S l a' w → K a') → K (a.put o.dst undef)) : wpOrd P ops Q S ((i,false) :: l) a w := by
 unfold wpOrd wpOp
 rw [ho]
 show if Region.wanted o (yielded ops a.tmps) = true then _ else _
 rw [if_neg (by rw [hw];simp)]
 exact h (fun a' => S w ∧ wpOrd P ops Q S l a' w) fun _ h => ⟨hS,h⟩
end
end Go.Proofs.YtjcpjhlclpdpjaaGreat
namespace Go.Proofs.YtjcpjhlclpdpjaaGreat
open Go.RowKit
inductive OT where
 | done
 | take (i : Nat) (t : OT)
 | one (i : Nat) (t : OT)
 | two (i : Nat) (t : OT) (j : Nat) (u : OT)
section
variable {P : Program} {ops : Array Oper} {md : Region.Mode} {Q : Exit → Act → World → Prop} {S : World → Prop}
def OT.depth : OT → Nat
 | .done => 0
 | .take _ t => t.depth + 1
 | .one _ t => t.depth + 1
 | .two _ t _ u => max t.depth u.depth + 1
def wpOT (P : Program) (ops : Array Oper) (Q : Exit → Act → World → Prop) (S : World → Prop) : OT → Act → World → Prop
 | .done,a,w => Q .normal a w
 | .take i t,a,w => ∃ o v,ops[i]? = some o ∧ YieldsIf P ops S o v a ∧ wpOT P ops Q S t (a.put o.dst v) w
 | .one i t,a,w => wpOp P ops Q i (fun a' w' => S w' ∧ wpOT P ops Q S t a' w') a w
 | .two i t j u,a,w => wpOp P ops Q i (fun a' w' => S w' ∧ wpOT P ops Q S t a' w') a w ∧ wpOp P ops Q j (fun a' w' => S w' ∧ wpOT P ops Q S u a' w') a w
def otB (md : Region.Mode) (ops : Array Oper) : OT → Array Bool → Bool
 | .done,listed => (Region.ready md ops listed).isEmpty
 | .take i t,listed => (Region.ready md ops listed).contains i && Region.free md ops listed i && otB md ops t (listed.setIfInBounds i true)
 | .one i t,listed => decide (Region.ready md ops listed = [i]) && otB md ops t (listed.setIfInBounds i true)
 | .two i t j u,listed => decide (Region.ready md ops listed = [i,j]) && otB md ops t (listed.setIfInBounds i true) && otB md ops u (listed.setIfInBounds j true)
theorem wpAnyH_of_tree (hsel : Region.noSelect ops = true) (hQ : ∀ (x : Option Tmp) (v : Value) c a w,Q (.panic c) (a.put x v) w → Q (.panic c) a w) :
  ∀ (t : OT) (fuel : Nat) (listed : Array Bool) (a : Act) (w : World),t.depth ≤ fuel → otB md ops t listed = true → S w → wpOT P ops Q S t a w → wpAnyH P md ops Q S fuel listed a w
 | .done,fuel,listed,a,w,_,hB,_,h => wpAnyH_done (by simpa [otB] using hB) h fuel
 | .take i t,0,_,_,_,hd,_,_,_ => by simp [OT.depth] at hd
 | .one i t,0,_,_,_,hd,_,_,_ => by simp [OT.depth] at hd
 | .two i t j u,0,_,_,_,hd,_,_,_ => by simp [OT.depth] at hd
 | .take i t,fuel + 1,listed,a,w,hd,hB,hS,h => by
  simp only [otB,Bool.and_eq_true] at hB
  obtain ⟨o,v,ho,hy,h⟩ := h
  exact wpAnyH_take ho hsel hB.1.2 hB.1.1 (fun c a w h => hQ _ _ c a w h) hy hS (wpAnyH_of_tree hsel hQ t fuel _ _ w (by simp only [OT.depth] at hd;omega) hB.2 hS h)
 | .one i t,fuel + 1,listed,a,w,hd,hB,hS,h => by
  simp only [otB,Bool.and_eq_true,decide_eq_true_eq] at hB
  refine wpAnyH_all hB.1 (by simp) fun j hj => ?_
  rw [List.mem_singleton] at hj
  subst hj
  exact wpOp_mono (fun a' w' h' => ⟨h'.1,wpAnyH_of_tree hsel hQ t fuel _ a' w' (by simp only [OT.depth] at hd;omega) hB.2 h'.1 h'.2⟩) h
 | .two i t j u,fuel + 1,listed,a,w,hd,hB,hS,h => by
  simp only [otB,Bool.and_eq_true,decide_eq_true_eq] at hB
  refine wpAnyH_all hB.1.1 (by simp) fun k hk => ?_
  simp only [List.mem_cons,List.not_mem_nil,or_false] at hk
  rcases hk with rfl | rfl
  ·exact wpOp_mono (fun a' w' h' => ⟨h'.1,wpAnyH_of_tree hsel hQ t fuel _ a' w' (by simp only [OT.depth] at hd;omega) hB.1.2 h'.1 h'.2⟩) h.1
  ·exact wpOp_mono (fun a' w' h' => ⟨h'.1,wpAnyH_of_tree hsel hQ u fuel _ a' w' (by simp only [OT.depth] at hd;omega) hB.2 h'.1 h'.2⟩) h.2
theorem wp_region_tree {id : Nat} {a : Act} {w : World} {l : List Oper} (S : World → Prop) (t : OT) (hm : P.follows .mixedOrders = true) (hsel : Region.noSelect l.toArray = true) (hd : decide (t.depth ≤ l.length) = true)
  (hB : otB .any l.toArray t (Array.replicate l.length false) = true) (hQ : ∀ (x : Option Tmp) (v : Value) c a w,Q (.panic c) (a.put x v) w → Q (.panic c) a w) (hS : S w.drew)
  (h : wpOT P l.toArray Q S t a w.drew) : (Code.region id l.toArray true).wp P Q a w := by
 refine wp_region_held (S := S) hm ?_
 have := wpAnyH_of_tree (md := .any) hsel hQ t l.length (Array.replicate l.length false) a _ (of_decide_eq_true hd) hB hS h
 simpa using this
theorem wpOT_done {a : Act} {w : World} (h : Q .normal a w) : wpOT P ops Q S .done a w := h
theorem wpOT_take {i : Nat} {t : OT} {a : Act} {w : World} {o : Oper} (ho : ops[i]? = some o) (v : Value) (hw : Region.wanted o (yielded ops a.tmps) = true)
  (hy : ∀ w',S w' → (execOp a.eval o).run P w' = .ok (.value v) w') (h : ∀ K : Act → Prop,(∀ a',wpOT P ops Q S t a' w → K a') → K (a.put o.dst v)) : wpOT P ops Q S (.take i t) a w :=
 ⟨o,v,ho,.inl ⟨hw,hy⟩,h _ fun _ h => h⟩
theorem wpOp_force {i : Nat} {K0 : Act → World → Prop} {a : Act} {w : World} {o : Oper} (ho : ops[i]? = some o) (hw : Region.wanted o (yielded ops a.tmps) = true)
  (h : ∀ K : Act → World → Prop,(∀ a' w',K0 a' w' → K a' w') → o.wp P a w K Q) : wpOp P ops Q i K0 a w := by
 unfold wpOp
 rw [ho]
 show if Region.wanted o (yielded ops a.tmps) = true then _ else _
 rw [if_pos hw]
 exact .inl (h _ fun _ _ h => h)
theorem wpOT_one {i : Nat} {t : OT} {a : Act} {w : World} {o : Oper} (ho : ops[i]? = some o) (hw : Region.wanted o (yielded ops a.tmps) = true)
  (h : ∀ K : Act → World → Prop,(∀ a' w',S w' → wpOT P ops Q S t a' w' → K a' w') → o.wp P a w K Q) : wpOT P ops Q S (.one i t) a w :=
 wpOp_force ho hw fun K hK => h K fun a' w' h1 h2 => hK a' w' ⟨h1,h2⟩
theorem wpOT_two {i j : Nat} {t u : OT} {a : Act} {w : World} {o o' : Oper} (ho : ops[i]? = some o) (hw : Region.wanted o (yielded ops a.tmps) = true) (ho' : ops[j]? = some o') (hw' : Region.wanted o' (yielded ops a.tmps) = true)
  (h : ∀ K : Act → World → Prop,(∀ a' w',S w' → wpOT P ops Q S t a' w' → K a' w') → o.wp P a w K Q)
  (h' : ∀ K : Act → World → Prop,(∀ a' w',S w' → wpOT P ops Q S u a' w' → K a' w') → o'.wp P a w K Q) : wpOT P ops Q S (.two i t j u) a w :=
 ⟨wpOp_force ho hw fun K hK => h K fun a' w' h1 h2 => hK a' w' ⟨h1,h2⟩,wpOp_force ho' hw' fun K hK => h' K fun a' w' h1 h2 => hK a' w' ⟨h1,h2⟩⟩
end
end Go.Proofs.YtjcpjhlclpdpjaaGreat
namespace Go.Proofs.YtjcpjhlclpdpjaaGreat
open Go.RowKit
attribute [local go_sem] Oper.semAt_some
structure Heir where
 p : Int
 j : Int
 l : Int
def Heir.cells (h : Heir) : List Value := [.int .i64 h.p,.int .i64 h.j,.int .i64 h.l]
structure RI where
 A : Option Addr
 c : Nat
 d : List Int
def RI.cell (r : RI) : Value := .slice r.A r.d.length r.c
def RI.ok (w : World) (B : Nat) (r : RI) : Prop := Rd w B 1 r.A r.d.length (r.d.map (Value.int .i64)) ∧ r.d.length ≤ r.c ∧ r.c ≤ maxLen
structure Est where
 hA : Option Addr
 hc : Nat
 H : List Heir
 m : RI
 n : RI
 a : RI
 vA : Option Addr
 vc : Nat
 V : List RI
def Est.cells (e : Est) : List Value := [.slice e.hA e.H.length e.hc,e.m.cell,e.n.cell,e.a.cell,.slice e.vA e.V.length e.vc]
structure Est.ok (w : World) (B : Nat) (e : Est) : Prop where
 h : Rd w B 3 e.hA e.H.length (e.H.flatMap Heir.cells)
 hc : e.H.length ≤ e.hc
 m : e.m.ok w B
 n : e.n.ok w B
 a : e.a.ok w B
 v : Rd w B 1 e.vA e.V.length (e.V.map RI.cell)
 vs : ∀ r ∈ e.V,r.ok w B
theorem RI.ok.below {w w' : World} {B : Nat} {r : RI} (h : r.ok w B) (hb : Below B w w') : r.ok w' B := ⟨h.1.below hb,h.2⟩
theorem RI.ok.more {w : World} {B B' : Nat} {r : RI} (h : r.ok w B) (hB : B ≤ B') : r.ok w B' := ⟨h.1.more hB,h.2⟩
theorem Est.ok.below {w w' : World} {B : Nat} {e : Est} (h : e.ok w B) (hb : Below B w w') : e.ok w' B :=
 ⟨h.h.below hb,h.hc,h.m.below hb,h.n.below hb,h.a.below hb,h.v.below hb,fun r hr => (h.vs r hr).below hb⟩
theorem Est.ok.more {w : World} {B B' : Nat} {e : Est} (h : e.ok w B) (hB : B ≤ B') : e.ok w B' :=
 ⟨h.h.more hB,h.hc,h.m.more hB,h.n.more hB,h.a.more hB,h.v.more hB,fun r hr => (h.vs r hr).more hB⟩
def dh : Heir := ⟨0,0,0⟩
def Est.gh (e : Est) (k : Nat) : Heir := e.H.getD k dh
theorem gh_mem {e : Est} {k : Nat} (hk : k < e.H.length) : e.gh k ∈ e.H ∧ e.H[k]? = some (e.gh k) := by
 have : e.gh k = e.H[k] := by unfold Est.gh;rw [List.getD_eq_getElem?_getD,List.getElem?_eq_getElem hk];rfl
 rw [this]
 exact ⟨List.getElem_mem hk,List.getElem?_eq_getElem hk⟩
theorem heir_at {w : World} {B : Nat} {e : Est} (h : e.ok w B) {k : Nat} (hk : k < e.H.length) : ∃ b o,e.hA = some ⟨b,o,none⟩ ∧ b < B ∧ w.cell? ⟨b,o + k * 3,none⟩ = some (.int .i64 (e.gh k).p) ∧ w.cell? ⟨b,o + k * 3 + 1,none⟩ = some (.int .i64 (e.gh k).j) ∧ w.cell? ⟨b,o + k * 3 + 2,none⟩ = some (.int .i64 (e.gh k).l) := by
 obtain ⟨b,o,e1,hb,hc⟩ := h.h.2 (by omega)
 have hf : ∀ i v,i < 3 → (e.gh k).cells[i]? = some v → w.cell? ⟨b,o + (k * 3 + i),none⟩ = some v := fun i v hi hv =>
  hc (k * 3 + i) v (by rw [flat_at2 Heir.cells 3 e.H (fun x _ => rfl) k i _ (gh_mem hk).2 hi,hv])
 exact ⟨b,o,e1,hb,by simpa using hf 0 _ (by omega) rfl,by have := hf 1 _ (by omega) rfl;rwa [← Nat.add_assoc] at this,by have := hf 2 _ (by omega) rfl;rwa [← Nat.add_assoc] at this⟩
def Est.idx (e : Est) (p : Int) : Int := match e.H.findIdx? (fun h => decide (h.p = p)) with | some i => (i : Int) | none => -1
theorem idx_at {e : Est} {p : Int} {k : Nat} (hk : k < e.H.length) (hp : (e.gh k).p = p) (hu : ∀ j,j < k → (e.gh j).p ≠ p) : e.idx p = (k : Int) := by
 unfold Est.idx
 have : e.H.findIdx? (fun h => decide (h.p = p)) = some k := by
  rw [List.findIdx?_eq_some_iff_getElem]
  have hg : e.gh k = e.H[k] := by unfold Est.gh;rw [List.getD_eq_getElem?_getD,List.getElem?_eq_getElem hk];rfl
  refine ⟨hk,by rw [← hg];simpa using hp,fun j hj => ?_⟩
  have hgj : e.gh j = e.H[j] := by unfold Est.gh;rw [List.getD_eq_getElem?_getD,List.getElem?_eq_getElem (by omega)];rfl
  rw [← hgj];simpa using hu j hj
 rw [this]
theorem idx_no {e : Est} {p : Int} (hu : ∀ j,j < e.H.length → (e.gh j).p ≠ p) : e.idx p = -1 := by
 unfold Est.idx
 have : e.H.findIdx? (fun h => decide (h.p = p)) = none := by
  rw [List.findIdx?_eq_none_iff]
  intro x hx
  obtain ⟨j,hj,rfl⟩ := List.mem_iff_getElem.1 hx
  have hgj : e.gh j = e.H[j] := by unfold Est.gh;rw [List.getD_eq_getElem?_getD,List.getElem?_eq_getElem hj];rfl
  have := hu j hj
  rw [hgj] at this
  simpa using this
 rw [this]
def ebox (e : Est) : Obj := .cells e.cells.toArray 26
theorem ebox_cell (w : World) (e : Est) (i : Nat) (v : Value) (h : e.cells[i]? = some v) : (w.alloc (ebox e)).cell? ⟨w.heap.size,i,none⟩ = some v := by
 unfold ebox
 rw [cell_of_row _ w.heap.size i _ _ _ (heap_alloc_new w _)];simpa using h
structure Boxed1 (e : Est) (w w0 : World) : Prop where
 bel : Below w.heap.size w w0
 lt : w.heap.size < w0.heap.size
 row : ∀ i v,e.cells[i]? = some v → w0.cell? ⟨w.heap.size,i,none⟩ = some v
theorem boxed1 (e : Est) (w : World) : Boxed1 e w (w.alloc (.cells e.cells.toArray 26)) :=
 ⟨(Below.refl w.heap.size w).alloc (Nat.le_refl _) _,by simp,fun i v hv => ebox_cell w e i v hv⟩
theorem rheir_any (e : Est) (p : Int) (w : World) (h : e.ok w w.heap.size) (hn : e.H.length ≤ 1000000) : Calls Tryz.prog 21 #[.agg e.cells.toArray,.int .i64 p] w fun r w' => r = .returned (.int .i64 (e.idx p)) ∧ Below w.heap.size w w' := by
 have hX := boxed1 e w
 obtain ⟨CS,hCS⟩ : ∃ CS,e.cells = CS := ⟨_,rfl⟩
 rw [hCS] at hX ⊢
 have HCS := Lib.hid hCS
 clear hCS
 go_enter Tryz.func21,Tryz.ntmps21
 go_wp2
 generalize (w.alloc (.cells CS.toArray 26)) = w0 at hX ⊢
 have c0 := hX.row 0 _ rfl
 have HX := Lib.hid hX
 have HH := Lib.hid (h.below hX.bel)
 obtain ⟨n,hnn⟩ : ∃ n,e.H.length = n := ⟨_,rfl⟩
 rw [hnn] at c0 hn
 have HN := Lib.hid hnn
 clear hX h hnn
 go_loopw [5] (fun i wr => w0 = wr ∧ ∃ k : Nat,k ≤ n ∧ i = .int .i64 k ∧ ∀ j,j < k → (e.gh j).p ≠ p) (fun i _ => n - (intOf i).toNat)
 case atStart => exact ⟨rfl,0,Nat.zero_le _,rfl,fun j hj => absurd hj (by omega)⟩
 case round =>
  obtain ⟨rfl,k,hk,rfl,hu⟩ := hrel
  by_cases hlt : k < n
  ·obtain ⟨b,o,hA1,hb,q0,_,_⟩ := heir_at HH.out (k := k) (by rw [HN.out];exact hlt)
   have k1 : (k : Int) < (n : Int) := by omega
   have k0 : (0 : Int) ≤ (k : Int) := by omega
   rw [hA1] at c0
   by_cases hp : (e.gh k).p = p
   ·have HR : Hid (e.idx p = (k : Int)) := idx_at (by rw [HN.out];exact hlt) hp hu
    rw [hp] at q0
    clear hp hu hA1
    go_wp2
    go_ret
    exact ⟨by rw [HR.out];rfl,HX.out.bel⟩
   ·have HU : Hid (∀ j,j < k + 1 → (e.gh j).p ≠ p) := fun j hj => by
     by_cases e1 : j = k
     ·rw [e1];exact hp
     ·exact hu j (by omega)
    obtain ⟨P,hP⟩ : ∃ P,(e.gh k).p = P := ⟨_,rfl⟩
    rw [hP] at q0 hp
    have hp2 : (P == p) = false := by simpa using hp
    clear hP hu hA1
    go_wp2
    go_roundw
    case rel => exact ⟨trivial,k + 1,by omega,by go_num,HU.out⟩
    case measure => simp [intOf];omega
  ·obtain rfl : k = n := by omega
   have HR : Hid (e.idx p = -1) := idx_no (by rw [HN.out];exact hu)
   go_wp2
   go_ret
   exact ⟨by rw [HR.out];rfl,HX.out.bel⟩
end Go.Proofs.YtjcpjhlclpdpjaaGreat
