import Derived.Test.YtjcpjhlclpdpjaaGreatS06
import Derived.Test.YtjcpjhlclpdpjaaGreatS07
set_option linter.unusedVariables false
set_option maxRecDepth 100000
set_option maxHeartbeats 16000000
namespace Go.Proofs.YtjcpjhlclpdpjaaGreat
open Go.RowKit
section
variable {F : Fence} {nF : Nat} {P : Program} {ops : Array Oper} {rest : List Oper} {o : Oper} {a : Act} {w : World} {Q : Exit → Act → World → Prop}
theorem wpListIn_store_at (hgd : o.guard = none) (ty : TypeId) (x y : Operand) (ho : o.op = .store ty x y)
  (g off : Nat) (cs : List Value) (hx : a.eval x = .pointer (some ⟨g,off,none⟩)) (hy : a.eval y = .agg cs.toArray)
  (t : TypeId) (cur : Array Value) (hg : w.heap[g]? = some (.cells cur t (0,0))) (hfit : off + cs.length ≤ cur.size) (hi : (P.info? ty).map (·.size) = some cs.length) (h1 : ∀ u ∈ cs,u.oneCell' = true)
  (h : ∀ w',w'.heap[g]? = some (.cells (cur.toList.take off ++ cs ++ cur.toList.drop (off + cs.length)).toArray t (0,0)) → w.grownBy w' (some g) → wpListIn F nF P ops Q rest (a.put o.dst undef) w') : wpListIn F nF P ops Q (o :: rest) a w := by
 refine wpListIn_plain hgd fun K hK => ?_
 have hrun := run_storeCells_at P g off t cs 0 cur w hg (by simpa using hfit) h1
 simp only [Nat.add_zero] at hrun
 have hsv : (storeVar ty ⟨g,off,none⟩ (.agg cs.toArray)).run P w = .ok () (w.setRow g (cur.toList.take off ++ cs ++ cur.toList.drop (off + cs.length)).toArray) := by
  cases hq : P.info? ty with
  | none => simp [hq] at hi
  | some i =>
   have hs : cs.length = i.size := by simp [hq] at hi;omega
   simp [storeVar,sizeOf,typeInfo,hq,Value.cells,← hs,hrun]
 unfold Oper.wpIn
 refine ⟨by simp [Oper.about,ho],?_⟩
 rw [Oper.semAt_plain F _ _ (by rw [ho];intro c hc';cases hc')]
 unfold execOp
 simp only [ho,hx,hy,Instr.storeAt,Instr.sureAddr,Sem.run_bind,Sem.run_pure,Result.andThen_ok,hsv]
 exact hK _ _ (h _ (setRow_heap w g cur _ t (0,0) hg) (grown_row _))
theorem wpListIn_load_cells (hgd : o.guard = none) (ty : TypeId) (x : Operand) (ho : o.op = .load ty x)
  (p : Addr) (hx : a.eval x = .pointer (some p)) (cs : List Value) (d : TypeDesc) (hc : ∀ (j : Nat) (v : Value),cs[j]? = some v → w.cell? (p.add j) = some v)
  (hu : P.underlying ty = some d) (hd : (match d with | .struct _ | .array _ _ => true | _ => false) = true) (hi : (P.info? ty).map (·.size) = some cs.length)
  (h : wpListIn F nF P ops Q rest (a.put o.dst (.agg cs.toArray)) w) : wpListIn F nF P ops Q (o :: rest) a w := by
 refine wpListIn_plain hgd fun K hK => ?_
 unfold Oper.wpIn
 refine ⟨by simp [Oper.about,ho],?_⟩
 rw [Oper.semAt_plain F _ _ (by rw [ho];intro c hc';cases hc')]
 unfold execOp
 simp only [ho,hx,Instr.loadAt,Instr.sureAddr,Sem.run_bind,Sem.run_pure,Result.andThen_ok,run_loadVar_cells w p ty cs d hc hu hd hi]
 exact hK _ _ h
theorem wpListIn_make_cells (hg : o.guard = none) (l c : Operand) (t : TypeId) (hop : o.op = Op.makeSlice t l c)
  (e : TypeId) (i : TypeInfo) (z : Value) (ht : P.underlying t = some (.slice e)) (hi : P.info? e = some i) (hz : i.zero = some z) (size : Nat) (hsz : i.size = size)
  (kl kc : IntKind) (n : Nat) (hl : a.eval l = .int kl (n : Int)) (hc : a.eval c = .int kc (n : Int)) (hbytes : (i.bytes : Int) * (n : Int) ≤ 281474976710656) (h63 : (n : Int) ≤ 9223372036854775807)
  (hK : wpListIn F nF P ops Q rest (a.put o.dst (.slice (some ⟨w.heap.size,0,none⟩) n n)) (w.alloc (.cells (madeCells z.cells (n * size)) e))) : wpListIn F nF P ops Q (o :: rest) a w := by
 subst hsz
 refine wpListIn_plain hg fun K hK' => ?_
 have hrun := run_make (P := P) w t e i z ht hi hz kl kc (n : Int) (n : Int) (by omega) (Int.le_refl _) hbytes h63
 rw [Int.toNat_natCast] at hrun
 unfold Oper.wpIn
 refine ⟨by simp [Oper.about,hop],?_⟩
 rw [Oper.semAt_plain F _ _ (by rw [hop];intro c hc';cases hc')]
 simp [execOp,hop,hl,hc,hrun,Result.andThen]
 exact hK' _ _ hK
end
theorem wpListIn_store_ent {F : Fence} {nF : Nat} {ops : Array Oper} {rest : List Oper} {o : Oper} {a : Act} {w : World} {Q : Exit → Act → World → Prop} (hgd : o.guard = none) (x y : Operand) (ho : o.op = .store 54 x y)
  (g cap : Nat) (l : List Ent) (i : Nat) (z : Ent) (hi : i < l.length) (hr : QR w g cap l) (hx : a.eval x = .pointer (some ⟨g,i * 3,none⟩)) (hy : a.eval y = .agg z.cells.toArray)
  (h : ∀ w',QR w' g cap (l.set i z) → w.grownBy w' (some g) → wpListIn F nF Tryz.prog ops Q rest (a.put o.dst undef) w') : wpListIn F nF Tryz.prog ops Q (o :: rest) a w := by
 obtain ⟨cur,hg,h1,h2,h3,h4⟩ := hr
 refine wpListIn_store_at hgd 54 x y ho g (i * 3) z.cells hx hy _ cur hg (by rw [h3,Ent.len];have := Nat.mul_le_mul_right 3 h1;omega) info_reached z.one fun w' hw hgr => ?_
 exact h w' (QR.store (w := w) z hi h1 h2 h3 h4 hw) hgr
structure Lx (s g M gq cap : Nat) (w W : World) (all q : List Ent) : Prop where
 r1 : Row W s 87 [.pointer (some ⟨g,0,none⟩)]
 r3 : Row W (s + 1 + 1) 51 [.slice (some ⟨s + 1,0,none⟩) M M]
 r4 : Row W (s + 1 + 1 + 1 + 1 + 1) 88 [.pointer (some ⟨s + 1 + 1 + 1 + 1,0,none⟩)]
 ra : QR W (s + 1) M all
 al : all.length = M
 qm : Qm W (s + 1 + 1 + 1 + 1) gq cap q
 hp : Heap q q.length
 gq : gq = s + 1 + 1 + 1 ∨ s + 1 + 1 + 1 + 1 + 1 + 1 ≤ gq
 bel : Below s w W
variable {s g M gq cap : Nat} {w W W' : World} {all q : List Ent}
theorem Lx.lt (h : Lx s g M gq cap w W all q) : s + 1 + 1 + 1 + 1 + 1 < W.heap.size ∧ gq < W.heap.size := ⟨h.r4.lt,h.qm.row.lt⟩
theorem Lx.keep (h : Lx s g M gq cap w W all q) (hc : Chg (fun k => (s + 1 + 1 + 1 + 1 + 1 + 1 ≤ k ∨ k = s + 1 + 1 + 1) ∧ k ≠ gq) W W') : Lx s g M gq cap w W' all q :=
 ⟨hc.row h.r1 (by omega),hc.row h.r3 (by omega),hc.row h.r4 (by omega),hc.qr h.ra (by omega),h.al,hc.qm h.qm (by omega) (by omega),h.hp,h.gq,h.bel.trans (hc.below (by have := h.lt;omega) (fun i hi => by omega))⟩
theorem Lx.below (h : Lx s g M gq cap w W all q) (hb : Below W.heap.size W W') : Lx s g M gq cap w W' all q := h.keep (Chg.of_below hb)
theorem Lx.drew (h : Lx s g M gq cap w W all q) : Lx s g M gq cap w W.drew all q := h.below (Below.refl _ _).drew
theorem Lx.alloc (h : Lx s g M gq cap w W all q) (o : Obj) : Lx s g M gq cap w (W.alloc o) all q := h.below ((Below.refl _ _).alloc (Nat.le_refl _) o)
theorem Lx.grown (h : Lx s g M gq cap w W all q) {row : Option Nat} (hg : W.grownBy W' row) (hr : ∀ r,row = some r → s ≤ r ∧ ∃ o : Obj,W.heap[r]? = some o ∧ o.isCells = false) : Lx s g M gq cap w W' all q := by
 refine h.keep ⟨hg.os,hg.tape,hg.output,hg.size,fun k hk hx => hg.block k hk fun e => ?_⟩
 obtain ⟨h1,o,ho,hoc⟩ := hr k e.symm
 have hk' : k = s ∨ k = s + 1 ∨ k = s + 1 + 1 ∨ k = s + 1 + 1 + 1 + 1 ∨ k = s + 1 + 1 + 1 + 1 + 1 ∨ k = gq := by omega
 rcases hk' with rfl | rfl | rfl | rfl | rfl | rfl
 ·rw [show W.heap[k]? = _ from h.r1] at ho;cases ho;cases hoc
 ·obtain ⟨cur,hcur,_⟩ := h.ra;rw [hcur] at ho;cases ho;cases hoc
 ·rw [show W.heap[s + 1 + 1]? = _ from h.r3] at ho;cases ho;cases hoc
 ·rw [show W.heap[s + 1 + 1 + 1 + 1]? = _ from h.qm.ptr] at ho;cases ho;cases hoc
 ·rw [show W.heap[s + 1 + 1 + 1 + 1 + 1]? = _ from h.r4] at ho;cases ho;cases hoc
 ·obtain ⟨cur,hcur,_⟩ := h.qm.row;rw [hcur] at ho;cases ho;cases hoc
theorem Lx.queue (h : Lx s g M gq cap w W all q) {gq' cap' : Nat} {q' : List Ent} (hc : Chg (fun k => k = s + 1 + 1 + 1 + 1 ∨ k = gq) W W') (hq : Qm W' (s + 1 + 1 + 1 + 1) gq' cap' q') (hh : Heap q' q'.length) (hg : gq' = gq ∨ W.heap.size ≤ gq') : Lx s g M gq' cap' w W' all q' :=
 ⟨hc.row h.r1 (by have := h.gq;omega),hc.row h.r3 (by have := h.gq;omega),hc.row h.r4 (by have := h.gq;omega),hc.qr h.ra (by have := h.gq;omega),h.al,hq,hh,by have := h.gq;have := h.lt;omega,
  h.bel.trans (hc.below (by have := h.lt;omega) (fun i hi => by have := h.gq;omega))⟩
theorem Lx.store (h : Lx s g M gq cap w W all q) {all' : List Ent} (hr : QR W' (s + 1) M all') (hl : all'.length = all.length) (hg : W.grownBy W' (some (s + 1))) : Lx s g M gq cap w W' all' q := by
 have hc : Chg (fun k => k = s + 1) W W' := Chg.of_grown hg (fun k e => (Option.some.inj e).symm)
 have := h.gq
 exact ⟨hc.row h.r1 (by omega),hc.row h.r3 (by omega),hc.row h.r4 (by omega),hr,hl.trans h.al,hc.qm h.qm (by omega) (by omega),h.hp,h.gq,h.bel.trans (hc.below (by have := h.lt;omega) (fun i hi => by omega))⟩
theorem Chg.keepQ {s gq : Nat} {W W' : World} {cap : Nat} {q : List Ent} (h : Chg (fun k => k = s + 1 + 1 + 1 + 1 ∨ k = gq) W W') (hq : QR W gq cap q) (hg : s ≤ gq) : KeepQ (fun k t => s ≤ k ∧ (k = s + 1 + 1 + 1 + 1 ∨ t = 54)) W W' :=
 ⟨h.size,fun k cs t fr hk hx => h.block k (heap_lt hk) (by
  rintro (rfl | rfl)
  ·exact hx ⟨by omega,.inl rfl⟩
  ·obtain ⟨cur,hc,_⟩ := hq
   rw [hc] at hk
   cases hk
   exact hx ⟨hg,.inr rfl⟩)⟩
theorem made_ents : ∀ M : Nat,(madeCells #[.int .u64 0,.int .i64 0,.int .i64 0] (M * 3)).toList = (List.replicate M dE).flatMap Ent.cells
 | 0 => by simp [madeCells]
 | M + 1 => by
  have ih := made_ents M
  rw [List.replicate_succ',List.flatMap_append,← ih]
  unfold madeCells
  rw [Array.toList_map,Array.toList_map,Array.toList_range,Array.toList_range,show (M + 1) * 3 = M * 3 + 1 + 1 + 1 by omega,List.range_succ,List.range_succ,List.range_succ]
  simp only [List.map_append,List.map_cons,List.map_nil,List.append_assoc,List.cons_append,List.nil_append]
  congr 1
  have h0 : M * 3 % 3 = 0 := by omega
  have h1 : (M * 3 + 1) % 3 = 1 := by omega
  have h2 : (M * 3 + 1 + 1) % 3 = 2 := by omega
  simp [h0,h1,h2,Ent.cells,dE]
theorem QR.made {W : World} {g M : Nat} (hM : M ≤ maxLen) (h : W.heap[g]? = some (.cells (madeCells #[.int .u64 0,.int .i64 0,.int .i64 0] (M * 3)) 54 (0,0))) : QR W g M (List.replicate M dE) := by
 refine ⟨_,h,by rw [List.length_replicate];exact Nat.le_refl _,hM,by rw [size_madeCells],?_⟩
 rw [List.length_replicate,made_ents,List.take_of_length_le (by rw [flat_len,List.length_replicate];exact Nat.le_refl _)]
theorem QR.empty {W : World} {g : Nat} (h : W.heap[g]? = some (.cells #[] 54 (0,0))) : QR W g 0 [] := ⟨_,h,Nat.le_refl _,by unfold maxLen;omega,rfl,rfl⟩
theorem wrap_pow : ∀ N ≤ 6,wrap64 ((2 : Int) ^ N) = ((2 ^ N : Nat) : Int) := by decide +kernel
structure Ini (D : DjE) (k : Nat) (all q : List Ent) : Prop where
 al : all.length = D.M
 lo : ∀ i,i < k → all.getD i dE = ⟨i,-1,0⟩
 qe : ∀ y ∈ q,∃ i,i < k ∧ y = ⟨i,0,0⟩ ∧ D.sf i ∧ D.lv i
 qa : ∀ i,i < k → D.sf i → D.lv i → (⟨i,0,0⟩ : Ent) ∈ q
 ql : q.length ≤ k
theorem Ini.start (D : DjE) : Ini D 0 (List.replicate D.M dE) [] := ⟨by simp,fun i h => by omega,fun y h => by simp at h,fun i h => by omega,by simp⟩
theorem Ini.yes {D : DjE} {k : Nat} {all q q' : List Ent} (h : Ini D k all q) (hk : k < D.M) (hs : D.sf k) (hl : D.lv k) (hq : ∀ y,y ∈ q' ↔ y ∈ q ∨ y = ⟨k,0,0⟩) (hn : q'.length = q.length + 1) : Ini D (k + 1) (all.set k ⟨k,-1,0⟩) q' := by
 have hkl : k < all.length := by rw [h.al];exact hk
 refine ⟨by rw [List.length_set];exact h.al,fun i hi => ?_,fun y hy => ?_,fun i hi h1 h2 => ?_,by have := h.ql;omega⟩
 ·rw [getD_set all k i _ hkl]
  by_cases e : k = i
  ·rw [if_pos e,← e]
  ·rw [if_neg e];exact h.lo i (by omega)
 ·rcases (hq y).1 hy with h1 | h1
  ·obtain ⟨i,a,b⟩ := h.qe y h1;exact ⟨i,by omega,b⟩
  ·exact ⟨k,by omega,h1,hs,hl⟩
 ·by_cases e : i = k
  ·rw [e];exact (hq _).2 (.inr rfl)
  ·exact (hq _).2 (.inl (h.qa i (by omega) h1 h2))
theorem Ini.no {D : DjE} {k : Nat} {all q : List Ent} (h : Ini D k all q) (hk : k < D.M) (hs : ¬ (D.sf k ∧ D.lv k)) : Ini D (k + 1) (all.set k ⟨k,-1,0⟩) q := by
 have hkl : k < all.length := by rw [h.al];exact hk
 refine ⟨by rw [List.length_set];exact h.al,fun i hi => ?_,fun y hy => ?_,fun i hi h1 h2 => ?_,by have := h.ql;omega⟩
 ·rw [getD_set all k i _ hkl]
  by_cases e : k = i
  ·rw [if_pos e,← e]
  ·rw [if_neg e];exact h.lo i (by omega)
 ·obtain ⟨i,a,b⟩ := h.qe y hy;exact ⟨i,by omega,b⟩
 ·by_cases e : i = k
  ·subst e;exact absurd ⟨h1,h2⟩ hs
  ·exact h.qa i (by omega) h1 h2
theorem Ini.dj {D : DjE} {all q : List Ent} (ok : D.ok) (h : Ini D D.M all q) : Dj D (fun _ _ => False) all q ∧ nset all = 0 := by
 have hs : ∀ i,i < D.M → ¬ stl all i := fun i hi hc => by unfold stl at hc;rw [h.lo i hi] at hc;exact absurd (show (0 : Int) ≤ -1 from hc) (by decide)
 have hn : nset all = 0 := by
  unfold nset
  rw [List.length_eq_zero_iff,List.filter_eq_nil_iff]
  intro x hx
  obtain ⟨j,hj,rfl⟩ := mem_getD.1 hx
  have := hs j (by rw [← h.al];exact hj)
  simpa [stl] using this
 refine ⟨⟨h.al,fun i hi => by rw [h.lo i hi],fun i hi => .inl (by rw [h.lo i hi]),fun i hi hc => absurd hc (hs i hi),fun y hy => ?_,fun i hi hc => absurd hc (hs i hi),fun y hy => ?_,fun i hi h1 h2 => .inr (h.qa i hi h1 h2),fun i hi h1 h2 w hw ht => ?_,fun i hi hc => absurd hc (hs i hi),fun i hi hc => absurd hc (hs i hi),fun i hi hc => absurd hc (hs i hi)⟩,hn⟩
 ·obtain ⟨i,hi,rfl,h1,h2⟩ := h.qe y hy
  exact ⟨hi,h1,by show (0 : Int) ≤ 0;omega,by show (0 : Int) ≤ 0;omega,by show (0 : Int) ≤ 0 * 1048576;omega,.inl ⟨rfl,rfl,h2⟩⟩
 ·obtain ⟨i,hi,rfl,h1,h2⟩ := h.qe y hy
  rw [hn];exact Int.le_refl _
 ·exact absurd ht (hs _ (ok.tt i hi w hw).1)
end Go.Proofs.YtjcpjhlclpdpjaaGreat
namespace Go.Proofs.YtjcpjhlclpdpjaaGreat
open Go.RowKit
theorem wpIn_loop_ghost {F : Fence} {n : Nat} {P : Program} {Q : Exit → Act → World → Prop} {a : Act} {w : World} {c : Code} (J : Nat → Act → World → Prop) (h : ∃ m,J m a w)
  (round : ∀ m a w,J m a w → c.wpIn F n P (Exit.then (fun a' w' => ∃ m',m' < m ∧ J m' a' w') Q) a w) : (Code.loop c).wpIn F n P Q a w := by
 have key : ∀ k m a w,m < k → J m a w → Code.roundsIn F n P c Q k a w := by
  intro k
  induction k with
  | zero => intro m a w hm;omega
  | succ k ih =>
   intro m a w hm hJ
   rw [roundsIn_succ]
   refine wpIn_mono (round m a w hJ) ?_
   intro e a' w' he
   cases e with
   | normal =>
    obtain ⟨m',h1,h2⟩ := he
    exact ih m' a' w' (by omega) h2
   | exit id => exact he
   | goto l => exact he
   | ret => exact he
   | panic ch => exact he
   | outgrown => exact he
 obtain ⟨m,hm⟩ := h
 exact wpIn_loop_rounds (m + 1) (key (m + 1) m a w (by omega) hm)
theorem Marks.chg {B C : Nat} {ds : List Deferred} {w w' : World} {ex : Nat → Prop} (h : Marks B C ds w) (hc : Chg ex w w') (hx : ∀ k,ex k → ∀ o,w.heap[k]? = some o → o.isCells = true) (hC : C ≤ w.heap.size) : Marks B C ds w' :=
 ⟨fun d hd => by
  obtain ⟨D,e,h1,h2,h3⟩ := h.1 d hd
  exact ⟨D,e,h1,h2,(hc.block D (by omega) (fun he => by have := hx D he _ h3;simp [Obj.isCells] at this)).trans h3⟩,h.2⟩
theorem Marks.more {B C C' : Nat} {ds : List Deferred} {w : World} (h : Marks B C ds w) (hC : C ≤ C') : Marks B C' ds w :=
 ⟨fun d hd => by obtain ⟨D,e,h1,h2,h3⟩ := h.1 d hd;exact ⟨D,e,h1,by omega,h3⟩,h.2⟩
theorem chg_keepsFrom {ex : Nat → Prop} {B : Nat} {W W' : World} (h : Chg ex W W') (hx : ∀ k,ex k → ∀ o,W.heap[k]? = some o → o.isCells = true) : KeepsFrom B W W' :=
 ⟨h.size,fun k o _ hk ho => by
  have hn : ¬ ex k := fun he => by have := hx k he o hk;rw [ho] at this;cases this
  exact (h.block k (Array.getElem?_eq_some_iff.1 hk).1 hn).trans hk⟩
def LI (D : DjE) (s g M gq0 : Nat) (w W0 W : World) (all : List Ent) (X : Nat → Way → Prop) (B : Nat) : Prop :=
 ∃ gq cap q,Lx s g M gq cap w W all q ∧ Chg (fun k => k = s + 1 + 1 + 1 + 1 ∨ k = gq0) W0 W ∧ (gq = gq0 ∨ W0.heap.size ≤ gq) ∧ Dj D X all q ∧ q.length ≤ B
theorem Lx.isCells {s g M gq cap : Nat} {w W : World} {all q : List Ent} (h : Lx s g M gq cap w W all q) : ∀ k,(k = s + 1 + 1 + 1 + 1 ∨ k = gq) → ∀ o,W.heap[k]? = some o → o.isCells = true := by
 rintro k (rfl | rfl) o ho
 ·rw [show W.heap[s + 1 + 1 + 1 + 1]? = _ from h.qm.ptr] at ho;cases ho;rfl
 ·obtain ⟨cur,hc,_⟩ := h.qm.row;rw [hc] at ho;cases ho;rfl
variable {D : DjE} {s g M gq gq0 cap B B' : Nat} {w W0 W W' : World} {all q : List Ent} {X X' : Nat → Way → Prop}
theorem LI.start (h : Lx s g M gq cap w W all q) (hd : Dj D X all q) (hb : q.length ≤ B) : LI D s g M gq w W W all X B := ⟨gq,cap,q,h,Chg.refl _ _,.inl rfl,hd,hb⟩
theorem LI.grown (hs : s ≤ W0.heap.size) (h : LI D s g M gq0 w W0 W all X B) {row : Option Nat} (hg : W.grownBy W' row) (hr : ∀ r,row = some r → W0.heap.size ≤ r ∧ ∃ o : Obj,W.heap[r]? = some o ∧ o.isCells = false) : LI D s g M gq0 w W0 W' all X B := by
 obtain ⟨gq,cap,q,h1,h2,h3,h4⟩ := h
 exact ⟨gq,cap,q,h1.grown hg (fun r e => ⟨by have := (hr r e).1;omega,(hr r e).2⟩),h2.trans (Chg.of_grown (ex := fun k => W0.heap.size ≤ k) hg (fun r e => (hr r e).1)) (fun i hi hx => by omega),h3,h4⟩
theorem LI.below (h : LI D s g M gq0 w W0 W all X B) (hb : Below W.heap.size W W') : LI D s g M gq0 w W0 W' all X B := by
 obtain ⟨gq,cap,q,h1,h2,h3,h4⟩ := h
 exact ⟨gq,cap,q,h1.below hb,h2.trans (Chg.of_below (ex := fun _ => False) hb) (fun i hi hx => hx.elim),h3,h4⟩
theorem LI.alloc (h : LI D s g M gq0 w W0 W all X B) (o : Obj) : LI D s g M gq0 w W0 (W.alloc o) all X B := h.below ((Below.refl _ _).alloc (Nat.le_refl _) o)
theorem Chg.trans' {ex : Nat → Prop} {a b c : World} (h : Chg (fun _ => False) a b) (k : Chg ex b c) : Chg ex a c :=
 ⟨k.os.trans h.os,k.tape.trans h.tape,k.output.trans h.output,Nat.le_trans h.size k.size,fun i hi hx => (k.block i (Nat.lt_of_lt_of_le hi h.size) hx).trans (h.block i hi (fun hf => hf))⟩
theorem LI.base (hb : Below W0.heap.size W0 W) (h : LI D s g M gq0 w W W' all X B) : LI D s g M gq0 w W0 W' all X B := by
 obtain ⟨gq,cap,q,h1,h2,h3,h4⟩ := h
 exact ⟨gq,cap,q,h1,Chg.trans' (Chg.of_below (ex := fun _ => False) hb) h2,by have := hb.size;omega,h4⟩
theorem LI.next (hg0 : gq = gq0 ∨ W0.heap.size ≤ gq) (hc : Chg (fun k => k = s + 1 + 1 + 1 + 1 ∨ k = gq0) W0 W) (h : LI D s g M gq w W W' all X B) : LI D s g M gq0 w W0 W' all X B := by
 obtain ⟨gq1,cap,q,h1,h2,h3,h4⟩ := h
 exact ⟨gq1,cap,q,h1,hc.trans h2 (fun i hi hx => by omega),by have := hc.size;omega,h4⟩
theorem LI.keeps (hL : Lx s g M gq cap w W all q) (h : LI D s g M gq w W W' all X B) (C : Nat) : KeepsFrom C W W' ∧ KeepQ (fun k t => s ≤ k ∧ (k = s + 1 + 1 + 1 + 1 ∨ t = 54)) W W' := by
 obtain ⟨gq1,cap1,q1,h1,h2,h3,h4⟩ := h
 refine ⟨chg_keepsFrom h2 hL.isCells,h2.size,fun k cs t fr hk hx => h2.block k (heap_lt hk) ?_⟩
 rintro (rfl | rfl)
 ·exact hx ⟨by omega,.inl rfl⟩
 ·obtain ⟨cur,hc,_⟩ := hL.qm.row
  rw [hc] at hk
  cases hk
  exact hx ⟨by have := hL.gq;omega,.inr rfl⟩
def XO (x : Ent) (pre : List Way) (i : Nat) (w : Way) : Prop := w.t = x.m ∧ ∀ b ∈ pre,b.t ≠ i
def XI (x : Ent) (pre : List Way) (t : Nat) (pre2 : List Way) (i : Nat) (w : Way) : Prop := w.t = x.m ∧ (∀ b ∈ pre,b.t ≠ i) ∧ (i = t → w ∉ pre2)
variable {x : Ent} {pre pre2 : List Way} {b c : Way}
theorem XO.start (h : Dj D (fun _ w => w.t = x.m) all q) : Dj D (XO x []) all q := h.weak fun i w _ _ _ _ _ h => .inl ⟨h,fun b hb => by simp at hb⟩
theorem XO.skip (h : Dj D (XO x pre) all q) (hb : stl all b.t ∨ ¬ D.sf b.t) : Dj D (XO x (pre ++ [b])) all q := h.weak fun i w _ hs hn _ _ h => .inl ⟨h.1,fun b' hb' => by
 rcases List.mem_append.1 hb' with h1 | h1
 ·exact h.2 b' h1
 ·rw [List.mem_singleton] at h1
  subst h1
  intro e
  rcases hb with h2 | h2
  ·exact hn (by rw [← e];exact h2)
  ·exact h2 (by rw [e];exact hs)⟩
theorem XI.start (h : Dj D (XO x pre) all q) (t : Nat) : Dj D (XI x pre t []) all q := h.weak fun i w _ _ _ _ _ h => .inl ⟨h.1,h.2,fun _ hw => by simp at hw⟩
theorem XI.no (h : Dj D (XI x pre b.t pre2) all q) (hc : c.t ≠ x.m) : Dj D (XI x pre b.t (pre2 ++ [c])) all q := h.weak fun i w _ _ _ _ _ h => .inl ⟨h.1,h.2.1,fun e hw => by
 rcases List.mem_append.1 hw with h1 | h1
 ·exact h.2.2 e h1
 ·rw [List.mem_singleton] at h1
  subst h1
  exact hc h.1⟩
theorem XI.yes (h : Dj D (XI x pre b.t pre2) all q) (hq : (⟨b.t,(all.getD c.t dE).c + c.c,(all.getD c.t dE).s + 1⟩ : Ent) ∈ q) : Dj D (XI x pre b.t (pre2 ++ [c])) all q := h.weak fun i w _ _ _ _ _ h => by
 by_cases e : i = b.t ∧ w = c
 ·obtain ⟨rfl,rfl⟩ := e
  exact .inr hq
 ·refine .inl ⟨h.1,h.2.1,fun e2 hw => ?_⟩
  rcases List.mem_append.1 hw with h1 | h1
  ·exact h.2.2 e2 h1
  ·rw [List.mem_singleton] at h1
   exact e ⟨e2,h1⟩
theorem XI.done (h : Dj D (XI x pre b.t (D.e.wall b.t)) all q) : Dj D (XO x (pre ++ [b])) all q := h.weak fun i w _ _ _ hw _ h => .inl ⟨h.1,fun b' hb' => by
 rcases List.mem_append.1 hb' with h1 | h1
 ·exact h.2.1 b' h1
 ·rw [List.mem_singleton] at h1
  subst h1
  intro e
  exact h.2.2 e.symm (by rw [e];exact hw)⟩
theorem XO.done (ok : D.ok) (h : Dj D (XO x (D.e.wall x.m)) all q) : Dj D (fun _ _ => False) all q := h.weak fun i w hi _ _ hw _ h => by
 obtain ⟨b,hb,e⟩ := ok.back i hi w hw
 exact absurd e (h.2 b (by rw [← h.1];exact hb))
end Go.Proofs.YtjcpjhlclpdpjaaGreat
