import Derived.ArgAppend
import Derived.Test.YtjcpjhlclpdpjaaGreatS21
set_option linter.unusedVariables false
set_option maxRecDepth 100000
set_option maxHeartbeats 16000000
namespace Go.Proofs.YtjcpjhlclpdpjaaGreat
open Go.RowKit
attribute [local go_sem] Oper.semAt_some
def pws (q : Int) (k : Nat) : List Value := (List.range k).map fun j => .int .i64 (Gs.pwr q j)
theorem pws_len (q : Int) (k : Nat) : (pws q k).length = k := by simp [pws]
theorem pws_next (q : Int) (k : Nat) : pws q (k + 1) = pws q k ++ [.int .i64 (Gs.pwr q k)] := by simp [pws,List.range_succ]
theorem pws_get {q : Int} {k j : Nat} (h : j < k) : (pws q k)[j]? = some (.int .i64 (Gs.pwr q j)) := by simp [pws,h]
theorem pws_one (q : Int) : pws q 1 = [.int .i64 1] := by simp [pws,Gs.pwr]
def Acc (W : World) (B vb G C k : Nat) (q : Int) : Prop :=
 (k = 0 ∧ G = vb ∧ C = 1 ∧ Row W vb 3 [.int .i64 1]) ∨ (0 < k ∧ W.ownsRow B 3 1 (.slice (some ⟨G,0,none⟩) (k + 1) C) (k + 1) (pws q (k + 1)))
theorem own_ge {w : World} {b : Nat} {e : TypeId} {sz : Nat} {G n c : Nat} {xs : List Value} (h : w.ownsRow b e sz (.slice (some ⟨G,0,none⟩) n c) n xs) (hn : 0 < n) : b ≤ G ∧ G < w.heap.size ∧ n ≤ c ∧ c ≤ maxLen := by
 have h1 := h.lt G rfl
 rcases h.2 with ⟨_,h2⟩ | ⟨g,cap,cur,e1,_,_,h3,h4,_⟩
 ·omega
 ·injection e1 with e1 _ e2
  subst e2
  exact ⟨h1.1,h1.2,h3,h4⟩
theorem Acc.cap {W : World} {B vb G C k : Nat} {q : Int} (h : Acc W B vb G C k q) : k + 1 ≤ C ∧ C ≤ maxLen := by
 rcases h with ⟨rfl,rfl,rfl,_⟩ | ⟨h0,h⟩
 ·exact ⟨Nat.le_refl _,by unfold maxLen;omega⟩
 ·exact (own_ge h (by omega)).2.2
theorem Acc.at {W : World} {B vb G C k : Nat} {q : Int} (h : Acc W B vb G C k q) : (G = vb ∨ B ≤ G) ∧ G < W.heap.size ∧ ∀ j,j < k + 1 → W.cell? ⟨G,j,none⟩ = some (.int .i64 (Gs.pwr q j)) := by
 rcases h with ⟨rfl,rfl,rfl,h⟩ | ⟨h0,h⟩
 ·refine ⟨.inl rfl,h.lt,fun j hj => ?_⟩
  obtain rfl : j = 0 := by omega
  rw [h.cell (i := 0) rfl]
  simp [Gs.pwr]
 ·obtain ⟨h1,h2,_,_⟩ := own_ge h (by omega)
  exact ⟨.inr h1,h2,fun j hj => by rw [h.cellAt j (by omega),pws_get hj]⟩
theorem run_append_acc {W : World} {B vb G C k : Nat} {q : Int} (h : Acc W B vb G C k q) (hB : B ≤ W.heap.size) (hk : k < 100) (ty : TypeId) (s : Nat) (hs : Row W s 3 [.int .i64 (Gs.pwr q (k + 1))]) :
  ∃ G' C' W',(Builtin.append_ #[23,23] ty #[.slice (some ⟨G,0,none⟩) (k + 1) C,.slice (some ⟨s,0,none⟩) 1 1]).run Tryz.prog W = .ok (.slice (some ⟨G',0,none⟩) (k + 1 + 1) C') W' ∧
   Acc W' B vb G' C' (k + 1) q ∧ B ≤ G' ∧ ∃ row,W.grownBy W' row ∧ ∀ g,row = some g → B ≤ g ∧ g < W.heap.size ∧ ∃ o,W.heap[g]? = some o ∧ o.isCells = true := by
 obtain ⟨ii,hii,hzz⟩ := Option.map_eq_some_iff.1 (show (Tryz.prog.info? 3).map (fun i => (i.zero,i.size,i.bytes)) = some (some (.int .i64 0),1,8) by kernel_rfl)
 simp only [Prod.mk.injEq] at hzz
 rcases h with ⟨rfl,rfl,rfl,h⟩ | ⟨h0,h⟩
 ·obtain ⟨v',W',hrun,h1,h2⟩ := run_append_arg_grows (P := Tryz.prog) W 23 ty 3 ii (.int .i64 0) 1 8 Tryz.underlying23 hii hzz.1 hzz.2.1 hzz.2.2 rfl (by decide) ⟨G,0,none⟩ 1 1 [.int .i64 1] rfl
   (fun j u hu => by rw [Addr.add_flat,Nat.zero_add];exact h.cell hu) ⟨s,0,none⟩ 1 1 [.int .i64 (Gs.pwr q 1)] rfl (fun j u hu => by rw [Addr.add_flat,Nat.zero_add];exact hs.cell hu) (by omega) (by unfold maxLen;omega) (by omega)
  obtain ⟨g,c,rfl,_,_⟩ := h1.form (by omega)
  have h3 := own_ge h1 (by omega)
  refine ⟨g,c,W',hrun,.inr ⟨by omega,?_⟩,by omega,none,h2,fun g e => by cases e⟩
  rw [pws_next,pws_one]
  exact own_mono hB h1
 ·obtain ⟨v',W',hrun,h1,h2,h3⟩ := run_append_rd (P := Tryz.prog) W B 23 ty 3 ii (.int .i64 0) 1 8 Tryz.underlying23 hii hzz.1 hzz.2.1 hzz.2.2 rfl (by decide) _ _ _ h (s + 1) (some ⟨s,0,none⟩) 1 1 [.int .i64 (Gs.pwr q (k + 1))] (rd_rowU hs) (by intro u hu;simp at hu;rw [hu];rfl) (by unfold maxLen;omega) (by omega) hB
  obtain ⟨g,c,rfl,_,_⟩ := h1.form (by omega)
  have h4 := own_ge h1 (by omega)
  refine ⟨g,c,W',hrun,.inr ⟨by omega,?_⟩,h4.1,_,h2,fun g e => ⟨(h.lt g e).1,(h.lt g e).2,own_isc h e⟩⟩
  rw [pws_next]
  exact h1
section
variable {F : Fence} {nF : Nat}
theorem wpListIn_append_acc {w : World} {ops : Array Oper} {rest : List Oper} {o : Oper} {a : Act} {Q : Exit → Act → World → Prop} (hgd : o.guard = none) (x y : Operand)
  (ho : o.op = .call { callee := .builtin .append,args := #[x,y],argTypes := #[23,23] }) {B vb G C k s : Nat} {q : Int} (hx : a.eval x = .slice (some ⟨G,0,none⟩) (k + 1) C) (hy : a.eval y = .slice (some ⟨s,0,none⟩) 1 1)
  (h : Acc w B vb G C k q) (hB : B ≤ w.heap.size) (hk : k < 100) (hs : Row w s 3 [.int .i64 (Gs.pwr q (k + 1))])
  (hK : ∀ G' C' w',Acc w' B vb G' C' (k + 1) q → B ≤ G' → (∃ row,w.grownBy w' row ∧ ∀ g,row = some g → B ≤ g ∧ g < w.heap.size ∧ ∃ o,w.heap[g]? = some o ∧ o.isCells = true) → wpListIn F nF Tryz.prog ops Q rest (a.put o.dst (.slice (some ⟨G',0,none⟩) (k + 1 + 1) C')) w') : wpListIn F nF Tryz.prog ops Q (o :: rest) a w := by
 refine wpListIn_plain hgd fun K hKK => ?_
 obtain ⟨G',C',w',hrun,h1,h2,h3⟩ := run_append_acc h hB hk o.type s hs
 unfold Oper.wpIn
 refine ⟨by simp [Oper.about,ho,resolve,Target.leads],?_⟩
 rw [Oper.semAt_plain F _ _ (by rw [ho];intro c hc';cases hc')]
 simp [execOp,ho,resolve,invoke,builtin,hx,hy,hrun,Result.andThen]
 exact hKK _ _ (hK G' C' w' h1 h2 h3)
theorem wpListIn_append_none {w : World} {ops : Array Oper} {rest : List Oper} {o : Oper} {a : Act} {Q : Exit → Act → World → Prop} (hgd : o.guard = none) (x y : Operand)
  (ho : o.op = .call { callee := .builtin .append,args := #[x,y],argTypes := #[23,3] }) {p : Addr} {l c : Nat} (hx : a.eval x = .slice (some p) l c) (hy : a.eval y = .int .i64 0) (hlc : l ≤ c)
  (hK : wpListIn F nF Tryz.prog ops Q rest (a.put o.dst (.slice (some p) l c)) w) : wpListIn F nF Tryz.prog ops Q (o :: rest) a w := by
 refine wpListIn_plain hgd fun K hKK => ?_
 have hrun := append_none p l c o.type hlc w
 unfold Oper.wpIn
 refine ⟨by simp [Oper.about,ho,resolve,Target.leads],?_⟩
 rw [Oper.semAt_plain F _ _ (by rw [ho];intro c hc';cases hc')]
 simp [execOp,ho,resolve,invoke,builtin,hx,hy,hrun,Result.andThen]
 exact hKK _ _ hK
end
structure TT (B bp N : Nat) (P : List Int) (W : World) (k : Nat) (rA : Option Addr) (rc : Nat) (oA : Option Addr) (oc : Nat) (gs : List Nat) : Prop where
 box : Row W bp 71 [.slice rA k rc,.slice oA k oc]
 own1 : W.ownsRow B 23 1 (.slice rA k rc) k (gs.map fun g => .slice (some ⟨g,0,none⟩) N N)
 own2 : W.ownsRow B 3 1 (.slice oA k oc) k (ivs (P.take k))
 dis : ∀ g,(Value.slice rA k rc).ownBlock = some g → (Value.slice oA k oc).ownBlock ≠ some g
 gl : gs.length = k
 row : ∀ i,i < k → ∀ j,j < N → W.cell? ⟨gs.getD i 0,j,none⟩ = some (.int .i64 (Gs.pwr ((i + 1 : Nat) : Int) j))
 blk : ∀ i,i < k → gs.getD i 0 < W.heap.size ∧ gs.getD i 0 ≠ bp ∧ (Value.slice rA k rc).ownBlock ≠ some (gs.getD i 0) ∧ (Value.slice oA k oc).ownBlock ≠ some (gs.getD i 0)
section
variable {B bp N : Nat} {P : List Int} {W W' : World} {k : Nat} {rA : Option Addr} {rc : Nat} {oA : Option Addr} {oc : Nat} {gs : List Nat}
theorem TT.next (h : TT B bp N P W k rA rc oA oc gs) (hb : Below W.heap.size W W') : TT B bp N P W' k rA rc oA oc gs :=
 ⟨h.box.below hb h.box.lt,own_below h.own1 hb (fun g hg => (h.own1.lt g hg).2),own_below h.own2 hb (fun g hg => (h.own2.lt g hg).2),h.dis,h.gl,fun i hi j hj => (hb.cell (p := ⟨gs.getD i 0,j,none⟩) (h.blk i hi).1).trans (h.row i hi j hj),fun i hi => by have h1 := h.blk i hi;have := hb.size;exact ⟨by omega,h1.2⟩⟩
theorem TT.tch {ex : Nat → Prop} (h : TT B bp N P W k rA rc oA oc gs) (hb : Tch ex W W') (hx : ∀ g,g < W.heap.size → ¬ ex g) : TT B bp N P W' k rA rc oA oc gs :=
 h.next (hb.below (Nat.le_refl _) (fun i hi => hx i hi))
theorem TT.step (h : TT B bp N P W k rA rc oA oc gs) {vg : Nat} {rA' : Option Addr} {rc' : Nat} {oA' : Option Addr} {oc' : Nat} {p : Int} (hp : P[k]? = some p)
  (hbox : Row W' bp 71 [.slice rA' (k + 1) rc',.slice oA' (k + 1) oc'])
  (hPP : PP 23 3 (fun g => g = bp) B W (.slice rA k rc) (.slice oA k oc) W' (.slice rA' (k + 1) rc') (.slice oA' (k + 1) oc') (k + 1) (k + 1) ((gs.map fun g => .slice (some ⟨g,0,none⟩) N N) ++ [.slice (some ⟨vg,0,none⟩) N N]) (ivs (P.take k) ++ [.int .i64 p]))
  (hv : vg < W.heap.size ∧ vg ≠ bp ∧ (Value.slice rA k rc).ownBlock ≠ some vg ∧ (Value.slice oA k oc).ownBlock ≠ some vg) (hc : ∀ j,j < N → W.cell? ⟨vg,j,none⟩ = some (.int .i64 (Gs.pwr ((k + 1 : Nat) : Int) j))) :
  TT B bp N P W' (k + 1) rA' rc' oA' oc' (gs ++ [vg]) := by
 have hget : ∀ i,i < k + 1 → (gs ++ [vg]).getD i 0 = if i < k then gs.getD i 0 else vg := fun i hi => by
  by_cases h1 : i < k
  ·rw [if_pos h1,List.getD_eq_getElem?_getD,List.getElem?_append_left (by rw [h.gl];exact h1),← List.getD_eq_getElem?_getD]
  ·rw [if_neg h1,List.getD_eq_getElem?_getD,List.getElem?_append_right (by rw [h.gl];omega),show i - gs.length = 0 by rw [h.gl];omega];rfl
 have hne : ∀ i,i < k + 1 → (gs ++ [vg]).getD i 0 < W.heap.size ∧ (gs ++ [vg]).getD i 0 ≠ bp ∧ (Value.slice rA k rc).ownBlock ≠ some ((gs ++ [vg]).getD i 0) ∧ (Value.slice oA k oc).ownBlock ≠ some ((gs ++ [vg]).getD i 0) := fun i hi => by
  rw [hget i hi]
  by_cases h1 : i < k
  ·rw [if_pos h1];exact h.blk i h1
  ·rw [if_neg h1];exact hv
 have hx : ∀ i,i < k + 1 → ¬ ((Value.slice rA k rc).ownBlock = some ((gs ++ [vg]).getD i 0) ∨ (Value.slice oA k oc).ownBlock = some ((gs ++ [vg]).getD i 0) ∨ (gs ++ [vg]).getD i 0 = bp) := fun i hi hx => by
  obtain ⟨_,h1,h2,h3⟩ := hne i hi
  rcases hx with hx | hx | hx
  ·exact h2 hx
  ·exact h3 hx
  ·exact h1 hx
 refine ⟨hbox,by simpa using hPP.own1,?_,hPP.dis,by rw [List.length_append,h.gl];rfl,fun i hi j hj => ?_,fun i hi => ?_⟩
 ·rw [List.take_add_one,hp]
  simpa using hPP.own2
 ·rw [hPP.tch.cell (p := ⟨(gs ++ [vg]).getD i 0,j,none⟩) (hne i hi).1 (hx i hi),hget i hi]
  by_cases h1 : i < k
  ·rw [if_pos h1];exact h.row i h1 j hj
  ·rw [if_neg h1,show i = k by omega];exact hc j hj
 ·obtain ⟨h0,h1,h2,h3⟩ := hne i hi
  refine ⟨by have := hPP.tch.size;omega,h1,fun e => ?_,fun e => ?_⟩
  ·rcases hPP.f1 with h4 | ⟨g,h4,h5⟩
   ·exact h2 (h4 ▸ e)
   ·rw [e] at h4;cases h4;omega
  ·rcases hPP.f2 with h4 | ⟨g,h4,h5⟩
   ·exact h3 (h4 ▸ e)
   ·rw [e] at h4;cases h4;omega
theorem TT.isc (h : TT B bp N P W k rA rc oA oc gs) {g : Nat} (hx : (Value.slice rA k rc).ownBlock = some g ∨ (Value.slice oA k oc).ownBlock = some g ∨ g = bp) {o : Obj} (ho : W.heap[g]? = some o) : o.isCells = true := by
 rcases hx with hx | hx | hx
 ·obtain ⟨o',h1,h2⟩ := own_isc h.own1 hx
  rw [ho] at h1;cases h1;exact h2
 ·obtain ⟨o',h1,h2⟩ := own_isc h.own2 hx
  rw [ho] at h1;cases h1;exact h2
 ·rw [hx] at ho;exact h.box.isc ho
end
end Go.Proofs.YtjcpjhlclpdpjaaGreat
namespace Go.Proofs.YtjcpjhlclpdpjaaGreat
open Go.RowKit
attribute [local go_sem] Oper.semAt_some
theorem Tch.over {ex ex2 : Nat → Prop} {a b c : World} (h : Tch ex a b) (k : Tch ex2 b c) (hx : ∀ g,ex2 g → a.heap.size ≤ g ∨ ex g) : Tch ex a c :=
 ⟨k.os.trans h.os,k.tape.trans h.tape,k.output.trans h.output,Nat.le_trans h.size k.size,fun i hi hx' => (k.block i (by have := h.size;omega) (fun e => by
  rcases hx i e with h1 | h1
  ·omega
  ·exact hx' h1)).trans (h.block i hi hx')⟩
theorem TT.base {B B' bp N : Nat} {P : List Int} {W : World} {k : Nat} {rA : Option Addr} {rc : Nat} {oA : Option Addr} {oc : Nat} {gs : List Nat} (h : TT B bp N P W k rA rc oA oc gs) (hB : B' ≤ B) : TT B' bp N P W k rA rc oA oc gs :=
 ⟨h.box,own_mono hB h.own1,own_mono hB h.own2,h.dis,h.gl,h.row,h.blk⟩
theorem cell_isc {W : World} {p : Addr} {v : Value} (h : W.cell? p = some v) : ∃ o,W.heap[p.block]? = some o ∧ o.isCells = true := by
 unfold World.cell? at h
 split at h
 ·rename_i cs ty hq
  exact ⟨_,hq,rfl⟩
 ·cases h
theorem TT.cells {B bp N : Nat} {P : List Int} {W W' : World} {k : Nat} {rA : Option Addr} {rc : Nat} {oA : Option Addr} {oc : Nat} {gs : List Nat} (h : TT B bp N P W k rA rc oA oc gs) (hs : W.heap.size ≤ W'.heap.size) (hc : ∀ (k : Nat) (o : Obj),W.heap[k]? = some o → o.isCells = true → W'.heap[k]? = some o) : TT B bp N P W' k rA rc oA oc gs := by
 have own : ∀ {b : Nat} {e : TypeId} {sz : Nat} {v : Value} {m : Nat} {xs : List Value},W.ownsRow b e sz v m xs → W'.ownsRow b e sz v m xs := fun {b e sz v m xs} ho => by
  refine ⟨ho.1,?_⟩
  rcases ho.2 with h2 | ⟨g,cap,cur,e1,e2,e3,e4⟩
  ·exact .inl h2
  ·exact .inr ⟨g,cap,cur,e1,e2,hc _ _ e3 rfl,e4⟩
 refine ⟨hc _ _ h.box rfl,own h.own1,own h.own2,h.dis,h.gl,fun i hi j hj => ?_,fun i hi => ⟨Nat.lt_of_lt_of_le (h.blk i hi).1 hs,(h.blk i hi).2⟩⟩
 have h1 := h.row i hi j hj
 obtain ⟨o,h2,h3⟩ := cell_isc h1
 exact (World.cell?_of_block ((hc _ _ h2 h3).trans h2.symm)).trans h1
def AW (w4 : World) (bw B vb : Nat) (q : Int) (c : Nat) (W : World) : Prop := Tch (fun g => g = bw) w4 W ∧ ∃ G C,Row W bw 23 [.slice (some ⟨G,0,none⟩) (c + 1) C] ∧ Acc W B vb G C c q
section
variable {w4 W W' : World} {bw B vb : Nat} {q : Int} {c : Nat}
theorem AW.grown (h : AW w4 bw B vb q c W) {row : Option Nat} (hg : W.grownBy W' row) (hr : ∀ r,row = some r → w4.heap.size ≤ r ∧ ∃ o : Obj,W.heap[r]? = some o ∧ o.isCells = false) : AW w4 bw B vb q c W' := by
 obtain ⟨h1,G,C,h2,h3⟩ := h
 have hc : ∀ {k : Nat} {o : Obj},W.heap[k]? = some o → o.isCells = true → W'.heap[k]? = W.heap[k]? := fun hk ho => grownBy_keeps_cells hg (fun r e => (hr r e).2) hk ho
 refine ⟨h1.grown hg (fun g e => .inl (hr g e).1),G,C,(hc h2 rfl).trans h2,?_⟩
 rcases h3 with ⟨e1,e2,e3,h4⟩ | ⟨h0,h4⟩
 ·exact .inl ⟨e1,e2,e3,(hc h4 rfl).trans h4⟩
 ·refine .inr ⟨h0,h4.kept hg (.inr fun e => ?_)⟩
  obtain ⟨_,o,ho,hoc⟩ := hr G e.symm
  obtain ⟨o',g1,g2⟩ := own_isc h4 (g := G) rfl
  rw [ho] at g1;cases g1;rw [hoc] at g2;cases g2
theorem AW.step (h : AW w4 bw B vb q c W) (hb : bw < B) (hB : B = w4.heap.size) {o : Obj} {w' : World} {G' C' : Nat} (hacc : Acc w' B vb G' C' (c + 1) q) (hG : B ≤ G') (hvb : vb < B)
  (hrow : ∃ row,(W.alloc o).grownBy w' row ∧ ∀ g,row = some g → B ≤ g ∧ g < (W.alloc o).heap.size ∧ ∃ o',(W.alloc o).heap[g]? = some o' ∧ o'.isCells = true) :
  KeepsFrom w4.heap.size W (w'.setCell ⟨bw,0,none⟩ (.slice (some ⟨G',0,none⟩) (c + 1 + 1) C')) ∧ AW w4 bw B vb q (c + 1) (w'.setCell ⟨bw,0,none⟩ (.slice (some ⟨G',0,none⟩) (c + 1 + 1) C')) := by
 obtain ⟨h1,G,C,h2,h3⟩ := h
 obtain ⟨row,hg,hr⟩ := hrow
 have hrw : Row w' bw 23 [.slice (some ⟨G,0,none⟩) (c + 1) C] := (h2.alloc o).grown hg (fun e => by have := (hr _ e.symm).1;omega)
 have ht : Tch (fun g => g = bw ∨ row = some g) W (w'.setCell ⟨bw,0,none⟩ (.slice (some ⟨G',0,none⟩) (c + 1 + 1) C')) := (((Tch.refl (fun g => g = bw ∨ row = some g) W).alloc o).grown hg (fun g e => .inr (.inr e))).set (p := ⟨bw,0,none⟩) (.inr (.inl rfl)) _
 refine ⟨(ht.keepsFrom fun k hk o' ho' => ?_),((h1.alloc o).grown hg (fun g e => .inl (by have := (hr g e).1;omega))).set (p := ⟨bw,0,none⟩) (.inr rfl) _,G',C',hrw.put 0 _,?_⟩
 ·rcases hk with rfl | hk
  ·exact h2.isc ho'
  ·obtain ⟨_,_,o2,g1,g2⟩ := hr k hk
   rw [Below.heap_alloc W o k (heap_lt ho'),ho'] at g1
   cases g1;exact g2
 ·rcases hacc with ⟨e1,_⟩ | ⟨h0,h4⟩
  ·omega
  ·exact .inr ⟨h0,h4.kept (grown_setC w' ⟨bw,0,none⟩ _) (.inr (fun e => by have e' : G' = bw := (by simpa [Value.ownBlock] using e);omega))⟩
end
theorem treat_gate (g : Gt) (N bp bc bt vb : Nat) (w : World) (h : g.ok w w.heap.size) (hN : g.N = (N : Int)) (hp : Row w bp 71 [.slice none 0 0,.slice none 0 0]) (hc : Row w bc 3 [.int .i64 1]) (ht : Row w bt 97 [(.func (.func 46) #[] #[.pointer (some ⟨bp,0,none⟩),.pointer (some ⟨bc,0,none⟩),.pointer (some ⟨bt,0,none⟩)])]) (hv : Row w vb 3 [.int .i64 1])
  (hd : bp ≠ bc ∧ bp ≠ bt ∧ bp ≠ vb ∧ bc ≠ bt ∧ bc ≠ vb) (hA : ∀ b o,g.A = some ⟨b,o,none⟩ → b ≠ bp ∧ b ≠ bc) :
  Calls Tryz.prog 46 #[g.val,.slice (some ⟨vb,0,none⟩) 1 1,.pointer (some ⟨bp,0,none⟩),.pointer (some ⟨bc,0,none⟩),.pointer (some ⟨bt,0,none⟩)] w fun r w' => r = .returned (.bool true) ∧ ∃ rA rc oA oc gs,TT w.heap.size bp N g.P w' g.P.length rA rc oA oc gs ∧ Row w' bc 3 [.int .i64 (N : Int)] ∧ Tch (fun k => k = bp ∨ k = bc) w w' := by
 have hn0 := h.n0
 have hn1 := h.n1
 have hlen := h.len
 have hleaf := h.leaf
 have hpk := fun k (hk : k < g.P.length) => h.pk hk
 have hgA := hA
 obtain ⟨gN,gA,gc,P⟩ := g
 change 1 ≤ gN at hn0
 change gN ≤ 64 at hn1
 change P.length ≤ 64 at hlen
 change gN = _ at hN
 subst hN
 change 0 < P.length → ∃ b o,gA = some ⟨b,o,none⟩ ∧ ∀ k,k < P.length → ∀ W,Below w.heap.size w W → W.cell? ⟨b,o + k * 3,none⟩ = some (.int .i64 (P.getD k 0)) ∧ W.cell? ⟨b,o + k * 3 + 1,none⟩ = some (.int .i64 0) ∧ W.cell? ⟨b,o + k * 3 + 2,none⟩ = some (.slice none 0 0) at hleaf
 change ∀ k,k < P.length → 0 ≤ P.getD k 0 ∧ P.getD k 0 < 64 at hpk
 change ∀ b o,gA = some ⟨b,o,none⟩ → b ≠ bp ∧ b ≠ bc at hgA
 have hrdA : 0 < P.length → ∀ b o,gA = some ⟨b,o,none⟩ → b < w.heap.size := fun h0 b o e => by
  obtain ⟨b',o',e1,hb',_⟩ := h.rd.2 h0
  have e1 : gA = _ := e1
  rw [e] at e1;cases e1;exact hb'
 clear h hA
 obtain ⟨s,hs⟩ : ∃ s,w.heap.size = s := ⟨_,rfl⟩
 obtain ⟨n,hnn⟩ : ∃ n,P.length = n := ⟨_,rfl⟩
 show Calls _ _ #[.agg #[.int .i64 (-1),.int .i64 (N : Int),.slice gA P.length gc],_,_,_,_] _ fun r w' => _ ∧ ∃ rA rc oA oc gs,TT w.heap.size bp N P w' P.length rA rc oA oc gs ∧ _
 rw [hnn] at hlen hleaf hpk hrdA ⊢
 have HLEAF : Hid (0 < n → ∃ b o,gA = some ⟨b,o,none⟩ ∧ ∀ k,k < n → ∀ W,Tch (fun k => k = bp ∨ k = bc) w W → W.cell? ⟨b,o + k * 3,none⟩ = some (.int .i64 (P.getD k 0)) ∧ W.cell? ⟨b,o + k * 3 + 1,none⟩ = some (.int .i64 0) ∧ W.cell? ⟨b,o + k * 3 + 2,none⟩ = some (.slice none 0 0)) := fun h0 => by
  obtain ⟨b,o,e1,hc⟩ := hleaf h0
  refine ⟨b,o,e1,fun k hk W hW => ?_⟩
  obtain ⟨c1,c2,c3⟩ := hc k hk w (Below.refl _ _)
  have hb := hrdA h0 b o e1
  have hx : ¬ (b = bp ∨ b = bc) := fun hx => by have := hgA b o e1;rcases hx with hx | hx;exact this.1 hx;exact this.2 hx
  exact ⟨(hW.cell (p := ⟨b,o + k * 3,none⟩) hb hx).trans c1,(hW.cell (p := ⟨b,o + k * 3 + 1,none⟩) hb hx).trans c2,(hW.cell (p := ⟨b,o + k * 3 + 2,none⟩) hb hx).trans c3⟩
 have HPK := Lib.hid hpk
 have HD := Lib.hid hd
 have HBL : Hid (bp < s ∧ bc < s ∧ bt < s ∧ vb < s) := by have h1 := hp.lt;have h2 := hc.lt;have h3 := ht.lt;have h4 := hv.lt;rw [hs] at h1 h2 h3 h4;exact ⟨h1,h2,h3,h4⟩
 have HV := Lib.hid (And.intro hv ht)
 have c1 := hc.cell (i := 0) rfl
 have f1 := hc.fz 0
 have HS := Lib.hid hs
 have HNN := Lib.hid hnn
 have HP := Lib.hid (And.intro hp hc)
 clear hleaf hrdA hgA hd hp hc ht hv hs hpk hnn
 have k0 : decide ((64 : Int) < 1 + ((N : Int) - 1)) = false := decide_eq_false (by omega)
 rw [HS.out]
 have hbcs : bc < w.heap.size := by rw [HS.out];exact HBL.out.2.1
 refine (callsIn_wide (n := 9)).1 ?_
 refine callsIn_of_wp_marks Tryz.func46 rfl trivial ?_ rfl
 simp only [Tryz.ntmps46,List.size_toArray,List.length_cons,List.length_nil,Nat.reduceAdd,Nat.reduceSub,Array.replicate_succ,Array.replicate_zero,List.push_toArray,List.append_toArray,List.nil_append,List.cons_append]
 gi_wp2_with (refine wpListIn_append_none rfl (.tmp 42) (.tmp 46) rfl (p := ⟨vb,0,none⟩) (l := 1) (c := 1) (by rfl) (by rfl) (Nat.le_refl _) ?_)
 obtain ⟨w1,hw1⟩ : ∃ x,(w.setCell ⟨bc,0,none⟩ (.int .i64 (1 + ((N : Int) - 1)))).alloc (.cells #[.int .i64 (-1),.int .i64 (N : Int),.slice gA n gc] 68) = x := ⟨_,rfl⟩
 have hsz0 : (w.setCell ⟨bc,0,none⟩ (.int .i64 (1 + ((N : Int) - 1)))).heap.size = s := by rw [World.size_setCell,HS.out]
 have ht1 : Tch (fun k => k = bp ∨ k = bc) w w1 := by rw [← hw1];exact ((Tch.refl (fun k => k = bp ∨ k = bc) w).set (p := ⟨bc,0,none⟩) (.inr (.inr rfl)) _).alloc _
 have hTT1 : TT (s + 1) bp N P w1 0 none 0 none 0 [] := by
  refine ⟨?_,World.ownsRow_nil _ _ _ _,World.ownsRow_nil _ _ _ _,fun g hg => (by cases hg),rfl,fun i hi => absurd hi (by omega),fun i hi => absurd hi (by omega)⟩
  rw [← hw1]
  exact (HP.out.1.away (p := ⟨bc,0,none⟩) HD.out.1 _).alloc _
 have hg1 : Row w1 s 68 [.int .i64 (-1),.int .i64 (N : Int),.slice gA n gc] := by rw [← hw1];exact Row.fresh' _ _ _ hsz0
 have hc1 : Row w1 bc 3 [.int .i64 (N : Int)] := by
  rw [← hw1]
  have := HP.out.2.put 0 (.int .i64 (1 + ((N : Int) - 1)))
  rw [show (1 + ((N : Int) - 1)) = (N : Int) by omega] at this ⊢
  exact this.alloc _
 have hv1 : Row w1 vb 3 [.int .i64 1] := by rw [← hw1];exact (HV.out.1.away (p := ⟨bc,0,none⟩) HD.out.2.2.2.2.symm _).alloc _
 have htt1 : Row w1 bt 97 [(.func (.func 46) #[] #[.pointer (some ⟨bp,0,none⟩),.pointer (some ⟨bc,0,none⟩),.pointer (some ⟨bt,0,none⟩)])] := by rw [← hw1];exact (HV.out.2.away (p := ⟨bc,0,none⟩) HD.out.2.2.2.1.symm _).alloc _
 have hsz1 : w1.heap.size = s + 1 := by rw [← hw1,World.size_alloc,hsz0]
 rw [hw1,HS.out]
 have HT1 := Lib.hid ht1
 have HTT1 := Lib.hid hTT1
 have HW1 := Lib.hid (And.intro hg1 (And.intro hc1 (And.intro hv1 (And.intro htt1 hsz1))))
 clear ht1 hTT1 hg1 hc1 hv1 htt1 hsz1 hsz0 hw1 HP HV c1 f1 k0
 obtain ⟨J,hJ⟩ : ∃ J : Nat → Act → World → Prop,J = fun m a' W => ∃ (k : Nat) (rA : Option Addr) (rc : Nat) (oA : Option Addr) (oc : Nat) (gs : List Nat),k ≤ n ∧ m = n - k ∧ a'.tmps.size = 82 ∧ a'.tmps.getD 2 undef = .pointer (some ⟨bp,0,none⟩) ∧ a'.tmps.getD 4 undef = .pointer (some ⟨bt,0,none⟩) ∧ a'.tmps.getD 5 undef = .pointer (some ⟨s,0,none⟩) ∧
  a'.tmps.getD 8 undef = .int .i64 1 ∧ a'.tmps.getD 9 undef = .slice (some ⟨vb,0,none⟩) 1 1 ∧ a'.tmps.getD 49 undef = .slice gA n gc ∧ a'.tmps.getD 50 undef = .int .i64 (n : Int) ∧ a'.tmps.getD 51 undef = .int .i64 (k : Int) ∧
  Marks (s + 1) W.heap.size a'.defers W ∧ TT (s + 1) bp N P W k rA rc oA oc gs ∧ Tch (fun g => g = bp) w1 W := ⟨_,rfl⟩
 refine wpIn_loop_ghostU J ?_ ?_
 ·rw [hJ]
  exact ⟨_,0,none,0,none,0,[],Nat.zero_le _,rfl,rfl,rfl,rfl,rfl,rfl,rfl,rfl,rfl,rfl,Marks.nil _ _ _,HTT1.out,Tch.refl _ _⟩
 ·clear HTT1
  have HJ := Lib.hid hJ
  intro m a' wr hinv
  rw [hJ] at hinv
  clear hJ
  obtain ⟨k,rA,rc,oA,oc,gs,hk,hm,h82,e2,e4,e5,e8,e9,e49,e50,e51,hmk,hTT,htc⟩ := hinv
  obtain ⟨TA,ds⟩ := a'
  dsimp only at h82 e2 e4 e5 e8 e9 e49 e50 e51 hmk
  obtain ⟨v2,hTA,hv⟩ := arr_fun TA 82 h82
  have e' : ((List.range 82).map v2).toArray = #[v2 0,v2 1,v2 2,v2 3,v2 4,v2 5,v2 6,v2 7,v2 8,v2 9,v2 10,v2 11,v2 12,v2 13,v2 14,v2 15,v2 16,v2 17,v2 18,v2 19,v2 20,v2 21,v2 22,v2 23,v2 24,v2 25,v2 26,v2 27,v2 28,v2 29,v2 30,v2 31,v2 32,v2 33,v2 34,v2 35,v2 36,v2 37,v2 38,v2 39,v2 40,v2 41,v2 42,v2 43,v2 44,v2 45,v2 46,v2 47,v2 48,v2 49,v2 50,v2 51,v2 52,v2 53,v2 54,v2 55,v2 56,v2 57,v2 58,v2 59,v2 60,v2 61,v2 62,v2 63,v2 64,v2 65,v2 66,v2 67,v2 68,v2 69,v2 70,v2 71,v2 72,v2 73,v2 74,v2 75,v2 76,v2 77,v2 78,v2 79,v2 80,v2 81] := rfl
  rw [show v2 2 = _ from (hv 2).symm.trans e2,show v2 4 = _ from (hv 4).symm.trans e4,show v2 5 = _ from (hv 5).symm.trans e5,show v2 8 = _ from (hv 8).symm.trans e8,show v2 9 = _ from (hv 9).symm.trans e9,show v2 49 = _ from (hv 49).symm.trans e49,show v2 50 = _ from (hv 50).symm.trans e50,show v2 51 = _ from (hv 51).symm.trans e51] at e'
  rw [hTA,e']
  have HTTk := Lib.hid hTT
  have HTC := Lib.hid htc
  have HMK := Lib.hid hmk
  have HM := Lib.hid hm
  clear hTA hv e' e2 e4 e5 e8 e9 e49 e50 e51 h82 hTT htc hmk hm
  by_cases hlt : k < n
  ·have k1 : (k : Int) < (n : Int) := by omega
   have k0 : (0 : Int) ≤ (k : Int) := by omega
   obtain ⟨b,o,hA1,hcc⟩ := HLEAF.out (by omega)
   subst hA1
   obtain ⟨d0,d1,d2⟩ := hcc k hlt wr (HT1.out.trans (HTC.out.mono (fun g _ e => .inl e)))
   obtain ⟨p,hp⟩ : ∃ x,P.getD k 0 = x := ⟨_,rfl⟩
   rw [hp] at d0
   have HPP0 := Lib.hid hp
   have hsw : s < wr.heap.size := by have h1 := HTC.out.size;have h2 := HW1.out.2.2.2.2;omega
   have hgw := HTC.out.row HW1.out.1 (show ¬ (s = bp) by have := HBL.out.1;omega)
   have c5 := hgw.cell (i := 1) rfl
   have HSW := Lib.hid hsw
   clear hcc hp hgw
   gi_wp2_with (refine ⟨trivial,?_⟩;gi_at_call 47;refine (callsIn_wide.2 (powers_any _ _ _)).mono ?_;rintro e w4 ⟨rfl,hw4⟩)
   obtain ⟨z,hz⟩ : ∃ x,wr.heap.size = x := ⟨_,rfl⟩
   obtain ⟨q,hq⟩ : ∃ x,k + 1 = x := ⟨_,rfl⟩
   obtain ⟨m1,hm1⟩ : ∃ x,N - 1 = x := ⟨_,rfl⟩
   rw [show (k : Int) + 1 = (q : Int) by omega,show (N : Int) - 1 = (m1 : Int) by omega] at hw4
   have hb4 : Below wr.heap.size wr w4 := by rw [← hw4];exact ((((Below.refl _ _).alloc (Nat.le_refl _) _).alloc (by simp) _).alloc (by simp;omega) _).alloc (by simp;omega) _
   have hr11 : Row w4 z 68 [.int .i64 p,.int .i64 0,.slice none 0 0] := by rw [← hw4];exact (((Row.fresh' _ _ _ hz).alloc _).alloc _).alloc _
   have hr12 : Row w4 (z + 1) 23 [.slice (some ⟨vb,0,none⟩) 1 1] := by rw [← hw4];exact ((Row.fresh' _ _ _ (by simp [hz])).alloc _).alloc _
   have hsn : Row w4 (z + 1 + 1) 3 [.int .i64 (q : Int)] := by rw [← hw4];exact (Row.fresh' _ _ _ (by simp [hz])).alloc _
   have hsm : Row w4 (z + 1 + 1 + 1) 3 [.int .i64 (m1 : Int)] := by rw [← hw4];exact Row.fresh' _ _ _ (by simp [hz])
   have hz4 : w4.heap.size = z + 1 + 1 + 1 + 1 := by rw [← hw4];simp [hz]
   have htcw := HTC.out.next hb4
   have hTT4 := HTTk.out.next hb4
   have hMK4 := HMK.out.keep hb4
   rw [hz] at hMK4 hb4
   have hs1 := HW1.out.2.2.2.2
   have hsz := HTC.out.size
   have hv4 : Row w4 vb 3 [.int .i64 1] := htcw.row HW1.out.2.2.1 (fun e => HD.out.2.2.1 e.symm)
   have ht4 : Row w4 bt 97 [(.func (.func 46) #[] #[.pointer (some ⟨bp,0,none⟩),.pointer (some ⟨bc,0,none⟩),.pointer (some ⟨bt,0,none⟩)])] := htcw.row HW1.out.2.2.2.1 (fun e => HD.out.2.1 e.symm)
   have hvs := HBL.out
   rw [hz]
   clear hw4 d0 d1 d2 c5
   refine wpIn_range_hands (F := Fence.wide) (σ := Nat) rfl (by omega) (gf := 68) (lb := #[.pointer (some ⟨z + 1 + 1 + 1,0,none⟩),.pointer (some ⟨z + 1 + 1,0,none⟩)]) (by rfl) trivial (enters_of Tryz.func68 (by kernel_rfl) rfl)
    (fun (c : Nat) W => AW w4 (z + 1) (z + 1 + 1 + 1 + 1) vb (q : Int) c W) (fun _ (_ : Nat) W => False)
    (fun (c : Nat) vs c' _ => c' = c + 1 ∧ c < m1 ∧ vs = #[.int .i64 (Gs.pwr (q : Int) (c + 1))]) 0 (fun (c : Nat) => c = m1) w4 (Below.refl _ _) ?hsq
    ?oi (fun _ _ _ _ _ h _ _ => h) ⟨Tch.refl _ _,vb,1,hr12,.inl ⟨rfl,rfl,rfl,hv4⟩⟩ (fun _ _ _ _ h => by rw [h.2.2];rfl)
    (fun (c : Nat) a' W => (∃ j : Nat,c = j + 1 ∧ j < m1 ∧ a'.tmps.getD 13 undef = .int .i64 (Gs.pwr (q : Int) (j + 1)) ∧ AW w4 (z + 1) (z + 1 + 1 + 1 + 1) vb (q : Int) j W) ∧ a'.tmps.size = 82 ∧ a'.tmps.getD 12 undef = .pointer (some ⟨z + 1,0,none⟩) ∧ a'.defers = []) ?oa ?assign ?body ?done ?stop
   case hsq =>
    refine powers1_hands q m1 _ _ (by omega) w4 _ ?_
    rintro c W ⟨q1,_⟩
    exact ⟨q1.row hsn (by omega),q1.row hsm (by omega)⟩
   case oi =>
    rintro c W W' row h hg hr
    exact AW.grown h hg hr
   case oa =>
    rintro c a' _ W W' row ⟨⟨j,p1,p2,p3,p4⟩,q7⟩ hg hr
    exact ⟨⟨j,p1,p2,p3,AW.grown p4 hg hr⟩,q7⟩
   case assign =>
    rintro l c vs c' W K hI ⟨rfl,hc,rfl⟩ hK
    obtain ⟨X,hX⟩ : ∃ x,Gs.pwr (q : Int) (c + 1) = x := ⟨_,rfl⟩
    have HK := Lib.hid hK
    have HX := Lib.hid hX
    rw [hX,show ∀ (a : Value),(#[66] : Array Tmp).zip #[a] = #[(66,a)] from fun a => by simp]
    clear hK hX
    gi_wp2
    exact HK.out _ _ (KeepsFrom.refl _ _) ⟨⟨c,rfl,hc,by rw [HX.out];rfl,hI⟩,by rfl,by rfl,by rfl⟩
   case body =>
    rintro l c a' W hl ⟨⟨j,rfl,hj,e13,hI⟩,h82,e12,hdf⟩
    obtain ⟨T2,ds2⟩ := a'
    dsimp only at h82 e12 e13 hdf
    subst hdf
    obtain ⟨v3,hT,hv⟩ := arr_fun T2 82 h82
    have e' : ((List.range 82).map v3).toArray = #[v3 0,v3 1,v3 2,v3 3,v3 4,v3 5,v3 6,v3 7,v3 8,v3 9,v3 10,v3 11,v3 12,v3 13,v3 14,v3 15,v3 16,v3 17,v3 18,v3 19,v3 20,v3 21,v3 22,v3 23,v3 24,v3 25,v3 26,v3 27,v3 28,v3 29,v3 30,v3 31,v3 32,v3 33,v3 34,v3 35,v3 36,v3 37,v3 38,v3 39,v3 40,v3 41,v3 42,v3 43,v3 44,v3 45,v3 46,v3 47,v3 48,v3 49,v3 50,v3 51,v3 52,v3 53,v3 54,v3 55,v3 56,v3 57,v3 58,v3 59,v3 60,v3 61,v3 62,v3 63,v3 64,v3 65,v3 66,v3 67,v3 68,v3 69,v3 70,v3 71,v3 72,v3 73,v3 74,v3 75,v3 76,v3 77,v3 78,v3 79,v3 80,v3 81] := rfl
    rw [show v3 12 = _ from (hv 12).symm.trans e12,show v3 13 = _ from (hv 13).symm.trans e13] at e'
    rw [hT,e']
    clear hT hv e' e12 e13 h82
    have HI := Lib.hid hI
    obtain ⟨h1,G,C,h2,h3⟩ := hI
    have c0 := h2.cell (i := 0) rfl
    have hlw := h2.lt
    obtain ⟨X,hX⟩ : ∃ x,Gs.pwr (q : Int) (j + 1) = x := ⟨_,rfl⟩
    have HX := Lib.hid hX
    have hzw : z + 1 + 1 + 1 + 1 ≤ W.heap.size := by have := h1.size;omega
    have HA3 : Hid (Acc (W.alloc (.cells #[.int .i64 X] 3)) (z + 1 + 1 + 1 + 1) vb G C j (q : Int)) := by
     rcases h3 with ⟨e1,e2,e3,h4⟩ | ⟨h0,h4⟩
     ·exact .inl ⟨e1,e2,e3,h4.alloc _⟩
     ·exact .inr ⟨h0,h4.alloc _⟩
    have HF : Hid (∀ w',(∃ row,(W.alloc (.cells #[.int .i64 X] 3)).grownBy w' row ∧ ∀ g,row = some g → z + 1 + 1 + 1 + 1 ≤ g ∧ g < (W.alloc (.cells #[.int .i64 X] 3)).heap.size ∧ ∃ o',(W.alloc (.cells #[.int .i64 X] 3)).heap[g]? = some o' ∧ o'.isCells = true) → Row w' (z + 1) 23 [.slice (some ⟨G,0,none⟩) (j + 1) C]) := fun w' hr => by
     obtain ⟨row,hg,hr⟩ := hr
     exact (h2.alloc _).grown hg (fun e => by have := (hr _ e.symm).1;omega)
    have hRX : Row (W.alloc (.cells #[.int .i64 X] 3)) W.heap.size 3 [.int .i64 (Gs.pwr (q : Int) (j + 1))] := by rw [hX];exact Row.fresh _ _ _
    have HRX := Lib.hid hRX
    rw [hX]
    clear h1 h2 h3 hX hRX
    gi_wp2_with (refine wpListIn_append_acc rfl (.tmp 67) (.tmp 69) rfl (by rfl) (by rfl) HA3.out (by simp;omega) (by omega) HRX.out ?_;intro G' C' w9 hacc hG hrow;have HAC := Lib.hid (And.intro hacc (And.intro hG hrow));have cb := (HF.out _ hrow).cell (i := 0) rfl;have fb := (HF.out _ hrow).fz 0;clear hacc hG hrow)
    exact HI.out.step (by omega) hz4.symm HAC.out.1 HAC.out.2.1 (by omega) HAC.out.2.2
   case done =>
    rintro D c W hD hcm hI hd
    rw [hcm] at hI
    clear hcm
    obtain ⟨h1,G,C,h2,h3⟩ := hI
    have hG := h3.at
    have hC := h3.cap
    rw [show m1 + 1 = N by omega] at h2 hG hC
    have hx11 := h1.row hr11 (by omega)
    have hxt := h1.row ht4 (by omega)
    have hbW : Below z wr W := Below.tch hb4 h1 (by omega) (by intro i hi e;omega)
    have htW : Tch (fun g => g = bp) w1 W := htcw.over h1 (fun g e => .inl (by omega))
    have hTW := HTTk.out.next (by rw [hz];exact hbW)
    have hMW := (HMK.out.keep (by rw [hz];exact hbW)).cons (D := D) (by omega) (by omega) (heap_lt hd) hd
    have hwz : z + 1 + 1 + 1 + 1 ≤ W.heap.size := by have := h1.size;omega
    have hl1 : ∀ g,(Value.slice rA k rc).ownBlock = some g → s + 1 ≤ g ∧ g < z := fun g hg => by have := HTTk.out.own1.lt g hg;omega
    have hl2 : ∀ g,(Value.slice oA k oc).ownBlock = some g → s + 1 ≤ g ∧ g < z := fun g hg => by have := HTTk.out.own2.lt g hg;omega
    have hGv : G < W.drew.heap.size ∧ G ≠ bp ∧ (Value.slice rA k rc).ownBlock ≠ some G ∧ (Value.slice oA k oc).ownBlock ≠ some G := by
     refine ⟨hG.2.1,?_,fun e => ?_,fun e => ?_⟩
     ·rcases hG.1 with e | e
      ·rw [e];exact fun e => HD.out.2.2.1 e.symm
      ·omega
     ·have := hl1 _ e;rcases hG.1 with e2 | e2 <;> omega
     ·have := hl2 _ e;rcases hG.1 with e2 | e2 <;> omega
    have hTd := hTW.next (Below.refl _ _).drew
    have hpk := HPK.out k hlt
    rw [HPP0.out] at hpk
    have hPk : P[k]? = some p := by rw [List.getElem?_eq_getElem (by rw [HNN.out];exact hlt),← HPP0.out,List.getD_eq_getElem?_getD,List.getElem?_eq_getElem (by rw [HNN.out];exact hlt)];rfl
    have HLF := Lib.hid (treat_leaf p G N N bp bc bt (s + 1) k rA oA rc oc _ _ W.drew hpk.1 hTd.box hTd.own1 hTd.own2 hTd.dis (by omega) (by show s + 1 ≤ W.heap.size;omega) (by omega))
    have HST : Hid (∀ rA' rc' oA' oc' w',Row w' bp 71 [.slice rA' (k + 1) rc',.slice oA' (k + 1) oc'] → _ → TT (s + 1) bp N P w' (k + 1) rA' rc' oA' oc' (gs ++ [G])) := fun rA' rc' oA' oc' w' q1 q2 => hTd.step hPk q1 q2 hGv (fun j hj => by rw [hq];exact hG.2.2 j hj)
    have HTWd := Lib.hid hTd
    have HMW := Lib.hid (hMW.keep (Below.refl _ W).drew)
    have HXX : Hid (Row W bt 97 [(.func (.func 46) #[] #[.pointer (some ⟨bp,0,none⟩),.pointer (some ⟨bc,0,none⟩),.pointer (some ⟨bt,0,none⟩)])] ∧ Row W z 68 [.int .i64 p,.int .i64 0,.slice none 0 0] ∧ Row W (z + 1) 23 [.slice (some ⟨G,0,none⟩) N C]) := ⟨hxt,hx11,h2⟩
    have HTW1 : Hid (Tch (fun g => g = bp) w1 W.drew) := htW.drew
    have HL := Lib.hid (And.intro hl1 hl2)
    have HZ := Lib.hid (And.intro hz (And.intro hq hm1))
    have HDD := Lib.hid (And.intro hD hd)
    clear h1 h2 h3 hG hx11 hxt hbW htW hTW hMW hGv hTd hpk hPk hr11 hr12 hsn hsm hb4 htcw hTT4 hMK4 hv4 ht4 hd hD hz hq hm1 hl1 hl2
    gi_wp2_with fail
    rename_i Kz hKz
    refine wpIn_region_treeC (fun (_ : Nat) (W' : World) => Row W' bt 97 [(.func (.func 46) #[] #[.pointer (some ⟨bp,0,none⟩),.pointer (some ⟨bc,0,none⟩),.pointer (some ⟨bt,0,none⟩)])] ∧ Row W' z 68 [.int .i64 p,.int .i64 0,.slice none 0 0] ∧ Row W' (z + 1) 23 [.slice (some ⟨G,0,none⟩) N C]) (.take 0 (.take 1 (.take 2 (.take 3 (.take 4 (.take 5 (.take 6 (.take 7 (.one 8 (.take 9 .done)))))))))) (by kernel_rfl) (by kernel_rfl) (by kernel_rfl) (by kernel_rfl) (by kernel_rfl) ?_
    have HS8 : Hid ((fun (_ : Nat) (W' : World) => Row W' bt 97 [(.func (.func 46) #[] #[.pointer (some ⟨bp,0,none⟩),.pointer (some ⟨bc,0,none⟩),.pointer (some ⟨bt,0,none⟩)])] ∧ Row W' z 68 [.int .i64 p,.int .i64 0,.slice none 0 0] ∧ Row W' (z + 1) 23 [.slice (some ⟨G,0,none⟩) N C]) 0 W.drew) := ⟨HXX.out.1.below (Below.refl _ _).drew HXX.out.1.lt,HXX.out.2.1.below (Below.refl _ _).drew HXX.out.2.1.lt,HXX.out.2.2.below (Below.refl _ _).drew HXX.out.2.2.lt⟩
    iterate 8 (refine wpOTC_take rfl _ (by rfl) (fun _ => rfl) (by intro w' hS;have q0 := hS.1.cell (i := 0) rfl;have q1 := hS.2.1.cell (i := 0) rfl;have q2 := hS.2.1.cell (i := 1) rfl;have q3 := hS.2.1.cell (i := 2) rfl;have q4 := hS.2.2.cell (i := 0) rfl;go_simp;try with_reducible rfl) HS8.out fun KK hKK => ?_;go_simp;refine hKK _ ?_;clear hKK KK)
    refine wpOTC_one _ rfl (by rfl) rfl fun KK hKK => ?_
    go_simp
    refine ⟨trivial,(callsIn_wide.2 HLF.out).mono ?_⟩
    rintro e8 w8 ⟨rfl,rA',rc',oA',oc',hbx,hPP⟩
    have hT8 := HST.out _ _ _ _ _ hbx hPP
    have hS8 : (fun (_ : Nat) (W' : World) => Row W' bt 97 [(.func (.func 46) #[] #[.pointer (some ⟨bp,0,none⟩),.pointer (some ⟨bc,0,none⟩),.pointer (some ⟨bt,0,none⟩)])] ∧ Row W' z 68 [.int .i64 p,.int .i64 0,.slice none 0 0] ∧ Row W' (z + 1) 23 [.slice (some ⟨G,0,none⟩) N C]) 0 w8 := by
     refine ⟨hPP.tch.row HS8.out.1 ?_,hPP.tch.row HS8.out.2.1 ?_,hPP.tch.row HS8.out.2.2 ?_⟩
     ·rintro (e | e | e)
      ·have := HL.out.1 _ e;omega
      ·have := HL.out.2 _ e;omega
      ·exact HD.out.2.1 e.symm
     ·rintro (e | e | e)
      ·have := HL.out.1 _ e;omega
      ·have := HL.out.2 _ e;omega
      ·have := HZ.out.1;omega
     ·rintro (e | e | e)
      ·have := HL.out.1 _ e;omega
      ·have := HL.out.2 _ e;omega
      ·have := HZ.out.1;omega
    have hM8 : Marks (s + 1) w8.heap.size ({ target := .collected D,args := #[] } :: ds) w8 := (HMW.out.chgT hPP.tch (fun g hx o ho => HTWd.out.isc hx ho) (Nat.le_refl _)).moreU hPP.tch.size
    have h18 : Tch (fun g => g = bp) w1 w8 := HTW1.out.over hPP.tch (fun g hx => by
     rcases hx with e | e | e
     ·have := HL.out.1 _ e;exact .inl (by omega)
     ·have := HL.out.2 _ e;exact .inl (by omega)
     ·exact .inr e)
    have H8 := Lib.hid (And.intro hT8 (And.intro hM8 h18))
    refine hKK _ _ (fun _ _ => hS8) ?_
    clear hKK KK hPP hbx hT8 hM8 h18
    have HS9 := Lib.hid hS8
    clear hS8
    refine wpOTC_take rfl _ (by rfl) (fun _ => rfl) (by intro w' hS;go_simp;try with_reducible rfl) HS9.out fun KK hKK => ?_
    go_simp
    refine hKK _ ?_
    clear hKK KK
    refine wpOTC_done ?_
    show Kz _ _
    refine hKz _ _ ?_
    go_simp
    gi_wp2_with fail
    rw [HJ.out]
    exact ⟨n - (k + 1),by have := HM.out;omega,k + 1,rA',rc',oA',oc',gs ++ [G],by omega,rfl,rfl,rfl,rfl,rfl,rfl,rfl,rfl,rfl,rfl,H8.out.2.1,H8.out.1,H8.out.2.2⟩
   case stop =>
    rintro D c q W hD h
    exact h.elim
  ·obtain rfl : k = n := by omega
   clear HLEAF HPK
   gi_wp2_with fail
   show LeavesInM _ _ _ _ _ _ _ _ _
   refine leaves_marksU (C := wr.heap.size) _ _ HMK.out fun w' hb' hc' => ?_
   refine ⟨_,results_tmp_1 rfl _ _,rfl,rA,rc,oA,oc,gs,(HTTk.out.cells hb'.size hc').base (by omega),hc' _ _ (HTC.out.row HW1.out.2.1 (fun e => HD.out.1 e.symm)) rfl,?_⟩
   have h1 := HT1.out.trans (HTC.out.mono (fun g _ e => Or.inl (b := g = bc) e))
   exact h1.over (Tch.of_below (ex := fun g => s + 1 ≤ g) hb' (fun k h _ => h)) (fun g h => .inl (by have h2 : s + 1 ≤ g := h;have := HS.out;omega))
end Go.Proofs.YtjcpjhlclpdpjaaGreat
namespace Go.Proofs.YtjcpjhlclpdpjaaGreat
open Go.RowKit
attribute [local go_sem] Oper.semAt_some
theorem TT.same {B bp N : Nat} {P : List Int} {W : World} {k : Nat} {rg rc : Nat} {oA : Option Addr} {oc : Nat} {gs : List Nat} (h : TT B bp N P W k (some ⟨rg,0,none⟩) rc oA oc gs) (hb : bp < B) {i : Nat} (hi : i < k) : TT B bp N P (W.setCell ⟨rg,i,none⟩ (.slice (some ⟨gs.getD i 0,0,none⟩) N N)) k (some ⟨rg,0,none⟩) rc oA oc gs := by
 have h1 := h.own1.stored i (.slice (some ⟨gs.getD i 0,0,none⟩) N N)
 have hge := own_ge h.own1 (by omega)
 have hx : ((gs.map fun g => Value.slice (some ⟨g,0,none⟩) N N).set i (.slice (some ⟨gs.getD i 0,0,none⟩) N N)) = gs.map fun g => Value.slice (some ⟨g,0,none⟩) N N := by
  have hl : i < gs.length := by rw [h.gl];exact hi
  refine List.ext_getElem? fun j => ?_
  rw [List.getElem?_set]
  by_cases e : i = j
  ·subst e
   rw [if_pos rfl,if_pos (by simpa using hl),List.getElem?_map,List.getElem?_eq_getElem hl,List.getD_eq_getElem?_getD,List.getElem?_eq_getElem hl]
   rfl
  ·rw [if_neg e]
 refine ⟨h.box.away (p := ⟨rg,i,none⟩) (by show bp ≠ rg;omega) _,?_,h.own2.kept (grown_setC W ⟨rg,i,none⟩ _) (by cases ho : (Value.slice oA k oc).ownBlock with | none => exact .inl rfl | some g => exact .inr (fun e => by have e' : g = rg := Option.some.inj e;subst e';exact h.dis _ rfl ho)),h.dis,h.gl,fun q hq j hj => ?_,fun q hq => by rw [World.size_setCell];exact h.blk q hq⟩
 ·have h2 := h1.1
  rw [hx] at h2
  exact h2
 ·rw [World.cell?_setCell_other _ _ _ _ (by intro e;injection e with e _;exact (h.blk q hq).2.2.1 (by rw [e];rfl))]
  exact h.row q hq j hj
theorem TT.bput {B bp N : Nat} {P : List Int} {W : World} {k : Nat} {rA : Option Addr} {rc : Nat} {oA : Option Addr} {oc : Nat} {gs : List Nat} (h : TT B bp N P W k rA rc oA oc gs) (hb : bp < B) (i : Nat) (v : Value) (hv : [Value.slice rA k rc,.slice oA k oc].set i v = [Value.slice rA k rc,.slice oA k oc]) : TT B bp N P (W.setCell ⟨bp,i,none⟩ v) k rA rc oA oc gs := by
 have h1 := h.box.put i v
 rw [hv] at h1
 have ne : ∀ {e : TypeId} {u : Value} {n : Nat} {xs : List Value},W.ownsRow B e 1 u n xs → u.ownBlock = none ∨ u.ownBlock ≠ some bp := fun {e u n xs} ho => by
  cases hu : u.ownBlock with
  | none => exact .inl rfl
  | some g => exact .inr (fun e => by have := (ho.lt g hu).1;cases e;omega)
 refine ⟨h1,h.own1.kept (grown_setC W ⟨bp,i,none⟩ v) (ne h.own1),h.own2.kept (grown_setC W ⟨bp,i,none⟩ v) (ne h.own2),h.dis,h.gl,fun q hq j hj => ?_,fun q hq => by rw [World.size_setCell];exact h.blk q hq⟩
 rw [World.cell?_setCell_other _ _ _ _ (by intro e;injection e with e _;exact (h.blk q hq).2.1 e.symm)]
 exact h.row q hq j hj
theorem results_agg_tmp {fn : Func} {p q : Tmp} (h : fn.results = #[.cell p 71,.tmp q]) (tmps : Array Value) (w : World) (g : Nat) {v0 v1 : Value}
  (hp : tmps.getD p undef = .pointer (some ⟨g,0,none⟩)) (h0 : w.cell? ⟨g,0,none⟩ = some v0) (h1 : w.cell? ⟨g,1,none⟩ = some v1) : (results fn tmps).run Tryz.prog w = .ok (.tuple #[.agg #[v0,v1],tmps.getD q undef]) w := by
 have hp' : tmps[p]?.getD undef = .pointer (some ⟨g,0,none⟩) := by simpa using hp
 have ha : (isAgg 71).run Tryz.prog w = .ok true w := by kernel_rfl
 have hl : (loadVar 71 ⟨g,0,none⟩).run Tryz.prog w = .ok (.agg #[v0,v1]) w := by
  obtain ⟨ii,hii,hzz⟩ := Option.map_eq_some_iff.1 (show (Tryz.prog.info? 71).map (fun i => i.size) = some 2 by kernel_rfl)
  simp [loadVar,ha,sizeOf,typeInfo,hii,hzz,go_sem,h0,h1]
 simp [results,h,hp',asAddr,hl]
theorem exec_append_none {o : Oper} {a : Act} (x y : Operand) (ho : o.op = .call { callee := .builtin .append,args := #[x,y],argTypes := #[23,3] }) {p : Addr} {l c : Nat} (hx : a.eval x = .slice (some p) l c) (hy : a.eval y = .int .i64 0) (hlc : l ≤ c) (w : World) : (execOp a.eval o).run Tryz.prog w = .ok (.value (.slice (some p) l c)) w := by
 have hrun := append_none p l c o.type hlc w
 simp [execOp,ho,resolve,invoke,builtin,hx,hy,hrun,Result.andThen]
def prow (N i : Nat) : List Int := (List.range N).map fun j => Gs.pwr ((i + 1 : Nat) : Int) j
structure Prg (W : World) (B N : Nat) (P : List Int) (RA : Option Addr) (rc : Nat) (OA : Option Addr) (oc : Nat) (rs : List RI) : Prop where
 rd : RdM W B RA rs
 len : rs.length = P.length
 dat : ∀ i,i < P.length → (rs.getD i r0).d = prow N i
 own : Rd W B 1 OA P.length (ivs P)
theorem Prg.below {W W' : World} {B N : Nat} {P : List Int} {RA : Option Addr} {rc : Nat} {OA : Option Addr} {oc : Nat} {rs : List RI} (h : Prg W B N P RA rc OA oc rs) (hb : Below B W W') : Prg W' B N P RA rc OA oc rs := ⟨h.rd.below hb,h.len,h.dat,h.own.below hb⟩
theorem Prg.more {W : World} {B B' N : Nat} {P : List Int} {RA : Option Addr} {rc : Nat} {OA : Option Addr} {oc : Nat} {rs : List RI} (h : Prg W B N P RA rc OA oc rs) (hB : B ≤ B') : Prg W B' N P RA rc OA oc rs := ⟨h.rd.more hB,h.len,h.dat,h.own.more hB⟩
theorem TT.prg {B bp N : Nat} {P : List Int} {W : World} {rA : Option Addr} {rc : Nat} {oA : Option Addr} {oc : Nat} {gs : List Nat} (h : TT B bp N P W P.length rA rc oA oc gs) (hN : N ≤ 4096) : Prg W W.heap.size N P rA rc oA oc (gs.zipIdx.map fun x => ⟨some ⟨x.1,0,none⟩,N,prow N x.2⟩) := by
 have hl : (gs.zipIdx.map fun x => (⟨some ⟨x.1,0,none⟩,N,prow N x.2⟩ : RI)).length = P.length := by rw [List.length_map,List.length_zipIdx,h.gl]
 have hg : ∀ i,i < P.length → (gs.zipIdx.map fun x => (⟨some ⟨x.1,0,none⟩,N,prow N x.2⟩ : RI))[i]? = some ⟨some ⟨gs.getD i 0,0,none⟩,N,prow N i⟩ := fun i hi => by
  have hi' : i < gs.length := by rw [h.gl];exact hi
  rw [List.getElem?_map,List.getElem?_zipIdx,List.getElem?_eq_getElem hi',List.getD_eq_getElem?_getD,List.getElem?_eq_getElem hi']
  simp
 have hpl : ∀ i,(prow N i).length = N := fun i => by simp [prow]
 have hm : (gs.zipIdx.map fun x => (⟨some ⟨x.1,0,none⟩,N,prow N x.2⟩ : RI)).map RI.cell = gs.map fun g => Value.slice (some ⟨g,0,none⟩) N N := by
  refine List.ext_getElem? fun i => ?_
  by_cases hi : i < P.length
  ·have hi' : i < gs.length := by rw [h.gl];exact hi
   rw [List.getElem?_map,hg i hi,List.getElem?_map,List.getElem?_eq_getElem hi',List.getD_eq_getElem?_getD,List.getElem?_eq_getElem hi']
   simp [RI.cell_eq,hpl]
  ·rw [List.getElem?_eq_none (by rw [List.length_map,hl];omega),List.getElem?_eq_none (by rw [List.length_map,h.gl];omega)]
 refine ⟨⟨?_,fun r hr => ?_⟩,hl,fun i hi => ?_,?_⟩
 ·rw [hm,hl]
  exact Rd.of_own h.own1
 ·obtain ⟨i,hi,rfl⟩ := List.mem_iff_getElem.1 hr
  have hi2 : i < P.length := by rw [hl] at hi;exact hi
  have e := hg i hi2
  rw [List.getElem?_eq_getElem hi] at e
  rw [Option.some.inj e]
  refine ⟨⟨by simp [hpl],fun h0 => ⟨gs.getD i 0,0,rfl,(h.blk i hi2).1,fun j u hu => ?_⟩⟩,by show (prow N i).length ≤ N ∧ _;rw [hpl];exact ⟨Nat.le_refl _,by show N ≤ maxLen;unfold maxLen;omega⟩⟩
  rw [Nat.zero_add]
  have hj : j < N := by
   have := (List.getElem?_eq_some_iff.1 hu).1
   simpa [hpl] using this
  rw [h.row i hi2 j hj]
  rw [List.getElem?_map] at hu
  simpa [prow,hj] using hu
 ·rw [List.getD_eq_getElem?_getD,hg i hi];rfl
 ·have := Rd.of_own h.own2
  rwa [List.take_length] at this
theorem make_any (g : Gt) (N : Nat) (w : World) (h : g.ok w w.heap.size) (hN : g.N = (N : Int)) (h0 : 0 < g.P.length) :
  Calls Tryz.prog 25 #[g.val] w fun r w' => ∃ RA rc OA oc rs,r = .returned (.tuple #[.agg #[.slice RA g.P.length rc,.slice OA g.P.length oc],.int .i64 0]) ∧ Prg w' w'.heap.size N g.P RA rc OA oc rs ∧ Below w.heap.size w w' := by
 obtain ⟨s,hs⟩ : ∃ s,w.heap.size = s := ⟨_,rfl⟩
 have HFC : Hid (∀ W,Below s w W → Calls Tryz.prog 45 #[g.val] W fun r w' => r = .returned (.int .i64 0) ∧ Below W.heap.size W w') := fun W hW => fcheck_any g W ((h.below (by rw [hs];exact hW)).more (by have := hW.size;omega))
 have HTG : Hid (∀ W bp bc bt vb,Below s w W → Row W bp 71 [.slice none 0 0,.slice none 0 0] → Row W bc 3 [.int .i64 1] → Row W bt 97 [.func (.func 46) #[] #[.pointer (some ⟨bp,0,none⟩),.pointer (some ⟨bc,0,none⟩),.pointer (some ⟨bt,0,none⟩)]] → Row W vb 3 [.int .i64 1] → bp ≠ bc ∧ bp ≠ bt ∧ bp ≠ vb ∧ bc ≠ bt ∧ bc ≠ vb → s ≤ bp → s ≤ bc → Calls Tryz.prog 46 #[g.val,.slice (some ⟨vb,0,none⟩) 1 1,.pointer (some ⟨bp,0,none⟩),.pointer (some ⟨bc,0,none⟩),.pointer (some ⟨bt,0,none⟩)] W fun r w' => r = .returned (.bool true) ∧ ∃ rA rc oA oc gs,TT W.heap.size bp N g.P w' g.P.length rA rc oA oc gs ∧ Row w' bc 3 [.int .i64 (N : Int)] ∧ Tch (fun k => k = bp ∨ k = bc) W w') := fun W bp bc bt vb hW q1 q2 q3 q4 q5 q6 q7 =>
  treat_gate g N bp bc bt vb W ((h.below (by rw [hs];exact hW)).more (by have := hW.size;omega)) hN q1 q2 q3 q4 q5 (fun b o e => by
   obtain ⟨b',o',e1,hb',_⟩ := h.rd.2 h0
   rw [e] at e1;cases e1
   omega)
 have hn1 := h.n1
 have hlen := h.len
 obtain ⟨gN,gA,gc,P⟩ := g
 change gN = _ at hN
 subst hN
 change (N : Int) ≤ 64 at hn1
 change P.length ≤ 64 at hlen
 change 0 < P.length at h0
 clear h
 obtain ⟨n,hnn⟩ : ∃ n,P.length = n := ⟨_,rfl⟩
 show Calls _ _ #[.agg #[.int .i64 (-1),.int .i64 (N : Int),.slice gA P.length gc]] _ fun r w' => ∃ RA rc OA oc rs,r = .returned (.tuple #[.agg #[.slice RA P.length rc,.slice OA P.length oc],.int .i64 0]) ∧ Prg w' w'.heap.size N P RA rc OA oc rs ∧ Below w.heap.size w w'
 change Hid (∀ W,Below s w W → Calls Tryz.prog 45 #[.agg #[.int .i64 (-1),.int .i64 (N : Int),.slice gA P.length gc]] W fun r w' => r = .returned (.int .i64 0) ∧ Below W.heap.size W w') at HFC
 change Hid (∀ W bp bc bt vb,Below s w W → Row W bp 71 [.slice none 0 0,.slice none 0 0] → Row W bc 3 [.int .i64 1] → Row W bt 97 [.func (.func 46) #[] #[.pointer (some ⟨bp,0,none⟩),.pointer (some ⟨bc,0,none⟩),.pointer (some ⟨bt,0,none⟩)]] → Row W vb 3 [.int .i64 1] → bp ≠ bc ∧ bp ≠ bt ∧ bp ≠ vb ∧ bc ≠ bt ∧ bc ≠ vb → s ≤ bp → s ≤ bc → Calls Tryz.prog 46 #[.agg #[.int .i64 (-1),.int .i64 (N : Int),.slice gA P.length gc],.slice (some ⟨vb,0,none⟩) 1 1,.pointer (some ⟨bp,0,none⟩),.pointer (some ⟨bc,0,none⟩),.pointer (some ⟨bt,0,none⟩)] W fun r w' => r = .returned (.bool true) ∧ ∃ rA rc oA oc gs,TT W.heap.size bp N P w' P.length rA rc oA oc gs ∧ Row w' bc 3 [.int .i64 (N : Int)] ∧ Tch (fun k => k = bp ∨ k = bc) W w') at HTG
 rw [hnn] at HFC HTG h0 hlen ⊢
 rw [hs]
 have HS := Lib.hid hs
 have HNN := Lib.hid hnn
 have HR0 : Hid (Below s w ((w.alloc (.cells #[.int .i64 (-1),.int .i64 (N : Int),.slice gA n gc] 68)).alloc (.cells #[.slice none 0 0,.slice none 0 0] 71)) ∧ Row ((w.alloc (.cells #[.int .i64 (-1),.int .i64 (N : Int),.slice gA n gc] 68)).alloc (.cells #[.slice none 0 0,.slice none 0 0] 71)) s 68 [.int .i64 (-1),.int .i64 (N : Int),.slice gA n gc] ∧ Row ((w.alloc (.cells #[.int .i64 (-1),.int .i64 (N : Int),.slice gA n gc] 68)).alloc (.cells #[.slice none 0 0,.slice none 0 0] 71)) (s + 1) 71 [.slice none 0 0,.slice none 0 0]) :=
  ⟨by rw [← hs];exact ((Below.refl _ w).alloc (Nat.le_refl _) _).alloc (by simp) _,(Row.fresh' _ _ _ hs).alloc _,Row.fresh' _ _ _ (by simp [hs])⟩
 clear hs hnn
 go_enter Tryz.func25,Tryz.ntmps25
 go_wp2_with fail
 rw [HS.out]
 generalize ((w.alloc (.cells #[.int .i64 (-1),.int .i64 (N : Int),.slice gA n gc] 68)).alloc (.cells #[.slice none 0 0,.slice none 0 0] 71)) = w1 at HR0 ⊢
 refine (HFC.out w1 HR0.out.1).mono ?_
 rintro x w2 ⟨rfl,hb2⟩
 obtain ⟨r1,r2,r3⟩ := HR0.out
 have HB2 : Hid (Below s w w2) := r1.trans (hb2.mono (by have := r2.lt;omega))
 have hg2 := r2.below hb2 r2.lt
 have hp2 := r3.below hb2 r3.lt
 clear r1 r2 r3 HR0 hb2
 have q0 := hg2.cell (i := 0) rfl
 have q1 := hg2.cell (i := 1) rfl
 have q2 := hg2.cell (i := 2) rfl
 have l0 := hg2.lt
 have HGP := Lib.hid (And.intro hg2 hp2)
 clear hg2 hp2
 go_wp2_with fail
 obtain ⟨z,hz⟩ : ∃ x,w2.heap.size = x := ⟨_,rfl⟩
 obtain ⟨w3,hw3⟩ : ∃ x,((w2.alloc (.cells #[.int .i64 1] 3)).alloc (.cells #[(.func (.func 46) #[] #[.pointer (some ⟨s + 1,0,none⟩),.pointer (some ⟨z,0,none⟩),.pointer (some ⟨z + 1,0,none⟩)])] 97)).alloc (.cells #[.int .i64 1] 3) = x := ⟨_,rfl⟩
 have hb3 : Below w2.heap.size w2 w3 := by rw [← hw3];exact (((Below.refl _ _).alloc (Nat.le_refl _) _).alloc (by simp) _).alloc (by simp;omega) _
 have hr0 : Row w3 z 3 [.int .i64 1] := by rw [← hw3];exact ((Row.fresh' _ _ _ hz).alloc _).alloc _
 have hr1 : Row w3 (z + 1) 97 [(.func (.func 46) #[] #[.pointer (some ⟨s + 1,0,none⟩),.pointer (some ⟨z,0,none⟩),.pointer (some ⟨z + 1,0,none⟩)])] := by rw [← hw3];exact (Row.fresh' _ _ _ (by simp [hz])).alloc _
 have hr2 : Row w3 (z + 1 + 1) 3 [.int .i64 1] := by rw [← hw3];exact Row.fresh' _ _ _ (by simp [hz])
 have hz3 : w3.heap.size = z + 1 + 1 + 1 := by rw [← hw3];simp [hz]
 have hp3 := HGP.out.2.below hb3 HGP.out.2.lt
 have hsz : s + 1 < z := by have := HGP.out.2.lt;omega
 have hB3 : Below s w w3 := HB2.out.trans (hb3.mono (by omega))
 rw [hz,hw3]
 clear hw3 q0 q1 q2
 refine (HTG.out w3 (s + 1) z (z + 1) (z + 1 + 1) hB3 hp3 hr0 hr1 hr2 (by omega) (by omega) (by omega)).mono ?_
 rintro x w4 ⟨rfl,rA,rc,oA,oc,gs,hTT,hcol,htch⟩
 obtain ⟨rg,rc2,e1,hcl,_⟩ := hTT.own1.form h0
 obtain ⟨og,oc2,e2,_,_⟩ := hTT.own2.form h0
 injection e1 with e1 _ e1'
 injection e2 with e2 _ e2'
 subst e1 e1' e2 e2'
 rw [hz3] at hTT
 have hB4 : Below s w w4 := hB3.trans (htch.below (by omega) (by rintro i hi (e | e) <;> omega))
 have c0 := hTT.box.cell (i := 0) rfl
 have HCOL := Lib.hid hcol
 have HTT := Lib.hid hTT
 have HB4 := Lib.hid hB4
 clear hTT hcol htch hB3 hB4 hp3 hr0 hr1 hr2 hb3 HTG HFC HGP HB2 hz hz3 l0
 go_wp2_with fail
 clear c0
 go_loopw [24] (fun i wx => ∃ k : Nat,k ≤ n ∧ i = .int .i64 k ∧ TT (z + 1 + 1 + 1) (s + 1) N P wx n (some ⟨rg,0,none⟩) rc (some ⟨og,0,none⟩) oc gs ∧ Row wx z 3 [.int .i64 (N : Int)] ∧ Below s w wx) (fun i _ => n - (intOf i).toNat)
 case atStart => exact ⟨0,Nat.zero_le _,rfl,HTT.out,HCOL.out,HB4.out⟩
 case round =>
  clear HTT HCOL HB4
  obtain ⟨k,hk,rfl,hTT,hcol,hbw⟩ := hrel
  by_cases hlt : k < n
  ·have k1 : (k : Int) < (n : Int) := by omega
   have k0 : (0 : Int) ≤ (k : Int) := by omega
   have t0 : wr.cell? ⟨rg,k,none⟩ = some (.slice (some ⟨gs.getD k 0,0,none⟩) N N) := by
    rw [hTT.own1.cellAt k (by omega),List.getElem?_map,List.getElem?_eq_getElem (by rw [hTT.gl];exact hlt),List.getD_eq_getElem?_getD,List.getElem?_eq_getElem (by rw [hTT.gl];exact hlt)]
    rfl
   have fz := hTT.own1.frozenAt k
   have hTTd := hTT.next (Below.refl _ wr).drew
   have hsame := hTTd.same (by omega) hlt
   have hge := own_ge hTT.own1 h0
   obtain ⟨G,hG⟩ : ∃ x,gs.getD k 0 = x := ⟨_,rfl⟩
   rw [hG] at t0 hsame
   have HSM := Lib.hid hsame
   have HFZ : Hid (wr.frozen? ⟨rg,k,none⟩ = false ∧ wr.cell? ⟨rg,k,none⟩ = some (.slice (some ⟨G,0,none⟩) N N)) := ⟨fz,t0⟩
   have HC3 : Hid (wr.cell? ⟨s + 1,0,none⟩ = some (.slice (some ⟨rg,0,none⟩) n rc) ∧ wr.cell? ⟨z,0,none⟩ = some (.int .i64 (N : Int)) ∧ True) := ⟨hTT.box.cell (i := 0) rfl,hcol.cell (i := 0) rfl,trivial⟩
   have HCL : Hid (Row (wr.drew.setCell ⟨rg,k,none⟩ (.slice (some ⟨G,0,none⟩) N N)) z 3 [.int .i64 (N : Int)] ∧ Below s w (wr.drew.setCell ⟨rg,k,none⟩ (.slice (some ⟨G,0,none⟩) N N))) := ⟨(hcol.below (Below.refl _ _).drew hcol.lt).away (p := ⟨rg,k,none⟩) (by show z ≠ rg;omega) _,hbw.drew.setCell (p := ⟨rg,k,none⟩) (by show s ≤ rg;omega) _⟩
   clear hTT hTTd hcol hbw fz hsame hG
   go_wp2_with fail
   rename_i Kz hKz
   clear t0
   refine wp_region_tree (fun w' => w'.cell? ⟨s + 1,0,none⟩ = some (.slice (some ⟨rg,0,none⟩) n rc) ∧ w'.cell? ⟨z,0,none⟩ = some (.int .i64 (N : Int)) ∧ True) (.take 0 (.take 1 (.take 2 (.take 3 (.take 4 (.take 5 (.take 6 (.take 7 (.take 8 (.take 9 (.take 10 (.take 11 (.take 12 (.take 13 (.take 14 (.one 15 .done)))))))))))))))) (by kernel_rfl) (by kernel_rfl) (by kernel_rfl) (by kernel_rfl) (fun x _ _ _ _ h => by cases x <;> exact h) HC3.out ?_
   iterate 13 (refine wpOT_take rfl _ (by rfl) (by intro w' hS;obtain ⟨c0,c1,_⟩ := hS;go_simp;try with_reducible rfl) fun KK hKK => ?_;go_simp;refine hKK _ ?_;clear hKK KK)
   refine wpOT_take rfl _ (by rfl) (fun w' hS => exec_append_none (.tmp 37) (.tmp 41) rfl (by rfl) (by rfl) (Nat.le_refl _) w') fun KK hKK => ?_
   go_simp
   refine hKK _ ?_
   clear hKK KK
   refine wpOT_take rfl _ (by rfl) (by intro w' hS;go_simp;try with_reducible rfl) fun KK hKK => ?_
   go_simp
   refine hKK _ ?_
   clear hKK KK
   refine wpOT_one rfl (by rfl) fun KK hKK => ?_
   have t0 := HFZ.out.2
   have fz := HFZ.out.1
   go_simp
   refine hKK _ _ ?_ ?_
   ·refine ⟨(World.cell?_setCell_other _ _ _ _ (by intro e;injection e with e _;omega)).trans HC3.out.1,(World.cell?_setCell_other _ _ _ _ (by intro e;injection e with e _;omega)).trans HC3.out.2.1,trivial⟩
   clear hKK KK t0 fz
   refine wpOT_done ?_
   show Kz _ _
   refine hKz _ _ ?_
   go_simp
   go_wp2
   go_roundw
   case rel => exact ⟨k + 1,by omega,by go_num,HSM.out,HCL.out.1,HCL.out.2⟩
   case measure => simp [intOf];omega
  ·obtain rfl : k = n := by omega
   have p0 := hTT.box.cell (i := 0) rfl
   have p1 := hTT.box.cell (i := 1) rfl
   have f0 := hTT.box.fz 0
   have f1 := hTT.box.fz 1
   have HTT := Lib.hid hTT
   have HBW := Lib.hid hbw
   clear hTT hbw hcol
   go_wp2_with fail
   have hT1 := (HTT.out.bput (by omega) 0 _ (by rfl)).bput (by omega) 1 (.slice (some ⟨og,0,none⟩) k oc) (by rfl)
   have hB1 := (HBW.out.setCell (p := ⟨s + 1,0,none⟩) (by show s ≤ s + 1;omega) (.slice (some ⟨rg,0,none⟩) k rc)).setCell (p := ⟨s + 1,1,none⟩) (by show s ≤ s + 1;omega) (.slice (some ⟨og,0,none⟩) k oc)
   generalize ((wr.setCell ⟨s + 1,0,none⟩ (.slice (some ⟨rg,0,none⟩) k rc)).setCell ⟨s + 1,1,none⟩ (.slice (some ⟨og,0,none⟩) k oc)) = wf at hT1 hB1 ⊢
   clear p0 p1 f0 f1
   have p0 := hT1.box.cell (i := 0) rfl
   have p1 := hT1.box.cell (i := 1) rfl
   have HTF := Lib.hid (And.intro hT1 hB1)
   clear hT1 hB1
   refine bodyPost_ret (results_agg_tmp rfl _ _ (s + 1) (by rfl) p0 p1) rfl ?_
   have hT1 := HTF.out.1
   rw [← HNN.out] at hT1 ⊢
   exact ⟨some ⟨rg,0,none⟩,rc,some ⟨og,0,none⟩,oc,_,rfl,hT1.prg (by omega),HTF.out.2⟩
end Go.Proofs.YtjcpjhlclpdpjaaGreat
