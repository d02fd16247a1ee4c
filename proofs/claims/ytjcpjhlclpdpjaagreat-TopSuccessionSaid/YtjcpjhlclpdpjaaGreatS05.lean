import Derived.Deep.CutRange
import Derived.Deep.OwnRows
import Derived.Laws.ResultCell
import Derived.Test.YtjcpjhlclpdpjaaGreatS03
import Derived.Test.YtjcpjhlclpdpjaaGreatS04
set_option linter.unusedVariables false
set_option maxRecDepth 100000
set_option maxHeartbeats 16000000
namespace Go.Proofs.YtjcpjhlclpdpjaaGreat
open Go.RowKit
attribute [local go_sem] Oper.semAt_some
def Est.lastP (e : Est) (k : Nat) : Int := if k = 0 then -1 else (e.gh (k - 1)).p
theorem within_ok (x lo hi : Int) (h1 : lo ≤ x) (h2 : x ≤ hi) (w : World) : Calls Tryz.prog 32 #[.int .i64 x,.int .i64 lo,.int .i64 hi] w fun r w' => r = .returned (.bool true) ∧ w = w' := by
 go_enter Tryz.func32,Tryz.ntmps32
 go_wp2
 go_ret
 exact ⟨rfl,rfl⟩
theorem Row.set {w : World} {g : Nat} {t : TypeId} {cs : List Value} (h : Row w g t cs) (i : Nat) (v : Value) : Row (w.setCell ⟨g,i,none⟩ v) g t (cs.set i v) := by
 unfold Row at h ⊢
 simp [World.setCell,Array.getElem?_modify,h]
theorem Row.far {w : World} {g : Nat} {t : TypeId} {cs : List Value} (h : Row w g t cs) {p : Addr} (hp : g ≠ p.block) (v : Value) : Row (w.setCell p v) g t cs := (Below.heap_setCell w p v g hp).trans h
theorem Row.frozen {w : World} {g : Nat} {t : TypeId} {cs : List Value} (h : Row w g t cs) (i : Nat) : w.frozen? ⟨g,i,none⟩ = false := by
 unfold Row at h
 simp [World.frozen?,h]
theorem Row.new (w : World) (t : TypeId) (cs : List Value) : Row (w.alloc (.cells cs.toArray t)) w.heap.size t cs := heap_alloc_new w _
theorem Boxed1.set {e : Est} {w w0 : World} (h : Boxed1 e w w0) {p : Addr} (hp : w.heap.size < p.block) (v : Value) : Boxed1 e w (w0.setCell p v) :=
 ⟨h.bel.setCell (by omega) v,by rw [World.size_setCell];exact h.lt,fun i u hu => (World.cell?_setCell_other w0 p ⟨w.heap.size,i,none⟩ v (fun e => by rw [e] at hp;exact absurd hp (by simp))).trans (h.row i u hu)⟩
theorem results_cell_row_tmp {P : Program} {fn : Func} {p q : Tmp} {ty : TypeId} (h : fn.results = #[.cell p ty,.tmp q]) (tmps : Array Value) (w : World) (g : Nat) (t : TypeId) (cs : Array Value) (fr : Nat × Nat) (d : TypeDesc)
  (hp : tmps.getD p undef = .pointer (some ⟨g,0,none⟩)) (hg : w.heap[g]? = some (.cells cs t fr))
  (hu : P.underlying ty = some d) (hd : (match d with | .struct _ | .array _ _ => true | _ => false) = true) (hi : (P.info? ty).map (·.size) = some cs.size) :
  (results fn tmps).run P w = .ok (.tuple #[.agg cs,tmps.getD q undef]) w := by
 have hp' : tmps[p]?.getD undef = .pointer (some ⟨g,0,none⟩) := by simpa using hp
 simp [results,h,hp',asAddr,run_loadVar_row w g t ty cs fr d hg hu hd hi]
def Est.nv (e : Est) (k n : Nat) : List Value := ((e.V.take k).map fun r => Value.int .u64 ((orPow (r.d.map e.ix) : Nat) : Int)) ++ List.replicate (n - k) (.int .u64 0)
theorem nv_len (e : Est) {k n : Nat} (hk : k < n) (hn : e.V.length = n) : (List.map (fun r => Value.int .u64 ((orPow (r.d.map e.ix) : Nat) : Int)) (e.V.take k)).length = k := by
 rw [List.length_map,List.length_take];omega
theorem nv_get (e : Est) {k n : Nat} (hk : k < n) (hn : e.V.length = n) : (e.nv k n)[k]? = some (.int .u64 0) := by
 have h1 := nv_len e hk hn
 unfold Est.nv
 rw [List.getElem?_append_right (by omega),h1,Nat.sub_self,show n - k = (n - (k + 1)) + 1 by omega,List.replicate_succ]
 rfl
theorem nv_set (e : Est) {k n : Nat} {r : RI} (hk : k < n) (hn : e.V.length = n) (hr : e.V[k]? = some r) : (e.nv k n).set k (.int .u64 ((orPow (r.d.map e.ix) : Nat) : Int)) = e.nv (k + 1) n := by
 have h1 := nv_len e hk hn
 unfold Est.nv
 rw [List.set_append_right _ _ (by omega),h1,Nat.sub_self,show n - k = (n - (k + 1)) + 1 by omega,List.replicate_succ,List.take_add_one,hr,List.map_append,List.append_assoc]
 rfl
theorem nv_all (e : Est) {n : Nat} (hn : e.V.length = n) : e.nv n n = e.V.map fun r => Value.int .u64 ((orPow (r.d.map e.ix) : Nat) : Int) := by
 unfold Est.nv
 rw [Nat.sub_self,List.take_of_length_le (by omega)]
 simp
theorem enter_any (e : Est) (w : World) (h : e.ok w w.heap.size) (hR : e.Right) (hn : e.H.length ≤ 6) (hv : e.V.length ≤ 16) :
  Calls Tryz.prog 13 #[.agg e.cells.toArray] w fun x w' => ∃ vb,x = .returned (.tuple #[.agg #[.slice e.hA e.H.length e.hc,.int .u64 ((orPow (e.m.d.map e.ix) : Nat) : Int),.int .u64 ((orPow (e.a.d.map e.ix) : Nat) : Int),.slice e.n.A e.n.d.length e.n.c,.slice (some ⟨vb,0,none⟩) e.V.length e.V.length],.int .i64 0]) ∧
   Row w' vb 45 (e.V.map fun r => .int .u64 ((orPow (r.d.map e.ix) : Nat) : Int)) ∧ w.heap.size < vb ∧ Below w.heap.size w w' := by
 obtain ⟨CS,hCS⟩ : ∃ CS,e.cells = CS := ⟨_,rfl⟩
 have hX : Boxed1 e w ((w.alloc (.cells CS.toArray 26)).alloc (.cells #[.slice none 0 0,.int .u64 0,.int .u64 0,.slice none 0 0,.slice none 0 0] 48)) := (show Boxed1 e w (w.alloc (.cells CS.toArray 26)) by rw [← hCS];exact boxed1 e w).next ((Below.refl _ _).alloc (Nat.le_refl _) _)
 have hHZ : Row ((w.alloc (.cells CS.toArray 26)).alloc (.cells #[.slice none 0 0,.int .u64 0,.int .u64 0,.slice none 0 0,.slice none 0 0] 48)) (w.heap.size + 1) 48 [.slice none 0 0,.int .u64 0,.int .u64 0,.slice none 0 0,.slice none 0 0] := by
  have := Row.new (w.alloc (.cells CS.toArray 26)) 48 [.slice none 0 0,.int .u64 0,.int .u64 0,.slice none 0 0,.slice none 0 0]
  rwa [show (w.alloc (.cells CS.toArray 26)).heap.size = w.heap.size + 1 by simp] at this
 have HE : Hid (∀ W,Boxed1 e w W → e.ok W W.heap.size) := fun W hW => (h.below hW.bel).more (by have := hW.lt;omega)
 have HQ : Hid (∀ W,Boxed1 e w W → W.cell? ⟨w.heap.size,0,none⟩ = some (.slice e.hA e.H.length e.hc) ∧ W.cell? ⟨w.heap.size,1,none⟩ = some e.m.cell ∧ W.cell? ⟨w.heap.size,2,none⟩ = some (.slice e.n.A e.n.d.length e.n.c) ∧ W.cell? ⟨w.heap.size,3,none⟩ = some e.a.cell ∧ W.cell? ⟨w.heap.size,4,none⟩ = some (.slice e.vA e.V.length e.vc)) := fun W hW => ⟨hW.row 0 _ rfl,hW.row 1 _ rfl,hW.row 2 _ rfl,hW.row 3 _ rfl,hW.row 4 _ rfl⟩
 have HOK := Lib.hid h
 have HRR := Lib.hid hR
 have hnc : e.n.d.length ≤ e.n.c := h.n.2.1
 have hcm : e.n.c ≤ maxLen := h.n.2.2
 unfold maxLen at hcm
 have hhc := h.hc
 obtain ⟨nb,no,hA1,hb,hall⟩ := h.n.allAt (by rw [hR.nl];omega)
 obtain ⟨hb0,ho,hhA,hhb,hhall⟩ := heirs_all h (by have := hR.h1;omega)
 have h1 := hR.h1
 have hnl := hR.nl
 have hinc : e.inc := by
  intro i j hij hj
  induction j with
  | zero => omega
  | succ j ih =>
   have h1 := (hR.h (j + 1) hj).up (by omega)
   rw [Nat.add_sub_cancel] at h1
   rcases Nat.lt_or_ge i j with h2 | h2
   ·have := ih h2 (by omega);omega
   ·obtain rfl : i = j := by omega
    exact h1
 obtain ⟨N,hN⟩ : ∃ N,e.H.length = N := ⟨_,rfl⟩
 obtain ⟨VN,hVN⟩ : ∃ VN,e.V.length = VN := ⟨_,rfl⟩
 obtain ⟨MC,hMC⟩ : ∃ MC,e.m.cell = MC := ⟨_,rfl⟩
 obtain ⟨AC,hAC⟩ : ∃ AC,e.a.cell = AC := ⟨_,rfl⟩
 have HN := Lib.hid hN
 have HVN := Lib.hid hVN
 have HMC := Lib.hid hMC
 have HAC := Lib.hid hAC
 rw [hN] at hnl h1 hn hhc
 obtain ⟨hc,ehc⟩ : ∃ x,e.hc = x := ⟨_,rfl⟩
 obtain ⟨nc,enc⟩ : ∃ x,e.n.c = x := ⟨_,rfl⟩
 obtain ⟨vA,evA⟩ : ∃ x,e.vA = x := ⟨_,rfl⟩
 obtain ⟨vc,evc⟩ : ∃ x,e.vc = x := ⟨_,rfl⟩
 rw [hN,hVN,hMC,hAC,hnl,hhA,hA1,ehc,enc,evA,evc] at HQ
 have HHA : Hid (e.hA = some ⟨hb0,ho,none⟩ ∧ e.hc = hc ∧ e.vA = vA) := ⟨hhA,ehc,evA⟩
 rw [hnl] at hall hnc
 rw [hN] at hhall
 rw [enc] at hnc hcm
 rw [ehc] at hhc
 rw [hVN] at hv
 rw [hCS,hN,hVN,hhA,ehc,hA1,hnl,enc]
 have HAL : Hid (∀ W,Boxed1 e w W → ∀ k,k < N + 1 → W.cell? ⟨nb,no + k,none⟩ = some (.int .i64 (e.n.d.getD k 0))) := fun W hW => hall W hW.bel
 have HHL : Hid (∀ W,Boxed1 e w W → ∀ k,k < N → W.cell? ⟨hb0,ho + k * 3,none⟩ = some (.int .i64 (e.gh k).p) ∧ W.cell? ⟨hb0,ho + k * 3 + 1,none⟩ = some (.int .i64 (e.gh k).j) ∧ W.cell? ⟨hb0,ho + k * 3 + 2,none⟩ = some (.int .i64 (e.gh k).l)) := fun W hW => hhall W hW.bel
 have q5 := HAL.out _ hX 0 (by omega)
 rw [Nat.add_zero,hR.n0] at q5
 obtain ⟨q0,q1,q2,q3,q4⟩ := HQ.out _ hX
 have c0' : ((N : Int) == 0) = false := by simp;omega
 have c6 : ¬ (10 : Int) < (N : Int) := by omega
 have c7 : ¬ (16 : Int) < (VN : Int) := by omega
 have HX := Lib.hid hX
 have HRW := Lib.hid hHZ
 have HNV : Hid (∀ k,k < VN → ∃ b o r,vA = some ⟨b,o,none⟩ ∧ r ∈ e.V ∧ e.V[k]? = some r ∧ ∀ W,Boxed1 e w W → W.cell? ⟨b,o + k,none⟩ = some r.cell) := fun k hk => by
  obtain ⟨b,o,r,h1,h2,h3,h4,h5⟩ := never_at h (k := k) (by rw [hVN];exact hk)
  exact ⟨b,o,r,by rw [← evA];exact h1,h3,h4,fun W hW => h5 W hW.bel⟩
 obtain ⟨MM,hMM⟩ : ∃ M,orPow (e.m.d.map e.ix) = M := ⟨_,rfl⟩
 obtain ⟨AM,hAM⟩ : ∃ M,orPow (e.a.d.map e.ix) = M := ⟨_,rfl⟩
 rw [hMM,hAM]
 have HMM := Lib.hid hMM
 have HAM := Lib.hid hAM
 clear hMM hAM
 have HPE : e.Pers := ⟨by rw [hN];exact hn,hinc,fun k hk => (hR.h k hk).p0⟩
 have HF : Hid (∀ (r : RI) (W : World) (b o : Nat),(r = e.m ∨ r = e.a ∨ r ∈ e.V) → Boxed1 e w W → w.heap.size + 1 < W.heap.size → W.cell? ⟨w.heap.size + 1,0,none⟩ = some (.slice (some ⟨hb0,ho,none⟩) N hc) → b < W.heap.size → W.cell? ⟨b,o,none⟩ = some (.int .u64 0) → W.frozen? ⟨b,o,none⟩ = false →
   Calls Tryz.prog 33 #[.pointer (some ⟨b,o,none⟩),r.cell,.pointer (some ⟨w.heap.size + 1,0,none⟩)] W fun x w' => x = .returned (.bool true) ∧ ∃ w1,Below W.heap.size W w1 ∧ w' = w1.setCell ⟨b,o,none⟩ (.int .u64 ((orPow (r.d.map e.ix) : Nat) : Int))) := fun r W b o hr hX hg hc0 hb hv hf => by
  have hEW := HE.out W hX
  refine enter1_any e r (w.heap.size + 1) b o W hEW ?_ HPE ?_ hg ?_ hb hv hf
  ·rcases hr with rfl | rfl | hr
   ·exact hEW.m
   ·exact hEW.a
   ·exact hEW.vs r hr
  ·rcases hr with rfl | rfl | hr
   ·exact hR.m
   ·exact hR.a
   ·exact hR.v r hr
  ·rw [hc0,hN,hhA,ehc]
 clear h hR hCS hX hHZ hall hhall hN hVN hMC hAC hnl ehc enc evA evc hA1 hhA HPE hinc
 go_enter Tryz.func13,Tryz.ntmps13
 go_wp2
 generalize ((w.alloc (.cells CS.toArray 26)).alloc (.cells #[.slice none 0 0,.int .u64 0,.int .u64 0,.slice none 0 0,.slice none 0 0] 48)) = w0 at *
 go_loopw [4,46] (fun y i wr => Boxed1 e w wr ∧ Row wr (w.heap.size + 1) 48 [.slice none 0 0,.int .u64 0,.int .u64 0,.slice none 0 0,.slice none 0 0] ∧ ∃ k : Nat,k ≤ N ∧ i = .int .i64 k ∧ y = .int .i64 (e.lastP k)) (fun _ i _ => N - (intOf i).toNat)
 case atStart => exact ⟨HX.out,HRW.out,0,Nat.zero_le _,rfl,rfl⟩
 case round =>
  clear HX HRW q0 q1 q2 q3 q4 q5
  obtain ⟨hX,hRW,k,hk,rfl,rfl⟩ := hrel
  have HX := Lib.hid hX
  have HRW := Lib.hid hRW
  by_cases hlt : k < N
  ·obtain ⟨q0,q1,q2,q3,q4⟩ := HQ.out _ hX
   have k1 : (k : Int) < (N : Int) := by omega
   have k0 : (0 : Int) ≤ (k : Int) := by omega
   obtain ⟨x0,x1,x2⟩ := HHL.out _ hX k hlt
   have hok := HRR.out.h k (by rw [HN.out];exact hlt)
   obtain ⟨p0,p1,pu,j0,j1,l0,l1,n0,n1⟩ := hok
   have hlp : e.lastP k < (e.gh k).p := by
    unfold Est.lastP
    split
    ·omega
    ·exact pu (by omega)
   have hlm : -1 ≤ e.lastP k := by
    unfold Est.lastP
    split
    ·omega
    ·have := (HRR.out.h (k - 1) (by rw [HN.out];omega)).p0
     omega
   have HNX : Hid (e.lastP (k + 1) = (e.gh k).p) := by show _ = _;unfold Est.lastP;simp
   obtain ⟨P,hP⟩ : ∃ P,(e.gh k).p = P := ⟨_,rfl⟩
   obtain ⟨J,hJ⟩ : ∃ J,(e.gh k).j = J := ⟨_,rfl⟩
   obtain ⟨L,hL⟩ : ∃ L,(e.gh k).l = L := ⟨_,rfl⟩
   obtain ⟨V,hV⟩ : ∃ V,e.n.d.getD (k + 1) 0 = V := ⟨_,rfl⟩
   obtain ⟨L0,hL0⟩ : ∃ L0,e.lastP k = L0 := ⟨_,rfl⟩
   rw [hP] at x0 p0 p1 hlp HNX
   rw [hJ] at x1 j0 j1
   rw [hL] at x2 l0 l1
   rw [hV] at n0 n1
   rw [hL0] at hlp hlm
   rw [hL0]
   have hX7 : Boxed1 e w (wr.alloc (.cells #[.int .i64 P,.int .i64 J,.int .i64 L] 79)) := hX.next ((Below.refl _ _).alloc (Nat.le_refl _) _)
   have hR7 := hRW.alloc (.cells #[.int .i64 P,.int .i64 J,.int .i64 L] 79)
   obtain ⟨r0,r1,r2,r3,r4⟩ := HQ.out _ hX7
   have y3 := HAL.out _ hX7 (k + 1) (by omega)
   rw [hV] at y3
   have HX7 := Lib.hid (And.intro hX7 hR7)
   clear hX hRW pu hP hJ hL hV hL0 hX7 hR7
   go_wp2_with (first | (go_at_call 32;refine (within_ok _ _ _ (by omega) (by omega) _).mono ?_;rintro e w' ⟨rfl,rfl⟩) | fail)
   go_roundw
   case rel => exact ⟨HX7.out.1,HX7.out.2,k + 1,by omega,by go_num,by rw [HNX.out]⟩
   case measure => simp [intOf];omega
  ·obtain rfl : k = N := by omega
   obtain ⟨q0,q1,q2,q3,q4⟩ := HQ.out _ hX
   clear hX hRW
   have z0 := HRW.out.cell (i := 0) rfl
   have z1 := HRW.out.cell (i := 1) rfl
   have z2 := HRW.out.cell (i := 2) rfl
   have z3 := HRW.out.cell (i := 3) rfl
   have z4 := HRW.out.cell (i := 4) rfl
   have f0 := HRW.out.frozen 0
   have f3 := HRW.out.frozen 3
   have f4 := HRW.out.frozen 4
   go_wp2
   rename_i Kz hKz
   refine wp_region_ord (fun w' => Boxed1 e w w') [(0,true),(1,true),(2,true),(3,true),(4,true),(5,false),(6,true),(7,false)] (by kernel_rfl) (by kernel_rfl) rfl (by kernel_rfl) (fun x _ _ _ _ h => by cases x <;> exact h) HX.out.drew ?_
   iterate 5 (first | (refine wpOrd_skip rfl (by rfl) fun KK hKK => ?_;go_simp;refine hKK _ ?_;clear hKK KK) | (refine wpOrd_take rfl _ (by rfl) (by intro w' hS;obtain ⟨q0,q1,q2,q3,q4⟩ := HQ.out _ hS;go_simp;try with_reducible rfl) fun KK hKK => ?_;go_simp;refine hKK _ ?_;clear hKK KK))
   refine wpOrd_force rfl (by rfl) fun KK hKK => ?_
   go_simp
   refine hKK _ _ (HX.out.set (by simp) _).drew ?_
   clear hKK KK
   iterate 1 (first | (refine wpOrd_skip rfl (by rfl) fun KK hKK => ?_;go_simp;refine hKK _ ?_;clear hKK KK) | (refine wpOrd_take rfl _ (by rfl) (by intro w' hS;obtain ⟨q0,q1,q2,q3,q4⟩ := HQ.out _ hS;go_simp;try with_reducible rfl) fun KK hKK => ?_;go_simp;refine hKK _ ?_;clear hKK KK))
   refine wpOrd_force rfl (by rfl) fun KK hKK => ?_
   go_simp
   refine hKK _ _ ((HX.out.set (by simp) _).set (by simp) _).drew ?_
   clear hKK KK
   refine wpOrd_nil ?_
   show Kz _ _
   refine hKz _ _ ?_
   go_simp
   have HX5 : Hid (Boxed1 e w ((wr.setCell ⟨w.heap.size + 1,0,none⟩ (.slice (some ⟨hb0,ho,none⟩) k hc)).setCell ⟨w.heap.size + 1,3,none⟩ (.slice (some ⟨nb,no,none⟩) (k + 1) nc)).drew) := ((HX.out.set (by simp) _).set (by simp) _).drew
   have HR5 : Hid (Row ((wr.setCell ⟨w.heap.size + 1,0,none⟩ (.slice (some ⟨hb0,ho,none⟩) k hc)).setCell ⟨w.heap.size + 1,3,none⟩ (.slice (some ⟨nb,no,none⟩) (k + 1) nc)).drew (w.heap.size + 1) 48 [.slice (some ⟨hb0,ho,none⟩) k hc,.int .u64 0,.int .u64 0,.slice (some ⟨nb,no,none⟩) (k + 1) nc,.slice none 0 0]) := (HRW.out.set 0 _).set 3 _
   generalize ((wr.setCell ⟨w.heap.size + 1,0,none⟩ (.slice (some ⟨hb0,ho,none⟩) k hc)).setCell ⟨w.heap.size + 1,3,none⟩ (.slice (some ⟨nb,no,none⟩) (k + 1) nc)).drew = w5 at HX5 HR5 ⊢
   clear z0 z1 z2 z3 z4 f0 f3 f4 q0 q1 q2 q3 q4
   obtain ⟨q0,q1,q2,q3,q4⟩ := HQ.out _ HX5.out
   obtain ⟨ii,hii,hzz⟩ := Option.map_eq_some_iff.1 (show (Tryz.prog.info? 45).map (fun i => (i.zero,i.size,i.bytes)) = some (some (.int .u64 0),1,8) by kernel_rfl)
   simp only [Prod.mk.injEq] at hzz
   obtain ⟨iz,is,ib⟩ := hzz
   have HII : Hid (Tryz.prog.info? 45 = some ii ∧ ii.zero = some (.int .u64 0) ∧ ii.size = 1 ∧ ii.bytes * VN ≤ 281474976710656) := ⟨hii,iz,is,by rw [ib];omega⟩
   clear hii iz is ib
   have hg5 := HR5.out.lt
   obtain ⟨V7,hV7⟩ : ∃ V7,Value.slice (some ⟨w5.heap.size,0,none⟩) VN VN = V7 := ⟨_,rfl⟩
   have HX7 : Hid (Boxed1 e w ((w5.setCell ⟨w.heap.size + 1,4,none⟩ (.slice (some ⟨w5.heap.size,0,none⟩) VN VN)).alloc (.cells (madeCells #[.int .u64 0] VN) 45))) := (HX5.out.set (by simp) _).next ((Below.refl _ _).alloc (Nat.le_refl _) _)
   have HR7 : Hid (Row ((w5.setCell ⟨w.heap.size + 1,4,none⟩ (.slice (some ⟨w5.heap.size,0,none⟩) VN VN)).alloc (.cells (madeCells #[.int .u64 0] VN) 45)) (w.heap.size + 1) 48 [.slice (some ⟨hb0,ho,none⟩) k hc,.int .u64 0,.int .u64 0,.slice (some ⟨nb,no,none⟩) (k + 1) nc,.slice (some ⟨w5.heap.size,0,none⟩) VN VN]) := (HR5.out.set 4 _).alloc _
   have HV7 : Hid (Row ((w5.setCell ⟨w.heap.size + 1,4,none⟩ (.slice (some ⟨w5.heap.size,0,none⟩) VN VN)).alloc (.cells (madeCells #[.int .u64 0] VN) 45)) w5.heap.size 45 (List.replicate VN (.int .u64 0))) := by
    have := Row.new (w5.setCell ⟨w.heap.size + 1,4,none⟩ (.slice (some ⟨w5.heap.size,0,none⟩) VN VN)) 45 (List.replicate VN (.int .u64 0))
    rwa [show (List.replicate VN (Value.int .u64 0)).toArray = madeCells #[.int .u64 0] VN by apply Array.ext';rw [toList_madeCells_one],World.size_setCell] at this
   clear hV7 V7
   have z4 := HR5.out.cell (i := 4) rfl
   have f4 := HR5.out.frozen 4
   go_upto_region 16 with (refine wpList_make_row _ rfl (.tmp 93) (.tmp 93) 46 rfl 45 ii (.int .u64 0) Tryz.underlying46 HII.out.1 HII.out.2.1 HII.out.2.2.1 rfl .i64 .i64 VN (by rfl) (by rfl) HII.out.2.2.2 (by omega) ?_)
   clear z4 f4 HII q0 q1 q2 q3 q4
   generalize ((w5.setCell ⟨w.heap.size + 1,4,none⟩ (.slice (some ⟨w5.heap.size,0,none⟩) VN VN)).alloc (.cells (madeCells #[.int .u64 0] VN) 45)) = w7 at HX7 HR7 HV7 ⊢
   generalize w5.heap.size = vb at HR7 HV7 hg5 ⊢
   clear HX5 HR5 HX HRW
   obtain ⟨q0,q1,q2,q3,q4⟩ := HQ.out _ HX7.out
   have hF1 := HF.out e.m w7 (w.heap.size + 1) 1 (.inl rfl) HX7.out HR7.out.lt (HR7.out.cell (i := 0) rfl) HR7.out.lt (HR7.out.cell (i := 1) rfl) (HR7.out.frozen 1)
   rw [HMC.out,HMM.out] at hF1
   have HF1 := Lib.hid hF1
   clear hF1 q0 q2 q3 q4
   go_wp2_with fail
   refine HF1.out.mono ?_
   rintro x w' ⟨rfl,w1,hb1,rfl⟩
   have HX8 : Hid (Boxed1 e w (w1.setCell ⟨w.heap.size + 1,1,none⟩ (.int .u64 (MM : Int)))) := (HX7.out.next hb1).set (by simp) _
   have HR8 : Hid (Row (w1.setCell ⟨w.heap.size + 1,1,none⟩ (.int .u64 (MM : Int))) (w.heap.size + 1) 48 [.slice (some ⟨hb0,ho,none⟩) k hc,.int .u64 (MM : Int),.int .u64 0,.slice (some ⟨nb,no,none⟩) (k + 1) nc,.slice (some ⟨vb,0,none⟩) VN VN]) := (HR7.out.below hb1 HR7.out.lt).set 1 _
   have HV8 : Hid (Row (w1.setCell ⟨w.heap.size + 1,1,none⟩ (.int .u64 (MM : Int))) vb 45 (List.replicate VN (.int .u64 0))) := (HV7.out.below hb1 HV7.out.lt).far (by simp;omega) _
   generalize (w1.setCell ⟨w.heap.size + 1,1,none⟩ (.int .u64 (MM : Int))) = w8 at HX8 HR8 HV8 ⊢
   clear HF1 hb1 HX7 HR7 HV7 q1
   obtain ⟨q0,q1,q2,q3,q4⟩ := HQ.out _ HX8.out
   have hF2 := HF.out e.a w8 (w.heap.size + 1) 2 (.inr (.inl rfl)) HX8.out HR8.out.lt (HR8.out.cell (i := 0) rfl) HR8.out.lt (HR8.out.cell (i := 2) rfl) (HR8.out.frozen 2)
   rw [HAC.out,HAM.out] at hF2
   have HF2 := Lib.hid hF2
   clear hF2 q0 q2 q1 q4
   go_wp2_with fail
   refine HF2.out.mono ?_
   rintro x w' ⟨rfl,w2,hb2,rfl⟩
   have HX9 : Hid (Boxed1 e w (w2.setCell ⟨w.heap.size + 1,2,none⟩ (.int .u64 (AM : Int)))) := (HX8.out.next hb2).set (by simp) _
   have HR9 : Hid (Row (w2.setCell ⟨w.heap.size + 1,2,none⟩ (.int .u64 (AM : Int))) (w.heap.size + 1) 48 [.slice (some ⟨hb0,ho,none⟩) k hc,.int .u64 (MM : Int),.int .u64 (AM : Int),.slice (some ⟨nb,no,none⟩) (k + 1) nc,.slice (some ⟨vb,0,none⟩) VN VN]) := (HR8.out.below hb2 HR8.out.lt).set 2 _
   have HV9 : Hid (Row (w2.setCell ⟨w.heap.size + 1,2,none⟩ (.int .u64 (AM : Int))) vb 45 (List.replicate VN (.int .u64 0))) := (HV8.out.below hb2 HV8.out.lt).far (by simp;omega) _
   generalize (w2.setCell ⟨w.heap.size + 1,2,none⟩ (.int .u64 (AM : Int))) = w9 at HX9 HR9 HV9 ⊢
   clear HF2 hb2 HX8 HR8 HV8 q3
   obtain ⟨q0,q1,q2,q3,q4⟩ := HQ.out _ HX9.out
   clear q0 q1 q2 q3
   go_wp2_with fail
   go_loopw [115] (fun i wr => Boxed1 e w wr ∧ Row wr (w.heap.size + 1) 48 [.slice (some ⟨hb0,ho,none⟩) k hc,.int .u64 (MM : Int),.int .u64 (AM : Int),.slice (some ⟨nb,no,none⟩) (k + 1) nc,.slice (some ⟨vb,0,none⟩) VN VN] ∧ ∃ j : Nat,j ≤ VN ∧ i = .int .i64 j ∧ Row wr vb 45 (e.nv j VN)) (fun i _ => VN - (intOf i).toNat)
   case atStart => exact ⟨HX9.out,HR9.out,0,Nat.zero_le _,rfl,HV9.out⟩
   case round =>
    clear HX9 HR9 HV9 q4
    obtain ⟨hX,hR,j,hj,rfl,hV⟩ := hrel
    have HX := Lib.hid hX
    have HR := Lib.hid hR
    have HV := Lib.hid hV
    clear hX hR hV
    have hg := HR.out.lt
    have hgv := HV.out.lt
    by_cases hlt2 : j < VN
    ·obtain ⟨b,o,r,hA2,hrm,hrk,hcell⟩ := HNV.out j hlt2
     subst hA2
     have q0 := hcell _ HX.out
     obtain ⟨RC,hRC⟩ : ∃ RC,r.cell = RC := ⟨_,rfl⟩
     have hF3 := HF.out r wr vb j (.inr (.inr hrm)) HX.out hg (HR.out.cell (i := 0) rfl) hgv (HV.out.cell (nv_get e hlt2 HVN.out)) (HV.out.frozen j)
     rw [hRC] at hF3 q0
     have HF3 := Lib.hid hF3
     have HNS : Hid ((e.nv j VN).set j (.int .u64 ((orPow (r.d.map e.ix) : Nat) : Int)) = e.nv (j + 1) VN) := nv_set e hlt2 HVN.out hrk
     obtain ⟨X,hXx⟩ : ∃ X,orPow (r.d.map e.ix) = X := ⟨_,rfl⟩
     rw [hXx] at HF3 HNS
     have z4 := HR.out.cell (i := 4) rfl
     have k1 : (j : Int) < (VN : Int) := by omega
     have k0 : (0 : Int) ≤ (j : Int) := by omega
     clear hF3 hcell hrk hRC hrm hXx
     go_wp2_with fail
     refine HF3.out.mono ?_
     rintro x w' ⟨rfl,w3,hb3,rfl⟩
     have HX4 : Hid (Boxed1 e w (w3.setCell ⟨vb,j,none⟩ (.int .u64 (X : Int)))) := (HX.out.next hb3).set (by simp;omega) _
     have HR4 : Hid (Row (w3.setCell ⟨vb,j,none⟩ (.int .u64 (X : Int))) (w.heap.size + 1) 48 [.slice (some ⟨hb0,ho,none⟩) k hc,.int .u64 (MM : Int),.int .u64 (AM : Int),.slice (some ⟨nb,no,none⟩) (k + 1) nc,.slice (some ⟨vb,0,none⟩) VN VN]) := (HR.out.below hb3 hg).far (by simp;omega) _
     have HV4 : Hid (Row (w3.setCell ⟨vb,j,none⟩ (.int .u64 (X : Int))) vb 45 (e.nv (j + 1) VN)) := by
      have := (HV.out.below hb3 hgv).set j (.int .u64 (X : Int))
      rwa [HNS.out] at this
     generalize (w3.setCell ⟨vb,j,none⟩ (.int .u64 (X : Int))) = w4 at HX4 HR4 HV4 ⊢
     clear HF3 hb3 z4 q0 HX HR HV
     go_wp2
     go_roundw
     case rel => exact ⟨HX4.out,HR4.out,j + 1,by omega,by go_num,HV4.out⟩
     case measure => simp [intOf];omega
    ·obtain rfl : j = VN := by omega
     clear HNV HQ
     have hHI : (Tryz.prog.info? 48).map (·.size) = some 5 := by kernel_rfl
     have HHI : Hid ((Tryz.prog.info? 48).map (·.size) = some 5) := hHI
     clear hHI
     obtain ⟨X,hXX⟩ : ∃ X,[Value.slice (some ⟨hb0,ho,none⟩) k hc,.int .u64 (MM : Int),.int .u64 (AM : Int),.slice (some ⟨nb,no,none⟩) (k + 1) nc,.slice (some ⟨vb,0,none⟩) j j] = X := ⟨_,rfl⟩
     have HXL : Hid (X.length = 5 ∧ (∀ u ∈ X,u.oneCell' = true) ∧ Value.agg X.toArray = .agg #[.slice (some ⟨hb0,ho,none⟩) k hc,.int .u64 (MM : Int),.int .u64 (AM : Int),.slice (some ⟨nb,no,none⟩) (k + 1) nc,.slice (some ⟨vb,0,none⟩) j j]) := by
      rw [← hXX]
      exact ⟨rfl,by intro u hu;simp at hu;rcases hu with rfl | rfl | rfl | rfl | rfl <;> rfl,rfl⟩
     rw [hXX] at HR
     clear hXX
     have HVE : Hid (e.nv j j = e.V.map fun r => Value.int .u64 ((orPow (r.d.map e.ix) : Nat) : Int)) := nv_all e HVN.out
     go_wp2_with (first | (refine wpList_load_cells rfl 48 (.tmp 2) rfl ⟨w.heap.size + 1,0,none⟩ (by rfl) X _ (fun i v hv => by rw [Addr.add_flat,Nat.zero_add];exact HR.out.cell hv) Tryz.underlying48 (by rfl) (by rw [HXL.out.1];exact HHI.out) ?_) | (refine wpList_store_cells rfl 48 (.tmp 2) (.tmp 130) rfl (w.heap.size + 1) X (by rfl) (by rfl) 48 _ HR.out (by simp) (by rw [HXL.out.1];exact HHI.out) HXL.out.2.1 ?_;intro w5 hR5 hg5))
     have HX5 : Hid (Below w.heap.size w w5) := HX.out.bel.grown hg5 (by omega) (fun g hg => by cases hg;omega)
     have HV5 : Hid (Row w5 vb 45 (e.nv j j)) := HV.out.grown hg5 (by intro h;injection h with h;omega)
     refine bodyPost_ret (results_cell_row_tmp (p := 2) (q := 3) rfl _ _ (w.heap.size + 1) 48 _ (0,0) _ (by rfl) hR5 Tryz.underlying48 (by rfl) (by rw [List.size_toArray,HXL.out.1];exact HHI.out)) rfl ?_
     refine ⟨vb,?_,?_,?_,HX5.out⟩
     ·rw [HXL.out.2.2];rfl
     ·have := HV5.out
      rw [HVE.out] at this
      exact this
     ·omega
end Go.Proofs.YtjcpjhlclpdpjaaGreat
namespace Go.Proofs.YtjcpjhlclpdpjaaGreat
open Go.RowKit
attribute [local go_sem] Oper.semAt_some
structure Ent where
 m : Nat
 c : Int
 s : Int
def Ent.cells (x : Ent) : List Value := [.int .u64 (x.m : Int),.int .i64 x.c,.int .i64 x.s]
def dE : Ent := ⟨0,0,0⟩
def lessE (x y : Ent) : Bool := decide (x.c < y.c) || (decide (x.c = y.c) && decide (x.s < y.s))
def swp (l : List Ent) (i k : Nat) : List Ent := (l.set i (l.getD k dE)).set k (l.getD i dE)
theorem swp_len (l : List Ent) (i k : Nat) : (swp l i k).length = l.length := by simp [swp]
def QR (w : World) (g cap : Nat) (l : List Ent) : Prop := ∃ cur : Array Value,w.heap[g]? = some (.cells cur 54 (0,0)) ∧ l.length ≤ cap ∧ cap ≤ maxLen ∧ cur.size = cap * 3 ∧ cur.toList.take (l.length * 3) = l.flatMap Ent.cells
theorem QR.lt {w : World} {g cap : Nat} {l : List Ent} (h : QR w g cap l) : g < w.heap.size := by obtain ⟨cur,h,_⟩ := h;exact heap_lt h
theorem QR.heap {w w' : World} {g cap : Nat} {l : List Ent} (h : QR w g cap l) (he : w'.heap[g]? = w.heap[g]?) : QR w' g cap l := by
 obtain ⟨cur,h,r⟩ := h
 exact ⟨cur,he.trans h,r⟩
theorem QR.cell {w : World} {g cap : Nat} {l : List Ent} (h : QR w g cap l) {k : Nat} (hk : k < l.length) : w.cell? ⟨g,k * 3,none⟩ = some (.int .u64 ((l.getD k dE).m : Int)) ∧ w.cell? ⟨g,k * 3 + 1,none⟩ = some (.int .i64 (l.getD k dE).c) ∧ w.cell? ⟨g,k * 3 + 2,none⟩ = some (.int .i64 (l.getD k dE).s) := by
 obtain ⟨cur,h,h1,h2,h3,h4⟩ := h
 have hx : l[k]? = some (l.getD k dE) := by rw [List.getD_eq_getElem?_getD,List.getElem?_eq_getElem hk];rfl
 have hf : ∀ i v,i < 3 → (l.getD k dE).cells[i]? = some v → w.cell? ⟨g,k * 3 + i,none⟩ = some v := fun i v hi hv => by
  rw [cell_of_row _ g (k * 3 + i) cur _ (0,0) h]
  have h5 := flat_at2 Ent.cells 3 l (fun x _ => rfl) k i _ hx hi
  rw [← h4,List.getElem?_take,if_pos (by omega),hv] at h5
  simpa using h5
 exact ⟨hf 0 _ (by omega) rfl,hf 1 _ (by omega) rfl,hf 2 _ (by omega) rfl⟩
structure Chg (ex : Nat → Prop) (w w' : World) : Prop where
 os : w'.os = w.os
 tape : w'.tape = w.tape
 output : w'.output = w.output
 size : w.heap.size ≤ w'.heap.size
 block : ∀ k,k < w.heap.size → ¬ ex k → w'.heap[k]? = w.heap[k]?
theorem Chg.refl (ex : Nat → Prop) (w : World) : Chg ex w w := ⟨rfl,rfl,rfl,Nat.le_refl _,fun _ _ _ => rfl⟩
theorem Chg.trans {ex ex' : Nat → Prop} {a b c : World} (h : Chg ex a b) (k : Chg ex' b c) (he : ∀ i,i < a.heap.size → ex' i → ex i) : Chg ex a c :=
 ⟨k.os.trans h.os,k.tape.trans h.tape,k.output.trans h.output,Nat.le_trans h.size k.size,fun i hi hx => (k.block i (Nat.lt_of_lt_of_le hi h.size) (fun hc => hx (he i hi hc))).trans (h.block i hi hx)⟩
theorem Chg.of_grown {ex : Nat → Prop} {a b : World} {row : Option Nat} (h : a.grownBy b row) (he : ∀ g,row = some g → ex g) : Chg ex a b :=
 ⟨h.os,h.tape,h.output,h.size,fun k hk hx => h.block k hk (fun e => hx (he k e.symm))⟩
theorem Chg.of_below {ex : Nat → Prop} {a b : World} (h : Below a.heap.size a b) : Chg ex a b := ⟨h.os,h.tape,h.output,h.size,fun k hk _ => h.block k hk⟩
theorem Chg.set (w : World) (q i : Nat) (v : Value) : Chg (fun k => k = q) w (w.setCell ⟨q,i,none⟩ v) := ⟨rfl,rfl,rfl,by simp [World.setCell],fun k _ hx => Below.heap_setCell _ _ _ _ hx⟩
theorem Chg.below {ex : Nat → Prop} {B : Nat} {a b : World} (h : Chg ex a b) (hB : B ≤ a.heap.size) (he : ∀ i,i < B → ¬ ex i) : Below B a b := ⟨h.os,h.tape,h.output,h.size,fun k hk => h.block k (by omega) (he k hk)⟩
theorem Chg.row {ex : Nat → Prop} {a b : World} {g : Nat} {t : TypeId} {cs : List Value} (h : Chg ex a b) (hr : Row a g t cs) (hx : ¬ ex g) : Row b g t cs := (h.block g hr.lt hx).trans hr
theorem Chg.qr {ex : Nat → Prop} {a b : World} {g cap : Nat} {l : List Ent} (h : Chg ex a b) (hr : QR a g cap l) (hx : ¬ ex g) : QR b g cap l := hr.heap (h.block g hr.lt hx)
theorem Chg.cell {ex : Nat → Prop} {a b : World} (h : Chg ex a b) {p : Addr} (hp : p.block < a.heap.size) (hx : ¬ ex p.block) : b.cell? p = a.cell? p := World.cell?_of_block (h.block p.block hp hx)
theorem or_any (g : Nat) (x y : Int) (w : World) (hx : w.cell? ⟨g,0,none⟩ = some (.int .i64 x)) (hy : w.cell? ⟨g,1,none⟩ = some (.int .i64 y)) :
  Calls Tryz.prog 155 #[.slice (some ⟨g,0,none⟩) 2 2] w fun r w' => r = .returned (.int .i64 (if x = 0 then y else x)) ∧ w = w' := by
 by_cases h0 : x = 0
 ·subst h0
  rw [if_pos rfl]
  by_cases h1 : y = 0
  ·subst h1
   go_enter Tryz.func155,Tryz.ntmps155
   go_wp2
   refine wp_loop_rounds 3 ?_
   iterate 3 (rw [rounds_succ];go_wp2)
   go_ret
   exact ⟨rfl,rfl⟩
  ·have hne : (y != 0) = true := by simpa using h1
   go_enter Tryz.func155,Tryz.ntmps155
   go_wp2
   refine wp_loop_rounds 3 ?_
   iterate 2 (rw [rounds_succ];go_wp2)
   go_ret
   exact ⟨rfl,rfl⟩
 ·have hne : (x != 0) = true := by simpa using h0
  rw [if_neg h0]
  go_enter Tryz.func155,Tryz.ntmps155
  go_wp2
  refine wp_loop_rounds 3 ?_
  rw [rounds_succ]
  go_wp2
  go_ret
  exact ⟨rfl,rfl⟩
theorem qlen_any (A : Option Addr) (n c : Nat) (w : World) : Calls Tryz.prog 38 #[.slice A n c] w fun r w' => r = .returned (.int .i64 (n : Int)) ∧ w = w' := by
 go_enter Tryz.func38,Tryz.ntmps38
 go_wp2
 go_ret
 exact ⟨rfl,rfl⟩
theorem assert_reached (cs : Array Value) (w : World) : (Instr.typeAssert (.iface 54 (.agg cs)) 20 54 false).run Tryz.prog w = .ok (.agg cs) w := by kernel_rfl
theorem load_queue (q : Nat) (v : Value) (w : World) (h : w.cell? ⟨q,0,none⟩ = some v) : (loadVar 89 ⟨q,0,none⟩).run Tryz.prog w = .ok v w := by
 simp [loadVar,h]
theorem meth_deref (name : String) (f : FuncId) (q : Nat) (v : Value) (w : World) (h : w.cell? ⟨q,0,none⟩ = some v)
  (hm : ∀ (a : Addr) (w : World),(method 305 88 (.pointer (some a)) name).run Tryz.prog w = ((loadVar 89 a >>= fun v => pure (f,v) : Sem (FuncId × Value))).run Tryz.prog w) :
  (method 305 88 (.pointer (some ⟨q,0,none⟩)) name).run Tryz.prog w = .ok (f,v) w := by
 rw [hm,Sem.run_bind,load_queue q v w h]
 rfl
theorem meth_len (a : Addr) (w : World) : (method 305 88 (.pointer (some a)) "Len").run Tryz.prog w = ((loadVar 89 a >>= fun v => pure (38,v) : Sem (FuncId × Value))).run Tryz.prog w := by kernel_rfl
theorem meth_less (a : Addr) (w : World) : (method 305 88 (.pointer (some a)) "Less").run Tryz.prog w = ((loadVar 89 a >>= fun v => pure (151,v) : Sem (FuncId × Value))).run Tryz.prog w := by kernel_rfl
theorem meth_swap (a : Addr) (w : World) : (method 305 88 (.pointer (some a)) "Swap").run Tryz.prog w = ((loadVar 89 a >>= fun v => pure (154,v) : Sem (FuncId × Value))).run Tryz.prog w := by kernel_rfl
theorem meth_push (a : Addr) (w : World) : (method 305 88 (.pointer (some a)) "Push").run Tryz.prog w = .ok (153,.pointer (some a)) w := by kernel_rfl
theorem meth_pop (a : Addr) (w : World) : (method 305 88 (.pointer (some a)) "Pop").run Tryz.prog w = .ok (152,.pointer (some a)) w := by kernel_rfl
structure Qm (w : World) (q g cap : Nat) (l : List Ent) : Prop where
 ptr : Row w q 89 [.slice (some ⟨g,0,none⟩) l.length cap]
 row : QR w g cap l
 ne : q ≠ g
theorem QR.own {w : World} {g cap : Nat} {l : List Ent} (h : QR w g cap l) : w.ownsRow 0 54 3 (.slice (some ⟨g,0,none⟩) l.length cap) l.length (l.flatMap Ent.cells) := by
 obtain ⟨cur,h,h1,h2,h3,h4⟩ := h
 exact ⟨by have := Nat.mul_le_mul_right 3 h1;rw [← h4,List.length_take,show cur.toList.length = cap * 3 by simpa using h3];omega,.inr ⟨g,cap,cur,rfl,Nat.zero_le _,h,h1,h2,h3,h4⟩⟩
theorem QR.of_own {w : World} {v : Value} {l : List Ent} (h : w.ownsRow 0 54 3 v l.length (l.flatMap Ent.cells)) (hl : 0 < l.length) : ∃ g cap,v = .slice (some ⟨g,0,none⟩) l.length cap ∧ QR w g cap l := by
 rcases h.2 with ⟨_,h0⟩ | ⟨g,cap,cur,rfl,_,h1,h2,h3,h4,h5⟩
 ·omega
 ·exact ⟨g,cap,rfl,cur,h1,h2,h3,h4,h5⟩
theorem qpush_any (q g cap : Nat) (l : List Ent) (x : Ent) (w : World) (h : Qm w q g cap l) (hl : l.length ≤ 16384) :
  Calls Tryz.prog 153 #[.pointer (some ⟨q,0,none⟩),.iface 54 (.agg x.cells.toArray)] w fun r w' => r = .returned (.tuple #[]) ∧ ∃ g' cap',Qm w' q g' cap' (l ++ [x]) ∧ (g' = g ∨ w.heap.size ≤ g') ∧ Chg (fun k => k = q ∨ k = g) w w' := by
 have q0 := h.ptr.cell (i := 0) rfl
 have hown := h.row.own
 obtain ⟨n,hn⟩ : ∃ n,l.length = n := ⟨_,rfl⟩
 obtain ⟨XS,hXS⟩ : ∃ X,l.flatMap Ent.cells = X := ⟨_,rfl⟩
 have HP := Lib.hid h
 have HN := Lib.hid hn
 have HX := Lib.hid hXS
 rw [hn] at q0 hl
 rw [hn,hXS] at hown
 have hql := h.ptr.lt
 have hgl := h.row.lt
 have hne := h.ne
 have HO := Lib.hid hown
 obtain ⟨m,c,s⟩ := x
 show Calls _ _ #[_,.iface _ (.agg #[.int .u64 (m : Int),.int .i64 c,.int .i64 s])] _ _
 obtain ⟨ii,hii,hzz⟩ := Option.map_eq_some_iff.1 (show (Tryz.prog.info? 54).map (fun i => (i.zero,i.size,i.bytes)) = some (some (.agg #[.int .u64 0,.int .i64 0,.int .i64 0]),3,24) by kernel_rfl)
 simp only [Prod.mk.injEq] at hzz
 have HII : Hid (Tryz.prog.info? 54 = some ii ∧ ii.zero = some (.agg #[.int .u64 0,.int .i64 0,.int .i64 0]) ∧ ii.size = 3 ∧ ii.bytes = 24) := ⟨hii,hzz⟩
 have hq : Row ((w.alloc (.cells #[.int .u64 (m : Int),.int .i64 c,.int .i64 s] 54)).drew) q 89 [.slice (some ⟨g,0,none⟩) n cap] := by
  have := h.ptr.alloc (.cells #[.int .u64 (m : Int),.int .i64 c,.int .i64 s] 54)
  rw [hn] at this
  exact this
 have HO1 : Hid (((w.alloc (.cells #[.int .u64 (m : Int),.int .i64 c,.int .i64 s] 54)).drew).ownsRow 0 54 3 (.slice (some ⟨g,0,none⟩) n cap) n XS) := HO.out.alloc (.cells #[.int .u64 (m : Int),.int .i64 c,.int .i64 s] 54)
 have HRD : Hid (Rd ((w.alloc (.cells #[.int .u64 (m : Int),.int .i64 c,.int .i64 s] 54)).drew) (w.heap.size + 1) 3 (some ⟨w.heap.size,0,none⟩) 1 [.int .u64 (m : Int),.int .i64 c,.int .i64 s]) := by
  refine ⟨rfl,fun _ => ⟨w.heap.size,0,rfl,by omega,fun i v hv => ?_⟩⟩
  show (w.alloc (.cells #[.int .u64 (m : Int),.int .i64 c,.int .i64 s] 54)).cell? _ = _
  rw [cell_of_row _ w.heap.size (0 + i) _ _ _ (heap_alloc_new w _),Nat.zero_add]
  simpa using hv
 have HQ1 : Hid (∀ w1,((w.alloc (.cells #[.int .u64 (m : Int),.int .i64 c,.int .i64 s] 54)).drew).grownBy w1 (some g) → Row w1 q 89 [.slice (some ⟨g,0,none⟩) n cap]) := fun w1 hg => hq.grown hg (by intro e;injection e;omega)
 have HV1 : Hid (∀ (w1 : World) (v' : Value),w1.ownsRow 0 54 3 v' (n + 1) (XS ++ [.int .u64 (m : Int),.int .i64 c,.int .i64 s]) → ∃ g1 cap1,v' = .slice (some ⟨g1,0,none⟩) (n + 1) cap1 ∧ QR w1 g1 cap1 (l ++ [⟨m,c,s⟩])) := fun w1 v' ho => by
  have hl1 : (l ++ [Ent.mk m c s]).length = n + 1 := by rw [List.length_append,hn];rfl
  have hx1 : (l ++ [Ent.mk m c s]).flatMap Ent.cells = XS ++ [.int .u64 (m : Int),.int .i64 c,.int .i64 s] := by rw [List.flatMap_append,hXS];rfl
  rw [← hl1,← hx1] at ho
  have := QR.of_own ho (by rw [hl1];omega)
  rw [hl1] at this
  exact this
 have HEND : Hid (∀ (w1 : World) (g1 cap1 : Nat),QR w1 g1 cap1 (l ++ [⟨m,c,s⟩]) → ((w.alloc (.cells #[.int .u64 (m : Int),.int .i64 c,.int .i64 s] 54)).drew).grownBy w1 (some g) → ((Value.slice (some ⟨g1,0,none⟩) (n + 1) cap1).ownBlock = some g ∨ (Value.slice (some ⟨g1,0,none⟩) (n + 1) cap1).ownBlock = some (w.heap.size + 1)) →
   ∃ g' cap',Qm (w1.setCell ⟨q,0,none⟩ (.slice (some ⟨g1,0,none⟩) (n + 1) cap1)) q g' cap' (l ++ [⟨m,c,s⟩]) ∧ (g' = g ∨ w.heap.size ≤ g') ∧ Chg (fun k => k = q ∨ k = g) w (w1.setCell ⟨q,0,none⟩ (.slice (some ⟨g1,0,none⟩) (n + 1) cap1))) := fun w1 g1 cap1 hr hg hb => by
  have hb1 : g1 = g ∨ g1 = w.heap.size + 1 := by
   rcases hb with hb | hb
   ·exact .inl (Option.some.inj hb)
   ·exact .inr (Option.some.inj hb)
  have hqg : q ≠ g1 := by omega
  refine ⟨g1,cap1,⟨?_,hr.heap (Below.heap_setCell w1 _ _ g1 (by show g1 ≠ q;omega)),hqg⟩,by omega,?_⟩
  ·have := (HQ1.out w1 hg).set 0 (.slice (some ⟨g1,0,none⟩) (n + 1) cap1)
   rw [show (l ++ [Ent.mk m c s]).length = n + 1 by rw [List.length_append,hn];rfl]
   exact this
  ·have h1 : Chg (fun k => k = q ∨ k = g) w w1 := (Chg.of_below (ex := fun k => k = q ∨ k = g) ((Below.refl w.heap.size w).alloc (Nat.le_refl _) (.cells #[.int .u64 (m : Int),.int .i64 c,.int .i64 s] 54)).drew).trans (Chg.of_grown (ex := fun k => k = q ∨ k = g) hg (fun k e => .inr (Option.some.inj e).symm)) (fun _ _ h => h)
   exact h1.trans (Chg.set w1 q 0 _) (fun i _ h => .inl h)
 clear h hn hXS hown hii hzz hq
 go_enter Tryz.func153,Tryz.ntmps153
 go_wp2
 refine wp_region_tree (fun _ => True) (.take 0 (.take 1 (.take 2 (.take 4 (.take 5 (.two 3 (.one 6 (.one 7 (.take 8 (.one 9 .done)))) 6 (.one 3 (.one 7 (.take 8 (.one 9 .done)))))))))) (by kernel_rfl) (by kernel_rfl) (by kernel_rfl) (by kernel_rfl) (fun x _ _ _ _ h => by cases x <;> exact h) trivial ?_
 iterate 5 (refine wpOT_take rfl _ (by rfl) (by intro w' hS;have hta := assert_reached #[.int .u64 (m : Int),.int .i64 c,.int .i64 s] w';go_simp;try with_reducible rfl) fun KK hKK => ?_;go_simp;refine hKK _ ?_;clear hKK KK)
 refine wpOT_two rfl (by rfl) rfl (by rfl) (fun KK hKK => ?_) (fun KK hKK => ?_)
 ·go_simp
  refine hKK _ _ trivial ?_
  clear hKK KK
  refine wpOT_one rfl (by rfl) fun KK hKK => ?_
  go_simp
  refine hKK _ _ trivial ?_
  clear hKK KK
  refine wpOT_one rfl (by rfl) fun KK hKK => ?_
  refine wp_append_rd _ (.tmp 7) (.tmp 10) 89 rfl 0 54 ii (.agg #[.int .u64 0,.int .i64 0,.int .i64 0]) 3 24 Tryz.underlying89 HII.out.1 HII.out.2.1 HII.out.2.2.1 HII.out.2.2.2 rfl (by decide) (.slice (some ⟨g,0,none⟩) n cap) n XS rfl HO1.out (w.heap.size + 1) (some ⟨w.heap.size,0,none⟩) 1 1 [.int .u64 (m : Int),.int .i64 c,.int .i64 s] rfl ?_ (by intro u hu;simp at hu;rcases hu with rfl | rfl | rfl <;> rfl) (by unfold maxLen;omega) (by omega) (Nat.zero_le _) ?_
  ·exact HRD.out
  intro v' w1 hown1 hg1 hb1
  refine hKK _ _ trivial ?_
  clear hKK KK
  have HW1 := Lib.hid (And.intro hown1 (And.intro hg1 hb1))
  have HPT : Hid (Row w1 q 89 [.slice (some ⟨g,0,none⟩) n cap]) := HQ1.out w1 hg1
  have q1 := HPT.out.cell (i := 0) rfl
  have f1 := HPT.out.frozen 0
  clear hown1 hg1 hb1
  obtain ⟨g1,cap1,hv',hqr1⟩ := HV1.out w1 v' HW1.out.1
  subst hv'
  refine wpOT_take rfl _ (by rfl) (by intro w' hS;skip;go_simp;try with_reducible rfl) fun KK hKK => ?_
  go_simp
  refine hKK _ ?_
  clear hKK KK
  refine wpOT_one rfl (by rfl) fun KK hKK => ?_
  go_simp
  refine hKK _ _ trivial ?_
  clear hKK KK
  refine wpOT_done ?_
  go_end0
  exact ⟨rfl,HEND.out w1 g1 cap1 hqr1 HW1.out.2.1 (by have := HW1.out.2.2;rwa [World.size_drew,World.size_alloc] at this)⟩
 ·go_simp
  refine hKK _ _ trivial ?_
  clear hKK KK
  refine wpOT_one rfl (by rfl) fun KK hKK => ?_
  go_simp
  refine hKK _ _ trivial ?_
  clear hKK KK
  refine wpOT_one rfl (by rfl) fun KK hKK => ?_
  refine wp_append_rd _ (.tmp 7) (.tmp 10) 89 rfl 0 54 ii (.agg #[.int .u64 0,.int .i64 0,.int .i64 0]) 3 24 Tryz.underlying89 HII.out.1 HII.out.2.1 HII.out.2.2.1 HII.out.2.2.2 rfl (by decide) (.slice (some ⟨g,0,none⟩) n cap) n XS rfl HO1.out (w.heap.size + 1) (some ⟨w.heap.size,0,none⟩) 1 1 [.int .u64 (m : Int),.int .i64 c,.int .i64 s] rfl ?_ (by intro u hu;simp at hu;rcases hu with rfl | rfl | rfl <;> rfl) (by unfold maxLen;omega) (by omega) (Nat.zero_le _) ?_
  ·exact HRD.out
  intro v' w1 hown1 hg1 hb1
  refine hKK _ _ trivial ?_
  clear hKK KK
  have HW1 := Lib.hid (And.intro hown1 (And.intro hg1 hb1))
  have HPT : Hid (Row w1 q 89 [.slice (some ⟨g,0,none⟩) n cap]) := HQ1.out w1 hg1
  have q1 := HPT.out.cell (i := 0) rfl
  have f1 := HPT.out.frozen 0
  clear hown1 hg1 hb1
  obtain ⟨g1,cap1,hv',hqr1⟩ := HV1.out w1 v' HW1.out.1
  subst hv'
  refine wpOT_take rfl _ (by rfl) (by intro w' hS;skip;go_simp;try with_reducible rfl) fun KK hKK => ?_
  go_simp
  refine hKK _ ?_
  clear hKK KK
  refine wpOT_one rfl (by rfl) fun KK hKK => ?_
  go_simp
  refine hKK _ _ trivial ?_
  clear hKK KK
  refine wpOT_done ?_
  go_end0
  exact ⟨rfl,HEND.out w1 g1 cap1 hqr1 HW1.out.2.1 (by have := HW1.out.2.2;rwa [World.size_drew,World.size_alloc] at this)⟩
theorem less_val (a b c d : Int) : decide ((if cmpI a b = 0 then cmpI c d else cmpI a b) < 0) = (decide (a < b) || (decide (a = b) && decide (c < d))) := by
 unfold cmpI
 by_cases h1 : a < b <;> by_cases h2 : b < a <;> by_cases h3 : c < d <;> by_cases h4 : d < c <;> by_cases h5 : a = b <;> simp [h1,h2,h3,h4,h5] <;> omega
theorem qless_any (g cap i k : Nat) (l : List Ent) (w : World) (h : QR w g cap l) (hi : i < l.length) (hk : k < l.length) :
  Calls Tryz.prog 151 #[.slice (some ⟨g,0,none⟩) l.length cap,.int .i64 (i : Int),.int .i64 (k : Int)] w fun r w' => r = .returned (.bool (lessE (l.getD i dE) (l.getD k dE))) ∧ Below w.heap.size w w' := by
 obtain ⟨n,hn⟩ : ∃ n,l.length = n := ⟨_,rfl⟩
 have hgl := h.lt
 have HCE : Hid (∀ W,Below w.heap.size w W → W.cell? ⟨g,i * 3 + 1,none⟩ = some (.int .i64 (l.getD i dE).c) ∧ W.cell? ⟨g,i * 3 + 2,none⟩ = some (.int .i64 (l.getD i dE).s) ∧ W.cell? ⟨g,k * 3 + 1,none⟩ = some (.int .i64 (l.getD k dE).c) ∧ W.cell? ⟨g,k * 3 + 2,none⟩ = some (.int .i64 (l.getD k dE).s)) := fun W hW => by
  have h1 := h.cell hi
  have h2 := h.cell hk
  exact ⟨(hW.cell (p := ⟨g,i * 3 + 1,none⟩) hgl).trans h1.2.1,(hW.cell (p := ⟨g,i * 3 + 2,none⟩) hgl).trans h1.2.2,(hW.cell (p := ⟨g,k * 3 + 1,none⟩) hgl).trans h2.2.1,(hW.cell (p := ⟨g,k * 3 + 2,none⟩) hgl).trans h2.2.2⟩
 unfold lessE
 have hlv := less_val (l.getD i dE).c (l.getD k dE).c (l.getD i dE).s (l.getD k dE).s
 rw [← hlv]
 clear hlv
 obtain ⟨IC,eIC⟩ : ∃ x,(l.getD i dE).c = x := ⟨_,rfl⟩
 obtain ⟨IS,eIS⟩ : ∃ x,(l.getD i dE).s = x := ⟨_,rfl⟩
 obtain ⟨KC,eKC⟩ : ∃ x,(l.getD k dE).c = x := ⟨_,rfl⟩
 obtain ⟨KS,eKS⟩ : ∃ x,(l.getD k dE).s = x := ⟨_,rfl⟩
 rw [eIC,eIS,eKC,eKS] at HCE ⊢
 obtain ⟨C1,eC1⟩ : ∃ x,cmpI IC KC = x := ⟨_,rfl⟩
 obtain ⟨C2,eC2⟩ : ∃ x,cmpI IS KS = x := ⟨_,rfl⟩
 have HM1 : Hid (∀ W,Calls Tryz.prog 61 #[.int .i64 IC,.int .i64 KC] W fun r w' => r = .returned (.int .i64 C1) ∧ W = w') := fun W => by rw [← eC1];exact compare_any _ _ W
 have HM2 : Hid (∀ W,Calls Tryz.prog 61 #[.int .i64 IS,.int .i64 KS] W fun r w' => r = .returned (.int .i64 C2) ∧ W = w') := fun W => by rw [← eC2];exact compare_any _ _ W
 rw [eC1,eC2]
 obtain ⟨R,eR⟩ : ∃ x,(if C1 = 0 then C2 else C1) = x := ⟨_,rfl⟩
 have HOR : Hid (Calls Tryz.prog 155 #[.slice (some ⟨w.heap.size,0,none⟩) 2 2] (w.alloc (.cells #[.int .i64 C1,.int .i64 C2] 3)).drew fun r w' => r = .returned (.int .i64 R) ∧ (w.alloc (.cells #[.int .i64 C1,.int .i64 C2] 3)).drew = w') := by
  rw [← eR]
  refine or_any w.heap.size C1 C2 _ ?_ ?_
  ·show (w.alloc _).cell? _ = _
   rw [cell_of_row _ w.heap.size 0 _ _ _ (heap_alloc_new w _)];rfl
  ·show (w.alloc _).cell? _ = _
   rw [cell_of_row _ w.heap.size 1 _ _ _ (heap_alloc_new w _)];rfl
 rw [eR]
 have HBB : Hid (Below w.heap.size w (w.alloc (.cells #[.int .i64 C1,.int .i64 C2] 3)).drew) := ((Below.refl w.heap.size w).alloc (Nat.le_refl _) _).drew
 have HB0 : Hid (Below w.heap.size w w.drew) := (Below.refl w.heap.size w).drew
 rw [hn] at hi hk ⊢
 have k1 : (i : Int) < (n : Int) := by omega
 have k2 : (0 : Int) ≤ (i : Int) := by omega
 have k3 : (k : Int) < (n : Int) := by omega
 have k4 : (0 : Int) ≤ (k : Int) := by omega
 have HC := HCE
 clear h HCE eIC eIS eKC eKS eC1 eC2 eR hn
 go_enter Tryz.func151,Tryz.ntmps151
 go_wp2
 rename_i Kz hKz
 refine wp_region_ord (fun w' => Below w.heap.size w w') [(0,true),(1,true),(2,true),(3,true),(4,true),(5,true),(6,true),(7,true),(8,true),(9,true),(11,true),(12,true),(13,true),(14,true),(15,true),(16,true),(17,true),(18,true),(19,true),(20,true),(10,false),(21,false),(22,false),(23,false),(24,true),(25,true)] (by kernel_rfl) (by kernel_rfl) rfl (by kernel_rfl) (fun x _ _ _ _ h => by cases x <;> exact h) HB0.out ?_
 iterate 20 (first | (refine wpOrd_skip rfl (by rfl) fun KK hKK => ?_;go_simp;refine hKK _ ?_;clear hKK KK) | (refine wpOrd_take rfl _ (by rfl) (by intro w' hS;obtain ⟨a1,a2,b1,b2⟩ := HC.out w' hS;go_simp;try with_reducible rfl) fun KK hKK => ?_;go_simp;refine hKK _ ?_;clear hKK KK))
 refine wpOrd_force rfl (by rfl) fun KK hKK => ?_
 go_simp
 refine (HM1.out _).mono ?_
 rintro x w1 ⟨rfl,rfl⟩
 refine hKK _ _ HB0.out ?_
 clear hKK KK
 refine wpOrd_force rfl (by rfl) fun KK hKK => ?_
 go_simp
 refine (HM2.out _).mono ?_
 rintro x w1 ⟨rfl,rfl⟩
 refine hKK _ _ HB0.out ?_
 clear hKK KK
 refine wpOrd_force rfl (by rfl) fun KK hKK => ?_
 go_simp
 refine hKK _ _ HBB.out ?_
 clear hKK KK
 refine wpOrd_force rfl (by rfl) fun KK hKK => ?_
 go_simp
 refine HOR.out.mono ?_
 rintro x w1 ⟨rfl,rfl⟩
 refine hKK _ _ HBB.out ?_
 clear hKK KK
 iterate 2 (first | (refine wpOrd_skip rfl (by rfl) fun KK hKK => ?_;go_simp;refine hKK _ ?_;clear hKK KK) | (refine wpOrd_take rfl _ (by rfl) (by intro w' hS;obtain ⟨a1,a2,b1,b2⟩ := HC.out w' hS;go_simp;try with_reducible rfl) fun KK hKK => ?_;go_simp;refine hKK _ ?_;clear hKK KK))
 refine wpOrd_nil ?_
 show Kz _ _
 refine hKz _ _ ?_
 go_simp
 go_wp2
 go_ret
 exact ⟨rfl,HBB.out⟩
end Go.Proofs.YtjcpjhlclpdpjaaGreat
namespace Go.Proofs.YtjcpjhlclpdpjaaGreat
open Go.RowKit
attribute [local go_sem] Oper.semAt_some
theorem grown_of_drew {w w' : World} {r : Option Nat} (h : w.drew.grownBy w' r) : w.grownBy w' r := ⟨h.os,h.tape,h.output,h.size,h.block⟩
theorem Ent.len (x : Ent) : x.cells.length = 3 := rfl
theorem Ent.one (x : Ent) : ∀ u ∈ x.cells,u.oneCell' = true := by
 intro u hu
 simp [Ent.cells] at hu
 rcases hu with rfl | rfl | rfl <;> rfl
theorem flat_len (l : List Ent) : (l.flatMap Ent.cells).length = l.length * 3 := by
 induction l with
 | nil => rfl
 | cons x l ih => rw [List.flatMap_cons,List.length_append,ih,Ent.len,List.length_cons];omega
theorem flat_set (y : Ent) : ∀ (l : List Ent) (i : Nat),i < l.length → (l.set i y).flatMap Ent.cells = (l.flatMap Ent.cells).take (i * 3) ++ y.cells ++ (l.flatMap Ent.cells).drop (i * 3 + 3)
 | [],i,h => by simp at h
 | x :: l,0,_ => by
  simp only [List.set_cons_zero,List.flatMap_cons,Nat.zero_mul,List.take_zero,List.nil_append,Nat.zero_add]
  rw [List.drop_append_of_le_length (by rw [Ent.len];omega),List.drop_of_length_le (by rw [Ent.len];omega),List.nil_append]
 | x :: l,i + 1,h => by
  have ih := flat_set y l i (by simpa using h)
  simp only [List.set_cons_succ,List.flatMap_cons]
  rw [ih,show (i + 1) * 3 = i * 3 + 3 by omega]
  have ex : x.cells = [.int .u64 (x.m : Int),.int .i64 x.c,.int .i64 x.s] := rfl
  rw [ex]
  simp only [List.cons_append,List.nil_append,List.take_succ_cons,List.drop_succ_cons]
theorem take_splice {α : Type} (c cs : List α) (off N : Nat) (h : off + cs.length ≤ N) (hN : N ≤ c.length) : (c.take off ++ cs ++ c.drop (off + cs.length)).take N = (c.take N).take off ++ cs ++ (c.take N).drop (off + cs.length) := by
 have h1 : (c.take off ++ cs).length = off + cs.length := by rw [List.length_append,List.length_take];omega
 rw [List.take_append,h1,List.take_of_length_le (by omega),List.take_take,show min off N = off by omega,List.drop_take]
theorem QR.store {w w' : World} {g cap : Nat} {l : List Ent} (y : Ent) {i : Nat} (hi : i < l.length) {cur : Array Value} (h1 : l.length ≤ cap) (h2 : cap ≤ maxLen) (h3 : cur.size = cap * 3) (h4 : cur.toList.take (l.length * 3) = l.flatMap Ent.cells)
  (hw : w'.heap[g]? = some (.cells (cur.toList.take (i * 3) ++ y.cells ++ cur.toList.drop (i * 3 + y.cells.length)).toArray 54 (0,0))) : QR w' g cap (l.set i y) := by
 have hc : cur.toList.length = cap * 3 := by simpa using h3
 have hm := Nat.mul_le_mul_right 3 h1
 refine ⟨_,hw,by rw [List.length_set];exact h1,h2,?_,?_⟩
 ·rw [List.size_toArray,List.length_append,List.length_append,List.length_take,List.length_drop,hc,Ent.len];omega
 ·rw [List.length_set]
  have := take_splice cur.toList y.cells (i * 3) (l.length * 3) (by rw [Ent.len];omega) (by rw [hc];omega)
  rw [flat_set y l i hi,← h4]
  exact this
theorem wp_store_at {P : Program} {o : Oper} {a : Act} {w : World} {K : Act → World → Prop} {Q : Exit → Act → World → Prop} (ty : TypeId) (x y : Operand) (ho : o.op = .store ty x y)
  (g off : Nat) (cs : List Value) (hx : a.eval x = .pointer (some ⟨g,off,none⟩)) (hy : a.eval y = .agg cs.toArray)
  (t : TypeId) (cur : Array Value) (hg : w.heap[g]? = some (.cells cur t (0,0))) (hfit : off + cs.length ≤ cur.size) (hi : (P.info? ty).map (·.size) = some cs.length) (h1 : ∀ u ∈ cs,u.oneCell' = true)
  (h : ∀ w',w'.heap[g]? = some (.cells (cur.toList.take off ++ cs ++ cur.toList.drop (off + cs.length)).toArray t (0,0)) → w.grownBy w' (some g) → K (a.put o.dst undef) w') : o.wp P a w K Q := by
 have hrun := run_storeCells_at P g off t cs 0 cur w hg (by simpa using hfit) h1
 simp only [Nat.add_zero] at hrun
 have hsv : (storeVar ty ⟨g,off,none⟩ (.agg cs.toArray)).run P w = .ok () (w.setRow g (cur.toList.take off ++ cs ++ cur.toList.drop (off + cs.length)).toArray) := by
  cases hq : P.info? ty with
  | none => simp [hq] at hi
  | some i =>
   have hs : cs.length = i.size := by simp [hq] at hi;omega
   simp [storeVar,sizeOf,typeInfo,hq,Value.cells,← hs,hrun]
 unfold Oper.wp execOp
 simp only [ho,hx,hy,Instr.storeAt,Instr.sureAddr,Sem.run_bind,Sem.run_pure,Result.andThen_ok,hsv]
 exact h _ (setRow_heap w g cur _ t (0,0) hg) (grown_row _)
theorem info_reached : (Tryz.prog.info? 54).map (·.size) = some 3 := by kernel_rfl
theorem wp_store_ent {o : Oper} {a : Act} {w : World} {K : Act → World → Prop} {Q : Exit → Act → World → Prop} (x y : Operand) (ho : o.op = .store 54 x y)
  (g cap : Nat) (l : List Ent) (i : Nat) (z : Ent) (hi : i < l.length) (hr : QR w g cap l) (hx : a.eval x = .pointer (some ⟨g,i * 3,none⟩)) (hy : a.eval y = .agg z.cells.toArray)
  (h : ∀ w',QR w' g cap (l.set i z) → w.grownBy w' (some g) → K (a.put o.dst undef) w') : o.wp Tryz.prog a w K Q := by
 obtain ⟨cur,hg,h1,h2,h3,h4⟩ := hr
 refine wp_store_at 54 x y ho g (i * 3) z.cells hx hy _ cur hg (by rw [h3,Ent.len];have := Nat.mul_le_mul_right 3 h1;omega) info_reached z.one fun w' hw hgr => ?_
 exact h w' (QR.store (w := w) z hi h1 h2 h3 h4 hw) hgr
theorem QR.load {w : World} {g cap : Nat} {l : List Ent} (h : QR w g cap l) {k : Nat} (hk : k < l.length) : ∀ (j : Nat) (v : Value),(l.getD k dE).cells[j]? = some v → w.cell? ((⟨g,k * 3,none⟩ : Addr).add j) = some v := by
 obtain ⟨h0,h1,h2⟩ := h.cell hk
 intro j v hv
 rw [Addr.add_flat]
 match j,hv with
 | 0,hv => rw [← Option.some.inj hv];exact h0
 | 1,hv => rw [← Option.some.inj hv];exact h1
 | 2,hv => rw [← Option.some.inj hv];exact h2
 | j + 3,hv => simp [Ent.cells] at hv
theorem qswap_any (g cap i k : Nat) (l : List Ent) (w : World) (h : QR w g cap l) (hi : i < l.length) (hk : k < l.length) :
  Calls Tryz.prog 154 #[.slice (some ⟨g,0,none⟩) l.length cap,.int .i64 (i : Int),.int .i64 (k : Int)] w fun r w' => r = .returned (.tuple #[]) ∧ QR w' g cap (swp l i k) ∧ w.grownBy w' (some g) := by
 obtain ⟨n,hn⟩ : ∃ n,l.length = n := ⟨_,rfl⟩
 have HR : Hid (QR w.drew g cap l) := h
 have HI : Hid (i < l.length) := hi
 unfold swp
 have HLI : Hid (∀ (j : Nat) (v : Value),(l.getD i dE).cells[j]? = some v → w.drew.cell? ((⟨g,i * 3,none⟩ : Addr).add j) = some v) := h.load hi
 have HLK : Hid (∀ (j : Nat) (v : Value),(l.getD k dE).cells[j]? = some v → w.drew.cell? ((⟨g,k * 3,none⟩ : Addr).add j) = some v) := h.load hk
 obtain ⟨X,hX⟩ : ∃ X,l.getD i dE = X := ⟨_,rfl⟩
 obtain ⟨Y,hY⟩ : ∃ Y,l.getD k dE = Y := ⟨_,rfl⟩
 rw [hX] at HLI ⊢
 rw [hY] at HLK ⊢
 have HKL : Hid (k < (l.set i Y).length) := by show _ < _;rw [List.length_set];exact hk
 rw [hn] at hi hk ⊢
 have k1 : (i : Int) < (n : Int) := by omega
 have k2 : (0 : Int) ≤ (i : Int) := by omega
 have k3 : (k : Int) < (n : Int) := by omega
 have k4 : (0 : Int) ≤ (k : Int) := by omega
 clear h hX hY hn hi hk
 go_enter Tryz.func154,Tryz.ntmps154
 go_wp2
 refine wp_region_tree (fun _ => True) (.take 0 (.take 1 (.take 2 (.take 3 (.take 4 (.take 5 (.take 6 (.take 8 (.take 9 (.take 10 (.two 7 (.one 11 (.take 12 (.one 13 (.take 14 (.one 15 .done))))) 11 (.one 7 (.take 12 (.one 13 (.take 14 (.one 15 .done)))))))))))))))) (by kernel_rfl) (by kernel_rfl) (by kernel_rfl) (by kernel_rfl) (fun x _ _ _ _ h => by cases x <;> exact h) trivial ?_
 iterate 10 (refine wpOT_take rfl _ (by rfl) (by intro w' hS;skip;go_simp;try with_reducible rfl) fun KK hKK => ?_;go_simp;refine hKK _ ?_;clear hKK KK)
 refine wpOT_two rfl (by rfl) rfl (by rfl) (fun KK hKK => ?_) (fun KK hKK => ?_)
 ·refine wp_load_cells 54 (.tmp 12) rfl ⟨g,k * 3,none⟩ (by rfl) Y.cells _ (HLK.out) Tryz.underlying54 (by rfl) (by rw [Ent.len];exact info_reached) ?_
  refine hKK _ _ trivial ?_
  clear hKK KK
  refine wpOT_one rfl (by rfl) fun KK hKK => ?_
  refine wp_load_cells 54 (.tmp 16) rfl ⟨g,i * 3,none⟩ (by rfl) X.cells _ (HLI.out) Tryz.underlying54 (by rfl) (by rw [Ent.len];exact info_reached) ?_
  refine hKK _ _ trivial ?_
  clear hKK KK
  refine wpOT_take rfl _ (by rfl) (by intro w' hS;skip;go_simp;try with_reducible rfl) fun KK hKK => ?_
  go_simp
  refine hKK _ ?_
  clear hKK KK
  refine wpOT_one rfl (by rfl) fun KK hKK => ?_
  refine wp_store_ent (.tmp 18) (.tmp 13) rfl g cap l i Y HI.out HR.out (by rfl) (by rfl) fun w1 hr1 hg1 => ?_
  refine hKK _ _ trivial ?_
  clear hKK KK
  have HR1 := Lib.hid (And.intro hr1 hg1)
  clear hr1 hg1
  refine wpOT_take rfl _ (by rfl) (by intro w' hS;skip;go_simp;try with_reducible rfl) fun KK hKK => ?_
  go_simp
  refine hKK _ ?_
  clear hKK KK
  refine wpOT_one rfl (by rfl) fun KK hKK => ?_
  refine wp_store_ent (.tmp 19) (.tmp 17) rfl g cap (l.set i Y) k X HKL.out HR1.out.1 (by rfl) (by rfl) fun w2 hr2 hg2 => ?_
  refine hKK _ _ trivial ?_
  clear hKK KK
  refine wpOT_done ?_
  go_end0
  exact ⟨rfl,hr2,grown_then (grown_of_drew HR1.out.2) hg2 (fun j hj => .inr hj)⟩
 ·refine wp_load_cells 54 (.tmp 16) rfl ⟨g,i * 3,none⟩ (by rfl) X.cells _ (HLI.out) Tryz.underlying54 (by rfl) (by rw [Ent.len];exact info_reached) ?_
  refine hKK _ _ trivial ?_
  clear hKK KK
  refine wpOT_one rfl (by rfl) fun KK hKK => ?_
  refine wp_load_cells 54 (.tmp 12) rfl ⟨g,k * 3,none⟩ (by rfl) Y.cells _ (HLK.out) Tryz.underlying54 (by rfl) (by rw [Ent.len];exact info_reached) ?_
  refine hKK _ _ trivial ?_
  clear hKK KK
  refine wpOT_take rfl _ (by rfl) (by intro w' hS;skip;go_simp;try with_reducible rfl) fun KK hKK => ?_
  go_simp
  refine hKK _ ?_
  clear hKK KK
  refine wpOT_one rfl (by rfl) fun KK hKK => ?_
  refine wp_store_ent (.tmp 18) (.tmp 13) rfl g cap l i Y HI.out HR.out (by rfl) (by rfl) fun w1 hr1 hg1 => ?_
  refine hKK _ _ trivial ?_
  clear hKK KK
  have HR1 := Lib.hid (And.intro hr1 hg1)
  clear hr1 hg1
  refine wpOT_take rfl _ (by rfl) (by intro w' hS;skip;go_simp;try with_reducible rfl) fun KK hKK => ?_
  go_simp
  refine hKK _ ?_
  clear hKK KK
  refine wpOT_one rfl (by rfl) fun KK hKK => ?_
  refine wp_store_ent (.tmp 19) (.tmp 17) rfl g cap (l.set i Y) k X HKL.out HR1.out.1 (by rfl) (by rfl) fun w2 hr2 hg2 => ?_
  refine hKK _ _ trivial ?_
  clear hKK KK
  refine wpOT_done ?_
  go_end0
  exact ⟨rfl,hr2,grown_then (grown_of_drew HR1.out.2) hg2 (fun j hj => .inr hj)⟩
theorem QR.cut {w : World} {g cap : Nat} {l : List Ent} {x : Ent} (h : QR w g cap (l ++ [x])) : QR w g cap l := by
 obtain ⟨cur,h0,h1,h2,h3,h4⟩ := h
 rw [List.length_append,List.length_singleton] at h1 h4
 refine ⟨cur,h0,by omega,h2,h3,?_⟩
 have := congrArg (List.take (l.length * 3)) h4
 rw [List.take_take,show min (l.length * 3) ((l.length + 1) * 3) = l.length * 3 by omega,List.flatMap_append,List.take_append_of_le_length (by rw [flat_len];omega)] at this
 have e : List.take (l.length * 3) (l.flatMap Ent.cells) = l.flatMap Ent.cells := List.take_of_length_le (by rw [flat_len];omega)
 rw [e] at this
 exact this
theorem getD_last (l : List Ent) (x : Ent) : (l ++ [x]).getD l.length dE = x := by
 rw [List.getD_eq_getElem?_getD,List.getElem?_append_right (Nat.le_refl _),Nat.sub_self];rfl
theorem qpop_any (q g cap : Nat) (l : List Ent) (x : Ent) (w : World) (h : Qm w q g cap (l ++ [x])) :
  Calls Tryz.prog 152 #[.pointer (some ⟨q,0,none⟩)] w fun r w' => r = .returned (.iface 54 (.agg x.cells.toArray)) ∧ Qm w' q g cap l ∧ Chg (fun k => k = q) w w' := by
 have q0 := h.ptr.cell (i := 0) rfl
 have f0 := h.ptr.frozen 0
 have hl := h.row.cell (k := l.length) (by simp)
 rw [getD_last] at hl
 obtain ⟨a1,a2,a3⟩ := hl
 have hcap : l.length + 1 ≤ cap := by obtain ⟨_,_,h1,_⟩ := h.row;simpa using h1
 have hcm : cap ≤ 9223372036854775807 := by obtain ⟨_,_,_,h1,_⟩ := h.row;unfold maxLen at h1;omega
 have HP := Lib.hid h
 obtain ⟨m,c,s⟩ := x
 have hll : (l ++ [Ent.mk m c s]).length = l.length + 1 := by simp
 rw [hll] at q0
 obtain ⟨n,hn⟩ : ∃ n,l.length = n := ⟨_,rfl⟩
 rw [hn] at q0 a1 a2 a3 hcap
 have hql := h.ptr.lt
 have hgl := h.row.lt
 show Calls _ _ _ _ fun r w' => r = .returned (.iface _ (.agg #[.int .u64 (m : Int),.int .i64 c,.int .i64 s])) ∧ _
 have HEND : Hid (∀ W,W = (w.setCell ⟨q,0,none⟩ (.slice (some ⟨g,0,none⟩) n cap)).alloc (.cells #[.int .u64 (m : Int),.int .i64 c,.int .i64 s] 54) → Qm W q g cap l ∧ Chg (fun k => k = q) w W) := fun W hW => by
  subst hW
  refine ⟨⟨?_,?_,h.ne⟩,?_⟩
  ·have := (h.ptr.set 0 (.slice (some ⟨g,0,none⟩) n cap)).alloc (.cells #[.int .u64 (m : Int),.int .i64 c,.int .i64 s] 54)
   rw [hn]
   exact this
  ·exact h.row.cut.heap ((Below.heap_alloc _ _ g (by rw [World.size_setCell];exact hgl)).trans (Below.heap_setCell w _ _ g (by show g ≠ q;exact fun e => h.ne e.symm)))
  ·exact (Chg.set w q 0 _).trans (Chg.of_below ((Below.refl _ _).alloc (Nat.le_refl _) _)) (fun _ _ h => h)
 clear h hn hll
 go_enter Tryz.func152,Tryz.ntmps152
 go_wp2
 go_ret
 refine ⟨?_,?_⟩
 ·rfl
 ·exact HEND.out _ rfl
end Go.Proofs.YtjcpjhlclpdpjaaGreat
