import Derived.LoopIn
import Derived.LoopNIn
import Derived.OwnWalkIn
import Derived.RangeFuncBound
import Derived.RangeFuncCalls
import Derived.TacticsInMore
import Derived.Test.YtjcpjhlclpdpjaaGreatS05
import Derived.Test.YtjcpjhlclpdpjaaGreatS06
set_option linter.unusedVariables false
set_option maxRecDepth 100000
set_option maxHeartbeats 16000000
namespace Go.Proofs.YtjcpjhlclpdpjaaGreat
open Go.RowKit
attribute [local go_sem] Oper.semAt_some
structure Way where
 k : Int
 p : Int
 t : Nat
 c : Int
def Way.cells (x : Way) : List Value := [.int .i64 x.k,.int .i64 x.p,.int .u64 (x.t : Int),.int .i64 x.c]
abbrev encW (x : Way) : Array Value := #[.agg #[.int .i64 x.k,.int .i64 x.p,.int .u64 (x.t : Int),.int .i64 x.c]]
def Est.prc (e : Est) (κ i : Nat) : Int := if κ = 0 then (e.gh i).j else (e.gh i).l
def Est.way (e : Est) (m κ i : Nat) : Way := ⟨(κ : Int) + 1,(e.gh i).p,m ^^^ 2 ^ i,e.prc κ i⟩
def pos (m κ i : Nat) : Bool := m.testBit i == decide (κ = 1)
def Est.wk (e : Est) (m κ i : Nat) : List Way := ((List.range i).filter (fun j => pos m κ j)).map (e.way m κ)
def Est.wl (e : Est) (m κ i : Nat) : List Way := match κ with | 0 => e.wk m 0 i | _ + 1 => e.wk m 0 e.H.length ++ e.wk m 1 i
def Est.wall (e : Est) (m : Nat) : List Way := e.wk m 0 e.H.length ++ e.wk m 1 e.H.length
def Est.wpre (e : Est) (m : Nat) (pre : List Way) : Prop := ∃ κ i,κ < 2 ∧ i < e.H.length ∧ pos m κ i = true ∧ pre = e.wl m κ i ++ [e.way m κ i]
theorem wk_succ (e : Est) (m κ i : Nat) : e.wk m κ (i + 1) = e.wk m κ i ++ (if pos m κ i = true then [e.way m κ i] else []) := by
 unfold Est.wk
 rw [List.range_succ,List.filter_append,List.map_append]
 congr 1
 by_cases h : pos m κ i = true <;> simp [h]
theorem wk_len (e : Est) (m κ i : Nat) : (e.wk m κ i).length ≤ i := by
 unfold Est.wk
 rw [List.length_map]
 exact Nat.le_trans (List.length_filter_le _ _) (by simp)
theorem wl_yes {e : Est} {m κ i : Nat} (hκ : κ < 2) (h : pos m κ i = true) : e.wl m κ (i + 1) = e.wl m κ i ++ [e.way m κ i] := by
 match κ,hκ with
 | 0,_ => show e.wk m 0 (i + 1) = _;rw [wk_succ,if_pos h];rfl
 | 1,_ => show _ ++ e.wk m 1 (i + 1) = _;rw [wk_succ,if_pos h,← List.append_assoc];rfl
theorem wl_no {e : Est} {m κ i : Nat} (hκ : κ < 2) (h : pos m κ i = false) : e.wl m κ (i + 1) = e.wl m κ i := by
 match κ,hκ with
 | 0,_ => show e.wk m 0 (i + 1) = _;rw [wk_succ,if_neg (by rw [h];simp),List.append_nil];rfl
 | 1,_ => show _ ++ e.wk m 1 (i + 1) = _;rw [wk_succ,if_neg (by rw [h];simp),List.append_nil];rfl
theorem wl_next (e : Est) (m : Nat) : e.wl m 0 e.H.length = e.wl m 1 0 := by
 show e.wk m 0 e.H.length = e.wk m 0 e.H.length ++ e.wk m 1 0
 rw [show e.wk m 1 0 = [] from rfl,List.append_nil]
theorem wl_len {e : Est} {m κ i : Nat} (hκ : κ < 2) (hi : i < e.H.length) (hn : e.H.length ≤ 6) : (e.wl m κ i).length < 12 := by
 match κ,hκ with
 | 0,_ => have := wk_len e m 0 i;show (e.wk m 0 i).length < 12;omega
 | 1,_ => have := wk_len e m 0 e.H.length;have := wk_len e m 1 i;show (_ ++ e.wk m 1 i).length < 12;rw [List.length_append];omega
theorem way_mem {e : Est} {m κ i : Nat} (hκ : κ < 2) (hi : i < e.H.length) (hp : pos m κ i = true) : e.way m κ i ∈ e.wall m := by
 unfold Est.wall
 rw [List.mem_append]
 have h : e.way m κ i ∈ e.wk m κ e.H.length := List.mem_map.2 ⟨i,List.mem_filter.2 ⟨List.mem_range.2 hi,hp⟩,rfl⟩
 rcases (show κ = 0 ∨ κ = 1 by omega) with rfl | rfl
 ·exact .inl h
 ·exact .inr h
def KeepQ (ex : Nat → TypeId → Prop) (A B : World) : Prop := A.heap.size ≤ B.heap.size ∧ ∀ k cs t fr,A.heap[k]? = some (.cells cs t fr) → ¬ ex k t → B.heap[k]? = A.heap[k]?
theorem KeepQ.refl {ex : Nat → TypeId → Prop} (W : World) : KeepQ ex W W := ⟨Nat.le_refl _,fun _ _ _ _ _ _ => rfl⟩
theorem KeepQ.trans {ex : Nat → TypeId → Prop} {X Y Z : World} (h : KeepQ ex X Y) (k : KeepQ ex Y Z) : KeepQ ex X Z :=
 ⟨Nat.le_trans h.1 k.1,fun i cs t fr hi hx => by
  have h1 := h.2 i cs t fr hi hx
  exact (k.2 i cs t fr (h1.trans hi) hx).trans h1⟩
theorem KeepQ.drew {ex : Nat → TypeId → Prop} {X Y : World} (h : KeepQ ex X Y) : KeepQ ex X Y.drew := h
theorem KeepQ.grown {ex : Nat → TypeId → Prop} {X Y Z : World} (h : KeepQ ex X Y) {row : Option Nat} (hg : Y.grownBy Z row) (hr : ∀ r cs t fr,row = some r → Y.heap[r]? = some (.cells cs t fr) → ex r t) : KeepQ ex X Z :=
 h.trans ⟨hg.size,fun k cs t fr hk hx => hg.block k (heap_lt hk) (fun e => hx (hr k cs t fr e.symm hk))⟩
theorem KeepQ.alloc {ex : Nat → TypeId → Prop} {X Y : World} (h : KeepQ ex X Y) (o : Obj) : KeepQ ex X (Y.alloc o) := h.grown (World.grownBy_alloc Y o none) (fun r cs t fr e => by cases e)
theorem KeepQ.putObj {ex : Nat → TypeId → Prop} (W : World) (l : Nat) (o o' : Obj) (hl : W.heap[l]? = some o) (ho : o.isCells = false) : KeepQ ex W (W.putObj l o') :=
 (KeepQ.refl W).grown (grownBy_putObj' W l o') (fun r cs t fr e hr => by cases e;rw [hl] at hr;cases hr;cases ho)
theorem KeepQ.cell {ex : Nat → TypeId → Prop} {X Y : World} (h : KeepQ ex X Y) {p : Addr} {v : Value} (hp : X.cell? p = some v) (hx : ∀ t,¬ ex p.block t) : Y.cell? p = some v := by
 have hb : ∃ cs t fr,X.heap[p.block]? = some (.cells cs t fr) := by
  unfold World.cell? at hp
  split at hp
  ·rename_i cs t fr he;exact ⟨cs,t,fr,he⟩
  ·cases hp
 obtain ⟨cs,t,fr,hb⟩ := hb
 exact (World.cell?_of_block (h.2 _ cs t fr hb (hx t))).trans hp
theorem KeepQ.row {ex : Nat → TypeId → Prop} {X Y : World} {g : Nat} {t : TypeId} {cs : List Value} (h : KeepQ ex X Y) (hr : Row X g t cs) (hx : ¬ ex g t) : Row Y g t cs := (h.2 g _ t _ hr hx).trans hr
theorem KeepQ.rd {ex : Nat → TypeId → Prop} {X Y : World} {B size n : Nat} {A : Option Addr} {xs : List Value} (h : KeepQ ex X Y) (hr : Rd X B size A n xs) (hx : ∀ k t,k < B → ¬ ex k t) : Rd Y B size A n xs :=
 ⟨hr.1,fun h0 => by
  obtain ⟨b,o,e1,hb,hc⟩ := hr.2 h0
  exact ⟨b,o,e1,hb,fun i v hv => h.cell (hc i v hv) (fun t => hx b t hb)⟩⟩
theorem shlu_all : ∀ I < 6,IntKind.u64.wrap ((2 : Int) ^ I) = ((2 ^ I : Nat) : Int) := by decide +kernel
theorem shr_bits_all : ∀ m < 64,∀ i < 6,bits .and .u64 (((m : Nat) : Int) / 2 ^ i) 1 = (if m.testBit i then 1 else 0) := by decide +kernel
theorem ways_any (g m : Nat) (w : World) : Calls Tryz.prog 16 #[.pointer (some ⟨g,0,none⟩),.int .u64 (m : Int)] w fun r w' =>
  r = .returned (.func (.func 40) #[] #[.pointer (some ⟨w.heap.size,0,none⟩),.pointer (some ⟨w.heap.size + 1,0,none⟩)]) ∧
  (w.alloc (.cells #[.pointer (some ⟨g,0,none⟩)] 87)).alloc (.cells #[.int .u64 (m : Int)] 45) = w' := by
 go_enter Tryz.func16,Tryz.ntmps16
 go_wp2
 go_ret
 exact ⟨rfl,rfl⟩
theorem ways1_in (F : Fence) (n : Nat) (hfn : F.fn 40) (hFa : ∀ f,F.fn f) (hro : F.round = none) (hn : 1 ≤ n) (l Bh Bm g n₁ : Nat) (ex : Nat → TypeId → Prop) (e : Est) (m : Nat) (h6 : e.H.length ≤ 6) (hm : m < 64) (hpos : 0 < e.H.length)
  (hex : ∀ k t,k < n₁ → ¬ ex k t) (hg : g < n₁) (hexh : ¬ ex Bh 87) (hexm : ¬ ex Bm 45) (J Jx : List Way → World → Prop) (W : World) (hexk : ∀ k,W.heap.size ≤ k → ¬ ex k 3) (hJ : AbidesFrom W.heap.size J)
  (hY : ∀ pre x W,x ∈ e.wall m → J pre W → pre.length < 12 → YieldAt F (n - 1) Tryz.prog l (encW x) W fun e W' =>
   (e = .returned (.bool true) ∧ J (pre ++ [x]) W' ∧ KeepQ ex W W') ∨ (e = .returned (.bool false) ∧ Jx (pre ++ [x]) W'))
  (hch : Row W Bh 87 [.pointer (some ⟨g,0,none⟩)]) (hcm : Row W Bm 45 [.int .u64 (m : Int)]) (hcg : W.cell? ⟨g,0,none⟩ = some (.slice e.hA e.H.length e.hc)) (hok : Rd W n₁ 3 e.hA e.H.length (e.H.flatMap Heir.cells)) (hhc : e.H.length ≤ e.hc) (h0 : J [] W) :
  CallsIn F n Tryz.prog 40 #[.func (.yield l) #[] #[],.pointer (some ⟨Bh,0,none⟩),.pointer (some ⟨Bm,0,none⟩)] W fun x W' => (∃ v,x = .returned v) ∧
   ((∃ ys,ys = e.wall m ∧ J ys W') ∨ (∃ pre,e.wpre m pre ∧ Jx pre W')) := by
 have HF : Hid (∀ wr,KeepQ ex W wr → wr.cell? ⟨Bh,0,none⟩ = some (.pointer (some ⟨g,0,none⟩)) ∧ wr.cell? ⟨Bm,0,none⟩ = some (.int .u64 (m : Int)) ∧ wr.cell? ⟨g,0,none⟩ = some (.slice e.hA e.H.length e.hc)) := fun wr hk =>
  ⟨(hk.row hch hexh).cell (i := 0) rfl,(hk.row hcm hexm).cell (i := 0) rfl,hk.cell hcg (fun t => hex g t hg)⟩
 obtain ⟨hb,ho,hA,HH⟩ : ∃ hb ho,e.hA = some ⟨hb,ho,none⟩ ∧ Hid (∀ wr,KeepQ ex W wr → ∀ k,k < e.H.length → wr.cell? ⟨hb,ho + k * 3,none⟩ = some (.int .i64 (e.gh k).p) ∧ wr.cell? ⟨hb,ho + k * 3 + 1,none⟩ = some (.int .i64 (e.gh k).j) ∧ wr.cell? ⟨hb,ho + k * 3 + 2,none⟩ = some (.int .i64 (e.gh k).l)) := by
  obtain ⟨b,o,e1,hb,hc⟩ := hok.2 hpos
  refine ⟨b,o,e1,fun wr hk k hkl => ?_⟩
  have hf : ∀ i v,i < 3 → (e.gh k).cells[i]? = some v → wr.cell? ⟨b,o + (k * 3 + i),none⟩ = some v := fun i v hi hv =>
   hk.cell (hc (k * 3 + i) v (by rw [flat_at2 Heir.cells 3 e.H (fun x _ => rfl) k i _ (gh_mem hkl).2 hi,hv])) (fun t => hex b t hb)
  exact ⟨by simpa using hf 0 _ (by omega) rfl,by have := hf 1 _ (by omega) rfl;rwa [← Nat.add_assoc] at this,by have := hf 2 _ (by omega) rfl;rwa [← Nat.add_assoc] at this⟩
 have HN6 := Lib.hid h6
 have HWL : Hid (∀ κ i,κ < 2 → i < e.H.length → (e.wl m κ i).length < 12) := fun κ i h1 h2 => wl_len h1 h2 h6
 have HNX : Hid (e.wl m 0 e.H.length = e.wl m 1 0) := wl_next e m
 have HAL : Hid (e.wall m = e.wl m 1 e.H.length) := rfl
 obtain ⟨N,hN⟩ : ∃ N,e.H.length = N := ⟨_,rfl⟩
 have HNL := Lib.hid hN
 obtain ⟨hc,ehc⟩ : ∃ x,e.hc = x := ⟨_,rfl⟩
 rw [hA,hN,ehc] at HF
 rw [hN] at HH h6 hpos HWL HNX HAL hhc
 rw [ehc] at hhc
 have HJ := Lib.hid hJ
 have HY := Lib.hid hY
 have HKX := Lib.hid hexk
 have HFA := Lib.hid hFa
 obtain ⟨S0,hS0⟩ : ∃ S0,W.heap.size = S0 := ⟨_,rfl⟩
 have hrow : Row (W.alloc (.cells #[.int .i64 1,.int .i64 2] 3)) S0 3 [.int .i64 1,.int .i64 2] := by rw [← hS0];exact Row.new W _ _
 have HR0 := Lib.hid hrow
 have HK0 : Hid (KeepQ ex W (W.alloc (.cells #[.int .i64 1,.int .i64 2] 3))) := (KeepQ.refl W).alloc _
 have HJ0 : Hid (J (e.wl m 0 0) (W.alloc (.cells #[.int .i64 1,.int .i64 2] 3))) := hJ _ _ _ none h0 (World.grownBy_alloc _ _ none) (fun r e => by cases e)
 rw [hS0] at HKX
 refine callsIn_of_wp Tryz.func40 rfl hfn ?_ hro
 clear hJ hY hexk hFa hch hcm hcg hok h0 hA hN ehc hrow hex hg hexh hexm hfn
 simp only [Tryz.ntmps40,List.size_toArray,List.length_cons,List.length_nil,Nat.reduceAdd,Nat.reduceSub,Array.replicate_succ,Array.replicate_zero,List.push_toArray,List.append_toArray,List.nil_append,List.cons_append]
 gi_wp2
 clear hS0
 generalize (W.alloc (.cells #[.int .i64 1,.int .i64 2] 3)) = W0 at HR0 HK0 HJ0 ⊢
 gi_loopw [11] (fun x wr => ∃ κ : Nat,κ ≤ 2 ∧ x = .int .i64 κ ∧ J (e.wl m (if κ = 0 then 0 else 1) (if κ = 2 then N else 0)) wr ∧ KeepQ ex W wr ∧ Row wr S0 3 [.int .i64 1,.int .i64 2]) (fun x _ => 2 - (intOf x).toNat)
 case atStart => exact ⟨0,by omega,rfl,HJ0.out,HK0.out,HR0.out⟩
 case round =>
  clear HJ0 HK0 HR0
  obtain ⟨κ,hκ,rfl,hJs,hkp,hrw⟩ := hrel
  have HK := Lib.hid hkp
  have HR := Lib.hid hrw
  have HJs := Lib.hid hJs
  clear hkp hrw hJs
  rcases (show κ = 0 ∨ κ = 1 ∨ κ = 2 by omega) with rfl | rfl | rfl
  ·rw [show ((0 : Nat) : Int) = 0 from rfl]
   have c0 := HR.out.cell (i := 0) rfl
   obtain ⟨f0,f1,f2⟩ := HF.out _ HK.out
   gi_wp2_with fail
   clear c0 f0 f1 f2
   obtain ⟨wo,hwo⟩ : ∃ wo : World,wo = wr := ⟨_,rfl⟩
   subst hwo
   gi_loopw [20] (fun x wr2 => ∃ i : Nat,i ≤ N ∧ x = .int .i64 i ∧ J (e.wl m 0 i) wr2 ∧ KeepQ ex W wr2 ∧ Row wr2 S0 3 [.int .i64 1,.int .i64 2]) (fun x _ => N - (intOf x).toNat)
   case atStart => exact ⟨0,Nat.zero_le _,rfl,HJs.out,HK.out,HR.out⟩
   case round =>
    clear HJs HK HR
    obtain ⟨i,hi,rfl,hJs,hkp,hrw⟩ := hrel
    have HK := Lib.hid hkp
    have HR := Lib.hid hrw
    have HJs := Lib.hid hJs
    clear hkp hrw hJs
    by_cases hlt : i < N
    ·have k1 : (i : Int) < (N : Int) := by omega
     have k0 : (0 : Int) ≤ (i : Int) := by omega
     obtain ⟨x0,x1,x2⟩ := HH.out _ HK.out i hlt
     obtain ⟨f0,f1,f2⟩ := HF.out _ HK.out
     have hwy : e.way m 0 i = ⟨1,(e.gh i).p,m ^^^ 2 ^ i,(e.gh i).j⟩ := rfl
     obtain ⟨P,hP⟩ : ∃ P,(e.gh i).p = P := ⟨_,rfl⟩
     obtain ⟨JJ,hJ⟩ : ∃ J,(e.gh i).j = J := ⟨_,rfl⟩
     obtain ⟨LL,hL⟩ : ∃ L,(e.gh i).l = L := ⟨_,rfl⟩
     rw [hP] at x0 hwy
     rw [hJ] at x1
     rw [hL] at x2
     rw [hJ] at hwy
     have HWY := Lib.hid hwy
     clear hP hJ hL hwy
     obtain ⟨hx,hhx⟩ : ∃ s,wr.heap.size = s := ⟨_,rfl⟩
     gi_wp2_with fail
     clear x0 x1 x2 f0 f1 f2
     have HK3 : Hid (KeepQ ex W (wr.alloc (.cells #[.int .i64 P,.int .i64 JJ,.int .i64 LL] 79))) := HK.out.alloc _
     have HR3 : Hid (Row (wr.alloc (.cells #[.int .i64 P,.int .i64 JJ,.int .i64 LL] 79)) S0 3 [.int .i64 1,.int .i64 2]) := HR.out.alloc _
     have HJ3 : Hid (J (e.wl m 0 i) (wr.alloc (.cells #[.int .i64 P,.int .i64 JJ,.int .i64 LL] 79))) := HJ.out _ _ _ none HJs.out (World.grownBy_alloc _ _ none) (fun r e => by cases e)
     have HX3 : Hid (Row (wr.alloc (.cells #[.int .i64 P,.int .i64 JJ,.int .i64 LL] 79)) hx 79 [.int .i64 P,.int .i64 JJ,.int .i64 LL]) := by rw [← hhx];exact Row.new wr _ _
     clear HK HR HJs hhx
     generalize (wr.alloc (.cells #[.int .i64 P,.int .i64 JJ,.int .i64 LL] 79)) = w3 at HK3 HR3 HJ3 HX3 ⊢
     obtain ⟨f0,f1,f2⟩ := HF.out _ HK3.out
     have hsb := shr_bits_all m hm i (by omega)
     have HJD : Hid (J (e.wl m 0 i) w3.drew) := HJ.out _ _ _ none HJ3.out ⟨rfl,rfl,rfl,Nat.le_refl _,fun _ _ _ => rfl⟩ (fun r e => by cases e)
     rename_i Kz hKz
     cases hb0 : m.testBit i with
     | true =>
      have hq : (bits BinOp.and IntKind.u64 ((m : Int) / 2 ^ i) 1 == 1) = true := by rw [hsb,hb0];rfl
      have HPS : Hid (pos m 0 i = false) := by show _ = _;unfold pos;rw [hb0];rfl
      clear hsb hb0
      refine wpIn_region_tree (fun _ => True) (.take 1 (.take 5 (.take 6 (.one 0 (.take 2 (.take 3 (.take 4 (.take 7 (.take 8 (.take 9 (.take 10 (.take 11 (.take 15 (.take 16 (.take 18 (.two 12 (.take 13 (.one 14 (.take 17 (.take 19 (.one 20 (.take 21 (.take 22 .done))))))) 14 (.take 17 (.one 12 (.take 13 (.take 19 (.one 20 (.take 21 (.take 22 .done))))))))))))))))))))))) (by kernel_rfl) (by kernel_rfl) (by kernel_rfl) (by kernel_rfl) (by kernel_rfl) (fun x _ _ _ _ h => by cases x <;> exact h) trivial ?_
      iterate 3 (refine wpOTI_take rfl _ (by rfl) (fun _ => rfl) (by intro w' hS;skip;go_simp;try with_reducible rfl) fun KK hKK => ?_;go_simp;refine hKK _ ?_;clear hKK KK)
      refine wpOTI_one rfl (by rfl) fun KK hKK => ?_
      go_simp
      refine hKK _ _ trivial ?_
      iterate 5 (clear hKK KK;refine wpOTI_take rfl _ (by rfl) (fun _ => rfl) (by intro w' hS;skip;go_simp;try with_reducible rfl) fun KK hKK => ?_;go_simp;refine hKK _ ?_)
      iterate 6 (clear hKK KK;refine wpOTI_skip rfl (by rfl) (fun _ => rfl) fun KK hKK => ?_;go_simp;refine hKK _ ?_)
      clear hKK KK
      refine ⟨wpOpIn_pass HFA.out rfl (by rfl) fun KK hKK => ?_,wpOpIn_pass HFA.out rfl (by rfl) fun KK hKK => ?_⟩
      ·go_simp
       refine hKK _ ⟨trivial,?_⟩
       clear hKK KK
       refine wpOTI_skip rfl (by rfl) (fun _ => rfl) fun KK hKK => ?_
       go_simp
       refine hKK _ ?_
       clear hKK KK
       refine wpOTI_pass HFA.out rfl (by rfl) trivial fun KK hKK => ?_
       iterate 2 (go_simp;refine hKK _ ?_;clear hKK KK;refine wpOTI_skip rfl (by rfl) (fun _ => rfl) fun KK hKK => ?_)
       go_simp
       refine hKK _ ?_
       clear hKK KK
       refine wpOTI_pass HFA.out rfl (by rfl) trivial fun KK hKK => ?_
       go_simp
       refine hKK _ ?_
       clear hKK KK
       refine wpOTI_skip rfl (by rfl) (fun _ => rfl) fun KK hKK => ?_
       go_simp
       refine hKK _ ?_
       clear hKK KK
       refine wpOTI_take rfl _ (by rfl) (fun _ => rfl) (by intro w' hS;skip;go_simp;try with_reducible rfl) fun KK hKK => ?_
       go_simp
       refine hKK _ ?_
       clear hKK KK
       refine wpOTI_done ?_
       show Kz _ _
       refine hKz _ _ ?_
       go_simp
       gi_wp2_with fail
       go_roundw
       case rel => exact ⟨i + 1,by omega,by go_num,by rw [wl_no (by omega) HPS.out];exact HJD.out,HK3.out.drew,HR3.out⟩
       case measure => simp [intOf];omega
      ·go_simp
       refine hKK _ ⟨trivial,?_⟩
       clear hKK KK
       refine wpOTI_skip rfl (by rfl) (fun _ => rfl) fun KK hKK => ?_
       go_simp
       refine hKK _ ?_
       clear hKK KK
       refine wpOTI_pass HFA.out rfl (by rfl) trivial fun KK hKK => ?_
       iterate 2 (go_simp;refine hKK _ ?_;clear hKK KK;refine wpOTI_skip rfl (by rfl) (fun _ => rfl) fun KK hKK => ?_)
       go_simp
       refine hKK _ ?_
       clear hKK KK
       refine wpOTI_pass HFA.out rfl (by rfl) trivial fun KK hKK => ?_
       go_simp
       refine hKK _ ?_
       clear hKK KK
       refine wpOTI_skip rfl (by rfl) (fun _ => rfl) fun KK hKK => ?_
       go_simp
       refine hKK _ ?_
       clear hKK KK
       refine wpOTI_take rfl _ (by rfl) (fun _ => rfl) (by intro w' hS;skip;go_simp;try with_reducible rfl) fun KK hKK => ?_
       go_simp
       refine hKK _ ?_
       clear hKK KK
       refine wpOTI_done ?_
       show Kz _ _
       refine hKz _ _ ?_
       go_simp
       gi_wp2_with fail
       go_roundw
       case rel => exact ⟨i + 1,by omega,by go_num,by rw [wl_no (by omega) HPS.out];exact HJD.out,HK3.out.drew,HR3.out⟩
       case measure => simp [intOf];omega
     | false =>
      have hq : (bits BinOp.and IntKind.u64 ((m : Int) / 2 ^ i) 1 == 1) = false := by rw [hsb,hb0];rfl
      have HPS : Hid (pos m 0 i = true) := by show _ = _;unfold pos;rw [hb0];rfl
      clear hsb hb0
      have hsh := shlu_all i (by omega)
      have hT6 : 2 ^ i < 64 := Nat.lt_of_lt_of_le (Nat.pow_lt_pow_right (by omega) (show i < 6 by omega)) (by omega)
      have hxo := xor_bits_all m hm (2 ^ i) hT6
      have hy0 := HY.out (e.wl m 0 i) (e.way m 0 i) w3.drew (way_mem (by omega) (by rw [HNL.out];exact hlt) HPS.out) HJD.out (HWL.out _ _ (by omega) hlt)
      have hwy := HWY.out
      obtain ⟨T,hT⟩ : ∃ T,2 ^ i = T := ⟨_,rfl⟩
      rw [hT] at hsh hxo hwy
      obtain ⟨X,hX⟩ : ∃ X,m ^^^ T = X := ⟨_,rfl⟩
      rw [hX] at hxo hwy
      rw [hwy] at hy0
      have HW2 := Lib.hid hwy
      obtain ⟨fn,tmps,assign,body,hy,hRR⟩ := hy0
      dsimp only [encW] at hy
      have g0 := HX3.out.cell (i := 0) rfl
      have HRR := Lib.hid hRR
      clear hT hX hwy HWY hRR hT6
      refine wpIn_region_tree (fun _ => True) (.take 1 (.take 5 (.take 6 (.one 0 (.take 2 (.take 3 (.take 4 (.take 7 (.take 8 (.take 9 (.take 10 (.take 11 (.take 15 (.take 16 (.take 18 (.two 12 (.take 13 (.one 14 (.take 17 (.take 19 (.one 20 (.take 21 (.take 22 .done))))))) 14 (.take 17 (.one 12 (.take 13 (.take 19 (.one 20 (.take 21 (.take 22 .done))))))))))))))))))))))) (by kernel_rfl) (by kernel_rfl) (by kernel_rfl) (by kernel_rfl) (by kernel_rfl) (fun x _ _ _ _ h => by cases x <;> exact h) trivial ?_
      iterate 3 (refine wpOTI_take rfl _ (by rfl) (fun _ => rfl) (by intro w' hS;skip;go_simp;try with_reducible rfl) fun KK hKK => ?_;go_simp;refine hKK _ ?_;clear hKK KK)
      refine wpOTI_one rfl (by rfl) fun KK hKK => ?_
      go_simp
      refine hKK _ _ trivial ?_
      iterate 11 (clear hKK KK;refine wpOTI_take rfl _ (by rfl) (fun _ => rfl) (by intro w' hS;skip;go_simp;try with_reducible rfl) fun KK hKK => ?_;go_simp;refine hKK _ ?_)
      clear hKK KK
      refine wpOTI_two rfl (by rfl) rfl (by rfl) (fun KK hKK => ?_) (fun KK hKK => ?_)
      ·go_simp
       refine hKK _ _ trivial ?_
       clear hKK KK
       refine wpOTI_take rfl _ (by rfl) (fun _ => rfl) (by intro w' hS;skip;go_simp;try with_reducible rfl) fun KK hKK => ?_
       go_simp
       refine hKK _ ?_
       clear hKK KK
       refine wpOTI_one rfl (by rfl) fun KK hKK => ?_
       go_simp
       refine hKK _ _ trivial ?_
       iterate 2 (clear hKK KK;refine wpOTI_take rfl _ (by rfl) (fun _ => rfl) (by intro w' hS;skip;go_simp;try with_reducible rfl) fun KK hKK => ?_;go_simp;refine hKK _ ?_)
       clear hKK KK
       refine wpOTI_one rfl (by rfl) fun KK hKK => ?_
       go_simp
       refine HRR.out.mono ?_
       rintro x W3 (⟨rfl,hJ3,hk3⟩ | ⟨rfl,hJx3⟩)
       ·have HE3 := Lib.hid (And.intro hJ3 hk3)
        clear hJ3 hk3
        refine hKK _ _ trivial ?_
        iterate 2 (clear hKK KK;refine wpOTI_take rfl _ (by rfl) (fun _ => rfl) (by intro w' hS;skip;go_simp;try with_reducible rfl) fun KK hKK => ?_;go_simp;refine hKK _ ?_)
        clear hKK KK
        refine wpOTI_done ?_
        show Kz _ _
        refine hKz _ _ ?_
        go_simp
        gi_wp2_with fail
        go_roundw
        case rel => exact ⟨i + 1,by omega,by go_num,by rw [wl_yes (by omega) HPS.out,HW2.out];exact HE3.out.1,HK3.out.drew.trans HE3.out.2,HE3.out.2.row (X := w3.drew) HR3.out (HKX.out _ (Nat.le_refl _))⟩
        case measure => simp [intOf];omega
       ·have HE3 := Lib.hid hJx3
        clear hJx3
        refine hKK _ _ trivial ?_
        iterate 2 (clear hKK KK;refine wpOTI_take rfl _ (by rfl) (fun _ => rfl) (by intro w' hS;skip;go_simp;try with_reducible rfl) fun KK hKK => ?_;go_simp;refine hKK _ ?_)
        clear hKK KK
        refine wpOTI_done ?_
        show Kz _ _
        refine hKz _ _ ?_
        go_simp
        gi_wp2_with fail
        refine bodyPost_ret (results_none rfl _ _ _) rfl ?_
        exact ⟨⟨_,rfl⟩,.inr ⟨_,⟨0,i,by omega,by rw [HNL.out];exact hlt,HPS.out,rfl⟩,by rw [HW2.out];exact HE3.out⟩⟩
      ·go_simp
       refine hKK _ _ trivial ?_
       clear hKK KK
       refine wpOTI_take rfl _ (by rfl) (fun _ => rfl) (by intro w' hS;skip;go_simp;try with_reducible rfl) fun KK hKK => ?_
       go_simp
       refine hKK _ ?_
       clear hKK KK
       refine wpOTI_one rfl (by rfl) fun KK hKK => ?_
       go_simp
       refine hKK _ _ trivial ?_
       iterate 2 (clear hKK KK;refine wpOTI_take rfl _ (by rfl) (fun _ => rfl) (by intro w' hS;skip;go_simp;try with_reducible rfl) fun KK hKK => ?_;go_simp;refine hKK _ ?_)
       clear hKK KK
       refine wpOTI_one rfl (by rfl) fun KK hKK => ?_
       go_simp
       refine HRR.out.mono ?_
       rintro x W3 (⟨rfl,hJ3,hk3⟩ | ⟨rfl,hJx3⟩)
       ·have HE3 := Lib.hid (And.intro hJ3 hk3)
        clear hJ3 hk3
        refine hKK _ _ trivial ?_
        iterate 2 (clear hKK KK;refine wpOTI_take rfl _ (by rfl) (fun _ => rfl) (by intro w' hS;skip;go_simp;try with_reducible rfl) fun KK hKK => ?_;go_simp;refine hKK _ ?_)
        clear hKK KK
        refine wpOTI_done ?_
        show Kz _ _
        refine hKz _ _ ?_
        go_simp
        gi_wp2_with fail
        go_roundw
        case rel => exact ⟨i + 1,by omega,by go_num,by rw [wl_yes (by omega) HPS.out,HW2.out];exact HE3.out.1,HK3.out.drew.trans HE3.out.2,HE3.out.2.row (X := w3.drew) HR3.out (HKX.out _ (Nat.le_refl _))⟩
        case measure => simp [intOf];omega
       ·have HE3 := Lib.hid hJx3
        clear hJx3
        refine hKK _ _ trivial ?_
        iterate 2 (clear hKK KK;refine wpOTI_take rfl _ (by rfl) (fun _ => rfl) (by intro w' hS;skip;go_simp;try with_reducible rfl) fun KK hKK => ?_;go_simp;refine hKK _ ?_)
        clear hKK KK
        refine wpOTI_done ?_
        show Kz _ _
        refine hKz _ _ ?_
        go_simp
        gi_wp2_with fail
        refine bodyPost_ret (results_none rfl _ _ _) rfl ?_
        exact ⟨⟨_,rfl⟩,.inr ⟨_,⟨0,i,by omega,by rw [HNL.out];exact hlt,HPS.out,rfl⟩,by rw [HW2.out];exact HE3.out⟩⟩
    ·obtain rfl : i = N := by omega
     gi_wp2_with fail
     go_roundw
     case rel => exact ⟨1,by omega,by go_num,by show J (e.wl m 1 0) wr;rw [← HNX.out];exact HJs.out,HK.out,HR.out⟩
     case measure => simp [intOf]
  ·rw [show ((1 : Nat) : Int) = 1 from rfl]
   have c1 := HR.out.cell (i := 1) rfl
   obtain ⟨f0,f1,f2⟩ := HF.out _ HK.out
   gi_wp2_with fail
   clear c1 f0 f1 f2
   obtain ⟨wo,hwo⟩ : ∃ wo : World,wo = wr := ⟨_,rfl⟩
   subst hwo
   gi_loopw [20] (fun x wr2 => ∃ i : Nat,i ≤ N ∧ x = .int .i64 i ∧ J (e.wl m 1 i) wr2 ∧ KeepQ ex W wr2 ∧ Row wr2 S0 3 [.int .i64 1,.int .i64 2]) (fun x _ => N - (intOf x).toNat)
   case atStart => exact ⟨0,Nat.zero_le _,rfl,HJs.out,HK.out,HR.out⟩
   case round =>
    clear HJs HK HR
    obtain ⟨i,hi,rfl,hJs,hkp,hrw⟩ := hrel
    have HK := Lib.hid hkp
    have HR := Lib.hid hrw
    have HJs := Lib.hid hJs
    clear hkp hrw hJs
    by_cases hlt : i < N
    ·have k1 : (i : Int) < (N : Int) := by omega
     have k0 : (0 : Int) ≤ (i : Int) := by omega
     obtain ⟨x0,x1,x2⟩ := HH.out _ HK.out i hlt
     obtain ⟨f0,f1,f2⟩ := HF.out _ HK.out
     have hwy : e.way m 1 i = ⟨2,(e.gh i).p,m ^^^ 2 ^ i,(e.gh i).l⟩ := rfl
     obtain ⟨P,hP⟩ : ∃ P,(e.gh i).p = P := ⟨_,rfl⟩
     obtain ⟨JJ,hJ⟩ : ∃ J,(e.gh i).j = J := ⟨_,rfl⟩
     obtain ⟨LL,hL⟩ : ∃ L,(e.gh i).l = L := ⟨_,rfl⟩
     rw [hP] at x0 hwy
     rw [hJ] at x1
     rw [hL] at x2
     rw [hL] at hwy
     have HWY := Lib.hid hwy
     clear hP hJ hL hwy
     obtain ⟨hx,hhx⟩ : ∃ s,wr.heap.size = s := ⟨_,rfl⟩
     gi_wp2_with fail
     clear x0 x1 x2 f0 f1 f2
     have HK3 : Hid (KeepQ ex W (wr.alloc (.cells #[.int .i64 P,.int .i64 JJ,.int .i64 LL] 79))) := HK.out.alloc _
     have HR3 : Hid (Row (wr.alloc (.cells #[.int .i64 P,.int .i64 JJ,.int .i64 LL] 79)) S0 3 [.int .i64 1,.int .i64 2]) := HR.out.alloc _
     have HJ3 : Hid (J (e.wl m 1 i) (wr.alloc (.cells #[.int .i64 P,.int .i64 JJ,.int .i64 LL] 79))) := HJ.out _ _ _ none HJs.out (World.grownBy_alloc _ _ none) (fun r e => by cases e)
     have HX3 : Hid (Row (wr.alloc (.cells #[.int .i64 P,.int .i64 JJ,.int .i64 LL] 79)) hx 79 [.int .i64 P,.int .i64 JJ,.int .i64 LL]) := by rw [← hhx];exact Row.new wr _ _
     clear HK HR HJs hhx
     generalize (wr.alloc (.cells #[.int .i64 P,.int .i64 JJ,.int .i64 LL] 79)) = w3 at HK3 HR3 HJ3 HX3 ⊢
     obtain ⟨f0,f1,f2⟩ := HF.out _ HK3.out
     have hsb := shr_bits_all m hm i (by omega)
     have HJD : Hid (J (e.wl m 1 i) w3.drew) := HJ.out _ _ _ none HJ3.out ⟨rfl,rfl,rfl,Nat.le_refl _,fun _ _ _ => rfl⟩ (fun r e => by cases e)
     rename_i Kz hKz
     cases hb0 : m.testBit i with
     | true =>
      have hq : (bits BinOp.and IntKind.u64 ((m : Int) / 2 ^ i) 1 == 1) = true := by rw [hsb,hb0];rfl
      have HPS : Hid (pos m 1 i = true) := by show _ = _;unfold pos;rw [hb0];rfl
      clear hsb hb0
      have hsh := shlu_all i (by omega)
      have hT6 : 2 ^ i < 64 := Nat.lt_of_lt_of_le (Nat.pow_lt_pow_right (by omega) (show i < 6 by omega)) (by omega)
      have hxo := xor_bits_all m hm (2 ^ i) hT6
      have hy0 := HY.out (e.wl m 1 i) (e.way m 1 i) w3.drew (way_mem (by omega) (by rw [HNL.out];exact hlt) HPS.out) HJD.out (HWL.out _ _ (by omega) hlt)
      have hwy := HWY.out
      obtain ⟨T,hT⟩ : ∃ T,2 ^ i = T := ⟨_,rfl⟩
      rw [hT] at hsh hxo hwy
      obtain ⟨X,hX⟩ : ∃ X,m ^^^ T = X := ⟨_,rfl⟩
      rw [hX] at hxo hwy
      rw [hwy] at hy0
      have HW2 := Lib.hid hwy
      obtain ⟨fn,tmps,assign,body,hy,hRR⟩ := hy0
      dsimp only [encW] at hy
      have g0 := HX3.out.cell (i := 0) rfl
      have HRR := Lib.hid hRR
      clear hT hX hwy HWY hRR hT6
      refine wpIn_region_tree (fun _ => True) (.take 1 (.take 5 (.take 6 (.one 0 (.take 2 (.take 3 (.take 4 (.take 7 (.take 8 (.take 9 (.take 10 (.take 11 (.take 15 (.take 16 (.take 18 (.two 12 (.take 13 (.one 14 (.take 17 (.take 19 (.one 20 (.take 21 (.take 22 .done))))))) 14 (.take 17 (.one 12 (.take 13 (.take 19 (.one 20 (.take 21 (.take 22 .done))))))))))))))))))))))) (by kernel_rfl) (by kernel_rfl) (by kernel_rfl) (by kernel_rfl) (by kernel_rfl) (fun x _ _ _ _ h => by cases x <;> exact h) trivial ?_
      iterate 3 (refine wpOTI_take rfl _ (by rfl) (fun _ => rfl) (by intro w' hS;skip;go_simp;try with_reducible rfl) fun KK hKK => ?_;go_simp;refine hKK _ ?_;clear hKK KK)
      refine wpOTI_one rfl (by rfl) fun KK hKK => ?_
      go_simp
      refine hKK _ _ trivial ?_
      iterate 11 (clear hKK KK;refine wpOTI_take rfl _ (by rfl) (fun _ => rfl) (by intro w' hS;skip;go_simp;try with_reducible rfl) fun KK hKK => ?_;go_simp;refine hKK _ ?_)
      clear hKK KK
      refine wpOTI_two rfl (by rfl) rfl (by rfl) (fun KK hKK => ?_) (fun KK hKK => ?_)
      ·go_simp
       refine hKK _ _ trivial ?_
       clear hKK KK
       refine wpOTI_take rfl _ (by rfl) (fun _ => rfl) (by intro w' hS;skip;go_simp;try with_reducible rfl) fun KK hKK => ?_
       go_simp
       refine hKK _ ?_
       clear hKK KK
       refine wpOTI_one rfl (by rfl) fun KK hKK => ?_
       go_simp
       refine hKK _ _ trivial ?_
       iterate 2 (clear hKK KK;refine wpOTI_take rfl _ (by rfl) (fun _ => rfl) (by intro w' hS;skip;go_simp;try with_reducible rfl) fun KK hKK => ?_;go_simp;refine hKK _ ?_)
       clear hKK KK
       refine wpOTI_one rfl (by rfl) fun KK hKK => ?_
       go_simp
       refine HRR.out.mono ?_
       rintro x W3 (⟨rfl,hJ3,hk3⟩ | ⟨rfl,hJx3⟩)
       ·have HE3 := Lib.hid (And.intro hJ3 hk3)
        clear hJ3 hk3
        refine hKK _ _ trivial ?_
        iterate 2 (clear hKK KK;refine wpOTI_take rfl _ (by rfl) (fun _ => rfl) (by intro w' hS;skip;go_simp;try with_reducible rfl) fun KK hKK => ?_;go_simp;refine hKK _ ?_)
        clear hKK KK
        refine wpOTI_done ?_
        show Kz _ _
        refine hKz _ _ ?_
        go_simp
        gi_wp2_with fail
        go_roundw
        case rel => exact ⟨i + 1,by omega,by go_num,by rw [wl_yes (by omega) HPS.out,HW2.out];exact HE3.out.1,HK3.out.drew.trans HE3.out.2,HE3.out.2.row (X := w3.drew) HR3.out (HKX.out _ (Nat.le_refl _))⟩
        case measure => simp [intOf];omega
       ·have HE3 := Lib.hid hJx3
        clear hJx3
        refine hKK _ _ trivial ?_
        iterate 2 (clear hKK KK;refine wpOTI_take rfl _ (by rfl) (fun _ => rfl) (by intro w' hS;skip;go_simp;try with_reducible rfl) fun KK hKK => ?_;go_simp;refine hKK _ ?_)
        clear hKK KK
        refine wpOTI_done ?_
        show Kz _ _
        refine hKz _ _ ?_
        go_simp
        gi_wp2_with fail
        refine bodyPost_ret (results_none rfl _ _ _) rfl ?_
        exact ⟨⟨_,rfl⟩,.inr ⟨_,⟨1,i,by omega,by rw [HNL.out];exact hlt,HPS.out,rfl⟩,by rw [HW2.out];exact HE3.out⟩⟩
      ·go_simp
       refine hKK _ _ trivial ?_
       clear hKK KK
       refine wpOTI_take rfl _ (by rfl) (fun _ => rfl) (by intro w' hS;skip;go_simp;try with_reducible rfl) fun KK hKK => ?_
       go_simp
       refine hKK _ ?_
       clear hKK KK
       refine wpOTI_one rfl (by rfl) fun KK hKK => ?_
       go_simp
       refine hKK _ _ trivial ?_
       iterate 2 (clear hKK KK;refine wpOTI_take rfl _ (by rfl) (fun _ => rfl) (by intro w' hS;skip;go_simp;try with_reducible rfl) fun KK hKK => ?_;go_simp;refine hKK _ ?_)
       clear hKK KK
       refine wpOTI_one rfl (by rfl) fun KK hKK => ?_
       go_simp
       refine HRR.out.mono ?_
       rintro x W3 (⟨rfl,hJ3,hk3⟩ | ⟨rfl,hJx3⟩)
       ·have HE3 := Lib.hid (And.intro hJ3 hk3)
        clear hJ3 hk3
        refine hKK _ _ trivial ?_
        iterate 2 (clear hKK KK;refine wpOTI_take rfl _ (by rfl) (fun _ => rfl) (by intro w' hS;skip;go_simp;try with_reducible rfl) fun KK hKK => ?_;go_simp;refine hKK _ ?_)
        clear hKK KK
        refine wpOTI_done ?_
        show Kz _ _
        refine hKz _ _ ?_
        go_simp
        gi_wp2_with fail
        go_roundw
        case rel => exact ⟨i + 1,by omega,by go_num,by rw [wl_yes (by omega) HPS.out,HW2.out];exact HE3.out.1,HK3.out.drew.trans HE3.out.2,HE3.out.2.row (X := w3.drew) HR3.out (HKX.out _ (Nat.le_refl _))⟩
        case measure => simp [intOf];omega
       ·have HE3 := Lib.hid hJx3
        clear hJx3
        refine hKK _ _ trivial ?_
        iterate 2 (clear hKK KK;refine wpOTI_take rfl _ (by rfl) (fun _ => rfl) (by intro w' hS;skip;go_simp;try with_reducible rfl) fun KK hKK => ?_;go_simp;refine hKK _ ?_)
        clear hKK KK
        refine wpOTI_done ?_
        show Kz _ _
        refine hKz _ _ ?_
        go_simp
        gi_wp2_with fail
        refine bodyPost_ret (results_none rfl _ _ _) rfl ?_
        exact ⟨⟨_,rfl⟩,.inr ⟨_,⟨1,i,by omega,by rw [HNL.out];exact hlt,HPS.out,rfl⟩,by rw [HW2.out];exact HE3.out⟩⟩
     | false =>
      have hq : (bits BinOp.and IntKind.u64 ((m : Int) / 2 ^ i) 1 == 1) = false := by rw [hsb,hb0];rfl
      have HPS : Hid (pos m 1 i = false) := by show _ = _;unfold pos;rw [hb0];rfl
      clear hsb hb0
      refine wpIn_region_tree (fun _ => True) (.take 1 (.take 5 (.take 6 (.one 0 (.take 2 (.take 3 (.take 4 (.take 7 (.take 8 (.take 9 (.take 10 (.take 11 (.take 15 (.take 16 (.take 18 (.two 12 (.take 13 (.one 14 (.take 17 (.take 19 (.one 20 (.take 21 (.take 22 .done))))))) 14 (.take 17 (.one 12 (.take 13 (.take 19 (.one 20 (.take 21 (.take 22 .done))))))))))))))))))))))) (by kernel_rfl) (by kernel_rfl) (by kernel_rfl) (by kernel_rfl) (by kernel_rfl) (fun x _ _ _ _ h => by cases x <;> exact h) trivial ?_
      iterate 3 (refine wpOTI_take rfl _ (by rfl) (fun _ => rfl) (by intro w' hS;skip;go_simp;try with_reducible rfl) fun KK hKK => ?_;go_simp;refine hKK _ ?_;clear hKK KK)
      refine wpOTI_one rfl (by rfl) fun KK hKK => ?_
      go_simp
      refine hKK _ _ trivial ?_
      iterate 5 (clear hKK KK;refine wpOTI_take rfl _ (by rfl) (fun _ => rfl) (by intro w' hS;skip;go_simp;try with_reducible rfl) fun KK hKK => ?_;go_simp;refine hKK _ ?_)
      iterate 6 (clear hKK KK;refine wpOTI_skip rfl (by rfl) (fun _ => rfl) fun KK hKK => ?_;go_simp;refine hKK _ ?_)
      clear hKK KK
      refine ⟨wpOpIn_pass HFA.out rfl (by rfl) fun KK hKK => ?_,wpOpIn_pass HFA.out rfl (by rfl) fun KK hKK => ?_⟩
      ·go_simp
       refine hKK _ ⟨trivial,?_⟩
       clear hKK KK
       refine wpOTI_skip rfl (by rfl) (fun _ => rfl) fun KK hKK => ?_
       go_simp
       refine hKK _ ?_
       clear hKK KK
       refine wpOTI_pass HFA.out rfl (by rfl) trivial fun KK hKK => ?_
       iterate 2 (go_simp;refine hKK _ ?_;clear hKK KK;refine wpOTI_skip rfl (by rfl) (fun _ => rfl) fun KK hKK => ?_)
       go_simp
       refine hKK _ ?_
       clear hKK KK
       refine wpOTI_pass HFA.out rfl (by rfl) trivial fun KK hKK => ?_
       go_simp
       refine hKK _ ?_
       clear hKK KK
       refine wpOTI_skip rfl (by rfl) (fun _ => rfl) fun KK hKK => ?_
       go_simp
       refine hKK _ ?_
       clear hKK KK
       refine wpOTI_take rfl _ (by rfl) (fun _ => rfl) (by intro w' hS;skip;go_simp;try with_reducible rfl) fun KK hKK => ?_
       go_simp
       refine hKK _ ?_
       clear hKK KK
       refine wpOTI_done ?_
       show Kz _ _
       refine hKz _ _ ?_
       go_simp
       gi_wp2_with fail
       go_roundw
       case rel => exact ⟨i + 1,by omega,by go_num,by rw [wl_no (by omega) HPS.out];exact HJD.out,HK3.out.drew,HR3.out⟩
       case measure => simp [intOf];omega
      ·go_simp
       refine hKK _ ⟨trivial,?_⟩
       clear hKK KK
       refine wpOTI_skip rfl (by rfl) (fun _ => rfl) fun KK hKK => ?_
       go_simp
       refine hKK _ ?_
       clear hKK KK
       refine wpOTI_pass HFA.out rfl (by rfl) trivial fun KK hKK => ?_
       iterate 2 (go_simp;refine hKK _ ?_;clear hKK KK;refine wpOTI_skip rfl (by rfl) (fun _ => rfl) fun KK hKK => ?_)
       go_simp
       refine hKK _ ?_
       clear hKK KK
       refine wpOTI_pass HFA.out rfl (by rfl) trivial fun KK hKK => ?_
       go_simp
       refine hKK _ ?_
       clear hKK KK
       refine wpOTI_skip rfl (by rfl) (fun _ => rfl) fun KK hKK => ?_
       go_simp
       refine hKK _ ?_
       clear hKK KK
       refine wpOTI_take rfl _ (by rfl) (fun _ => rfl) (by intro w' hS;skip;go_simp;try with_reducible rfl) fun KK hKK => ?_
       go_simp
       refine hKK _ ?_
       clear hKK KK
       refine wpOTI_done ?_
       show Kz _ _
       refine hKz _ _ ?_
       go_simp
       gi_wp2_with fail
       go_roundw
       case rel => exact ⟨i + 1,by omega,by go_num,by rw [wl_no (by omega) HPS.out];exact HJD.out,HK3.out.drew,HR3.out⟩
       case measure => simp [intOf];omega
    ·obtain rfl : i = N := by omega
     gi_wp2_with fail
     go_roundw
     case rel => exact ⟨2,by omega,by go_num,HJs.out,HK.out,HR.out⟩
     case measure => simp [intOf]
  ·rw [show ((2 : Nat) : Int) = 2 from rfl]
   gi_wp2_with fail
   go_end0
   exact ⟨⟨_,rfl⟩,.inl (by rw [HAL.out];exact HJs.out)⟩
theorem ways_seq (F : Fence) (n : Nat) (hfn : F.fn 40) (hFa : ∀ f,F.fn f) (hro : F.round = none) (hn : 1 ≤ n) (Bh Bm g n₁ : Nat) (ex : Nat → TypeId → Prop) (e : Est) (m : Nat) (h6 : e.H.length ≤ 6) (hm : m < 64) (hpos : 0 < e.H.length)
  (hex : ∀ k t,k < n₁ → ¬ ex k t) (hg : g < n₁) (hexh : ¬ ex Bh 87) (hexm : ¬ ex Bm 45) (w : World) (hexk : ∀ k,w.heap.size ≤ k → ¬ ex k 3)
  (hch : Row w Bh 87 [.pointer (some ⟨g,0,none⟩)]) (hcm : Row w Bm 45 [.int .u64 (m : Int)]) (hcg : w.cell? ⟨g,0,none⟩ = some (.slice e.hA e.H.length e.hc)) (hgw : g < w.heap.size) (hok : Rd w n₁ 3 e.hA e.H.length (e.H.flatMap Heir.cells)) (hnw : n₁ ≤ w.heap.size) (hhc : e.H.length ≤ e.hc) :
  SeqStopsK F n Tryz.prog 40 #[.pointer (some ⟨Bh,0,none⟩),.pointer (some ⟨Bm,0,none⟩)] (fun y : {y : Way // y ∈ e.wall m} => encW y.1) (KeepQ ex) (fun ys => ys.map Subtype.val = e.wall m) (fun pre => e.wpre m (pre.map Subtype.val)) 12 w := by
 intro l J Jx W hb hJ hJx hY h0
 have := ways1_in F n hfn hFa hro hn l Bh Bm g n₁ ex e m h6 hm hpos hex hg hexh hexm (fun xs W => ∃ ys,ys.map Subtype.val = xs ∧ J ys W) (fun xs W => ∃ ys,ys.map Subtype.val = xs ∧ Jx ys W) W (fun k hk => hexk k (by have := hb.size;omega))
  (fun xs X Y row h hg' hr => by obtain ⟨ys,h1,h2⟩ := h;exact ⟨ys,h1,hJ ys X Y row h2 hg' hr⟩)
  (fun pre x W1 hx hp hl => by
   obtain ⟨ys,h1,h2⟩ := hp
   subst h1
   refine (hY ys ⟨x,hx⟩ W1 h2 (by simpa using hl)).mono ?_
   rintro e' W' (⟨a,b,c⟩ | ⟨a,b⟩)
   ·exact .inl ⟨a,⟨_,by simp,b⟩,c⟩
   ·exact .inr ⟨a,⟨_,by simp,b⟩⟩)
  (hch.below hb hch.lt) (hcm.below hb hcm.lt) ((hb.cell (p := ⟨g,0,none⟩) hgw).trans hcg) (hok.below (hb.mono hnw)) hhc ⟨[],rfl,h0⟩
 refine this.mono ?_
 rintro e' W' ⟨hv,h⟩
 refine ⟨hv,?_⟩
 rcases h with ⟨ys,rfl,zs,h1,h2⟩ | ⟨pre,h1,zs,rfl,h2⟩
 ·exact .inl ⟨zs,h1,h2⟩
 ·exact .inr ⟨zs,h1,h2⟩
end Go.Proofs.YtjcpjhlclpdpjaaGreat
namespace Go.Proofs.YtjcpjhlclpdpjaaGreat
def stl (all : List Ent) (i : Nat) : Prop := 0 ≤ (all.getD i dE).c
def nset (all : List Ent) : Nat := (all.filter fun x => decide (0 ≤ x.c)).length
theorem nset_le (all : List Ent) : nset all ≤ all.length := List.length_filter_le _ _
theorem nset_set : ∀ (all : List Ent) (i : Nat) (x : Ent),i < all.length → ¬ stl all i → 0 ≤ x.c → nset (all.set i x) = nset all + 1
 | [],i,x,h,_,_ => by simp at h
 | a :: l,0,x,_,hs,hx => by
  unfold nset
  have ha : decide (0 ≤ a.c) = false := decide_eq_false hs
  rw [List.set_cons_zero,List.filter_cons,List.filter_cons,if_pos (by simpa using hx),ha]
  simp
 | a :: l,i + 1,x,h,hs,hx => by
  have ih := nset_set l i x (by simpa using h) hs hx
  unfold nset at ih ⊢
  rw [List.set_cons_succ,List.filter_cons,List.filter_cons]
  split <;> simp [ih]
structure DjE where
 e : Est
 vs : List Nat
 am : Nat
def DjE.M (D : DjE) : Nat := 2 ^ D.e.H.length
def DjE.sf (D : DjE) (m : Nat) : Prop := D.e.sf D.vs m = true
def DjE.lv (D : DjE) (m : Nat) : Prop := D.e.en m D.am = true
structure Jst (D : DjE) (all : List Ent) (y : Ent) : Prop where
 lt : y.m < D.M
 sf : D.sf y.m
 c0 : 0 ≤ y.c
 s0 : 0 ≤ y.s
 cb : y.c ≤ y.s * 1048576
 wy : (y.s = 0 ∧ y.c = 0 ∧ D.lv y.m) ∨ ∃ w ∈ D.e.wall y.m,w.t < D.M ∧ stl all w.t ∧ (all.getD w.t dE).c + w.c = y.c ∧ (all.getD w.t dE).s + 1 = y.s
structure Dj (D : DjE) (X : Nat → Way → Prop) (all q : List Ent) : Prop where
 len : all.length = D.M
 idx : ∀ i,i < D.M → (all.getD i dE).m = i
 cs : ∀ i,i < D.M → (all.getD i dE).c = -1 ∨ stl all i
 jst : ∀ i,i < D.M → stl all i → Jst D all (all.getD i dE)
 qj : ∀ y ∈ q,Jst D all y
 sk : ∀ i,i < D.M → stl all i → (all.getD i dE).s < nset all
 qs : ∀ y ∈ q,y.s ≤ nset all
 lv : ∀ i,i < D.M → D.sf i → D.lv i → stl all i ∨ (⟨i,0,0⟩ : Ent) ∈ q
 edge : ∀ i,i < D.M → D.sf i → ¬ stl all i → ∀ w ∈ D.e.wall i,stl all w.t → X i w ∨ (⟨i,(all.getD w.t dE).c + w.c,(all.getD w.t dE).s + 1⟩ : Ent) ∈ q
 ord : ∀ i,i < D.M → stl all i → ∀ y ∈ q,¬ ltE y (all.getD i dE)
 bell : ∀ i,i < D.M → stl all i → ∀ w ∈ D.e.wall i,stl all w.t → (all.getD i dE).c ≤ (all.getD w.t dE).c + w.c
 l0 : ∀ i,i < D.M → stl all i → D.lv i → (all.getD i dE).s = 0 ∧ (all.getD i dE).c = 0
structure DjE.ok (D : DjE) : Prop where
 tt : ∀ m,m < D.M → ∀ w ∈ D.e.wall m,w.t < D.M ∧ 0 ≤ w.c ∧ w.c ≤ 1048576 ∧ w.t ≠ m
 back : ∀ m,m < D.M → ∀ w ∈ D.e.wall m,∃ b ∈ D.e.wall w.t,b.t = m
 m64 : D.M ≤ 64
variable {D : DjE} {X X' : Nat → Way → Prop} {all q q' : List Ent} {x : Ent}
theorem Dj.weak (h : Dj D X all q) (hx : ∀ i w,i < D.M → D.sf i → ¬ stl all i → w ∈ D.e.wall i → stl all w.t → X i w → X' i w ∨ (⟨i,(all.getD w.t dE).c + w.c,(all.getD w.t dE).s + 1⟩ : Ent) ∈ q) : Dj D X' all q :=
 { h with
  edge := fun i hi hs hn w hw ht => by
   rcases h.edge i hi hs hn w hw ht with h1 | h1
   ·exact hx i w hi hs hn hw ht h1
   ·exact .inr h1 }
theorem Dj.drop (h : Dj D X all q) (hq : ∀ y,y ∈ q ↔ y ∈ q' ∨ y = x) (hx : stl all x.m) : Dj D X all q' :=
 { h with
  qj := fun y hy => h.qj y ((hq y).2 (.inl hy))
  qs := fun y hy => h.qs y ((hq y).2 (.inl hy))
  lv := fun i hi hs hl => by
   rcases h.lv i hi hs hl with h1 | h1
   ·exact .inl h1
   ·rcases (hq _).1 h1 with h2 | h2
    ·exact .inr h2
    ·exact .inl (by rw [← h2] at hx;exact hx)
  edge := fun i hi hs hn w hw ht => by
   rcases h.edge i hi hs hn w hw ht with h1 | h1
   ·exact .inl h1
   ·rcases (hq _).1 h1 with h2 | h2
    ·exact .inr h2
    ·exact absurd (by rw [← h2] at hx;exact hx) hn
  ord := fun i hi hs y hy => h.ord i hi hs y ((hq y).2 (.inl hy)) }
theorem Dj.push (h : Dj D X all q) (hq : ∀ y,y ∈ q' ↔ y ∈ q ∨ y = x) (hj : Jst D all x) (hk : x.s ≤ nset all) (ho : ∀ i,i < D.M → stl all i → ¬ ltE x (all.getD i dE)) : Dj D X all q' :=
 { h with
  qj := fun y hy => ((hq y).1 hy).elim (fun h1 => h.qj y h1) (fun e => by rw [e];exact hj)
  qs := fun y hy => ((hq y).1 hy).elim (fun h1 => h.qs y h1) (fun e => by rw [e];exact hk)
  lv := fun i hi hs hl => (h.lv i hi hs hl).imp id fun h1 => (hq _).2 (.inl h1)
  edge := fun i hi hs hn w hw ht => (h.edge i hi hs hn w hw ht).imp id fun h1 => (hq _).2 (.inl h1)
  ord := fun i hi hs y hy => ((hq y).1 hy).elim (fun h1 => h.ord i hi hs y h1) (fun e => by rw [e];exact ho i hi hs) }
theorem getD_set (l : List Ent) (i j : Nat) (x : Ent) (hi : i < l.length) : (l.set i x).getD j dE = if i = j then x else l.getD j dE := by
 rw [List.getD_eq_getElem?_getD,List.getElem?_set]
 by_cases h : i = j
 ·subst h;simp [hi]
 ·rw [if_neg h,if_neg h,List.getD_eq_getElem?_getD]
theorem Dj.settle (ok : D.ok) (h : Dj D (fun _ _ => False) all q) (hq : ∀ y,y ∈ q ↔ y ∈ q' ∨ y = x) (hmin : ∀ y ∈ q,¬ ltE y x) (hx : ¬ stl all x.m) : Dj D (fun _ w => w.t = x.m) (all.set x.m x) q' := by
 have hxq : x ∈ q := (hq x).2 (.inr rfl)
 have jx := h.qj x hxq
 have hxl : x.m < all.length := by rw [h.len];exact jx.lt
 have g := fun j => getD_set all x.m j x hxl
 have gne : ∀ j,j ≠ x.m → (all.set x.m x).getD j dE = all.getD j dE := fun j hj => by rw [g,if_neg (fun e => hj e.symm)]
 have geq : (all.set x.m x).getD x.m dE = x := by rw [g,if_pos rfl]
 have sx : stl (all.set x.m x) x.m := by unfold stl;rw [geq];exact jx.c0
 have st : ∀ j,stl all j → stl (all.set x.m x) j := fun j hj => by
  by_cases e : j = x.m
  ·rw [e];exact sx
  ·unfold stl;rw [gne j e];exact hj
 have ts : ∀ j,j ≠ x.m → stl (all.set x.m x) j → stl all j := fun j hj hs => by unfold stl at hs;rw [gne j hj] at hs;exact hs
 have nn : nset (all.set x.m x) = nset all + 1 := nset_set all x.m x hxl hx jx.c0
 have jm : ∀ y,Jst D all y → Jst D (all.set x.m x) y := fun y hy => ⟨hy.lt,hy.sf,hy.c0,hy.s0,hy.cb,hy.wy.imp id fun ⟨w,h1,h2,h3,h4,h5⟩ => by
  have hne : w.t ≠ x.m := fun e => hx (by rw [← e];exact h3)
  exact ⟨w,h1,h2,st _ h3,by rw [gne _ hne];exact h4,by rw [gne _ hne];exact h5⟩⟩
 refine ⟨by rw [List.length_set];exact h.len,?_,?_,?_,?_,?_,?_,?_,?_,?_,?_,?_⟩
 ·intro i hi
  by_cases e : i = x.m
  ·rw [e,geq]
  ·rw [gne i e];exact h.idx i hi
 ·intro i hi
  by_cases e : i = x.m
  ·exact .inr (by rw [e];exact sx)
  ·rw [gne i e];exact (h.cs i hi).imp id (st i)
 ·intro i hi hs
  by_cases e : i = x.m
  ·rw [e,geq];exact jm x jx
  ·rw [gne i e];exact jm _ (h.jst i hi (ts i e hs))
 ·exact fun y hy => jm y (h.qj y ((hq y).2 (.inl hy)))
 ·intro i hi hs
  rw [nn]
  by_cases e : i = x.m
  ·rw [e,geq];have := h.qs x hxq;omega
  ·rw [gne i e];have := h.sk i hi (ts i e hs);omega
 ·intro y hy
  rw [nn]
  have := h.qs y ((hq y).2 (.inl hy))
  omega
 ·intro i hi hs hl
  by_cases e : i = x.m
  ·exact .inl (by rw [e];exact sx)
  ·rcases h.lv i hi hs hl with h1 | h1
   ·exact .inl (st i h1)
   ·rcases (hq _).1 h1 with h2 | h2
    ·exact .inr h2
    ·exact absurd (by rw [← h2]) e
 ·intro i hi hs hn w hw ht
  by_cases e : w.t = x.m
  ·exact .inl e
  ·have hni : i ≠ x.m := fun e2 => hn (by rw [e2];exact sx)
   rw [gne _ e]
   rcases h.edge i hi hs (fun h1 => hn (st i h1)) w hw (ts _ e ht) with h1 | h1
   ·exact h1.elim
   ·rcases (hq _).1 h1 with h2 | h2
    ·exact .inr h2
    ·exact absurd (by rw [← h2]) hni
 ·intro i hi hs y hy
  have hyq := (hq y).2 (.inl hy)
  by_cases e : i = x.m
  ·rw [e,geq];exact hmin y hyq
  ·rw [gne i e];exact h.ord i hi (ts i e hs) y hyq
 ·intro i hi hs w hw ht
  obtain ⟨t1,t2,t3,t4⟩ := ok.tt i hi w hw
  by_cases e : i = x.m
  ·have hne : w.t ≠ x.m := by rw [← e];exact t4
   rw [e,geq,gne _ hne]
   rcases h.edge i hi (by rw [e];exact jx.sf) (by rw [e];exact hx) w hw (ts _ hne ht) with h1 | h1
   ·exact h1.elim
   ·have := hmin _ h1
    unfold ltE at this
    simp only at this
    omega
  ·rw [gne i e]
   have hi' := ts i e hs
   by_cases e2 : w.t = x.m
   ·rw [e2,geq]
    have := h.ord i hi hi' x hxq
    unfold ltE at this
    omega
   ·rw [gne _ e2];exact h.bell i hi hi' w hw (ts _ e2 ht)
 ·intro i hi hs hl
  by_cases e : i = x.m
  ·rw [e,geq]
   rcases h.lv i hi (by rw [e];exact jx.sf) hl with h1 | h1
   ·exact absurd (by rw [← e];exact h1) hx
   ·have := hmin _ h1
    have h2 := jx.c0
    have h3 := jx.s0
    unfold ltE at this
    simp only at this
    omega
  ·rw [gne i e];exact h.l0 i hi (ts i e hs) hl
theorem Dj.entry (ok : D.ok) (h : Dj D X all q) {i t : Nat} (hi : i < D.M) (ht : t < D.M) (hs : D.sf i) (hst : stl all t) (w : Way) (hw : w ∈ D.e.wall i) (hwt : w.t = t) (hmax : ∀ j,j < D.M → stl all j → ¬ ltE (all.getD t dE) (all.getD j dE)) :
  Jst D all ⟨i,(all.getD t dE).c + w.c,(all.getD t dE).s + 1⟩ ∧ (all.getD t dE).s + 1 ≤ nset all ∧ ∀ j,j < D.M → stl all j → ¬ ltE ⟨i,(all.getD t dE).c + w.c,(all.getD t dE).s + 1⟩ (all.getD j dE) := by
 obtain ⟨t1,t2,t3,t4⟩ := ok.tt i hi w hw
 have jt := h.jst t ht hst
 have h0 := jt.c0
 have h1 := jt.s0
 have h2 := jt.cb
 have h3 := h.sk t ht hst
 refine ⟨⟨hi,hs,by show 0 ≤ _ + _;omega,by show 0 ≤ _ + (1 : Int);omega,by show _ + _ ≤ (_ + 1) * (1048576 : Int);omega,.inr ⟨w,hw,t1,by rw [hwt];exact hst,by rw [hwt],by rw [hwt]⟩⟩,by omega,fun j hj hsj => ?_⟩
 have := hmax j hj hsj
 unfold ltE at this ⊢
 simp only
 omega
structure Fin (D : DjE) (all : List Ent) : Prop where
 len : all.length = D.M
 idx : ∀ i,i < D.M → (all.getD i dE).m = i
 cs : ∀ i,i < D.M → (all.getD i dE).c = -1 ∨ stl all i
 jst : ∀ i,i < D.M → stl all i → Jst D all (all.getD i dE)
 sk : ∀ i,i < D.M → stl all i → (all.getD i dE).s < 64
 lv : ∀ i,i < D.M → D.sf i → D.lv i → stl all i ∧ (all.getD i dE).s = 0 ∧ (all.getD i dE).c = 0
 edge : ∀ i,i < D.M → D.sf i → ∀ w ∈ D.e.wall i,stl all w.t → stl all i ∧ (all.getD i dE).c ≤ (all.getD w.t dE).c + w.c
theorem Dj.fin (ok : D.ok) (h : Dj D (fun _ _ => False) all []) : Fin D all := by
 have st : ∀ i,i < D.M → D.sf i → ∀ w ∈ D.e.wall i,stl all w.t → stl all i := fun i hi hs w hw ht => by
  refine Classical.byContradiction fun hn => ?_
  rcases h.edge i hi hs hn w hw ht with h1 | h1
  ·exact h1
  ·simp at h1
 refine ⟨h.len,h.idx,h.cs,h.jst,fun i hi hs => ?_,fun i hi hs hl => ?_,fun i hi hs w hw ht => ?_⟩
 ·have := h.sk i hi hs;have := nset_le all;have := h.len;have := ok.m64;omega
 ·have h1 : stl all i := by
   rcases h.lv i hi hs hl with h1 | h1
   ·exact h1
   ·simp at h1
  exact ⟨h1,(h.l0 i hi h1 hl).1,(h.l0 i hi h1 hl).2⟩
 ·have h1 := st i hi hs w hw ht
  exact ⟨h1,h.bell i hi h1 w hw ht⟩
end Go.Proofs.YtjcpjhlclpdpjaaGreat
