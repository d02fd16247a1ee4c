import Derived.Maps.OwnSet
import Derived.Test.YtjcpjhlclpdpjaaGreatS15
import Derived.Test.YtjcpjhlclpdpjaaGreatS01
set_option linter.unusedVariables false
set_option maxRecDepth 100000
set_option maxHeartbeats 16000000
namespace Go.Proofs.YtjcpjhlclpdpjaaGreat
open Go.RowKit
attribute [local go_sem] Oper.semAt_some
theorem keyInt : Maps.Keyed Tryz.prog 3 := Maps.int_keyed Tryz.underlying3
theorem zeroInt (w : World) : (zeroValue 3).run Tryz.prog w = .ok (.int .i64 0) w := by kernel_rfl
def MapW (w : World) (b : Nat) (who : List Int) : Prop := ∃ (n : Nat) (D : DataW Unit),n ≤ 4096 ∧ w.ownsMap Tryz.prog 3 (plainElem Tryz.prog 3) b n D ∧ ∀ p : Int,(Lit.int .i64 p).wf = true → D.atKey (.int .i64 p) (.lit (.int .i64 0)) = .lit (.int .i64 (if p ∈ who then 1 else 0))
theorem MapW.lt {w : World} {b : Nat} {who : List Int} (h : MapW w b who) : b < w.heap.size := by obtain ⟨n,D,_,h1,_⟩ := h;exact h1.lt
theorem MapW.below {w w' : World} {b : Nat} {who : List Int} (h : MapW w b who) (hb : Below w.heap.size w w') : MapW w' b who := by
 have hl := h.lt
 obtain ⟨n,D,h0,h1,h2⟩ := h
 obtain ⟨es,clock,q1,q2⟩ := h1
 exact ⟨n,D,h0,⟨es,clock,(hb.block b hl).trans q1,q2⟩,h2⟩
theorem MapW.grown {w w' : World} {b : Nat} {who : List Int} {row : Option Nat} (h : MapW w b who) (hg : w.grownBy w' row) (hne : some b ≠ row) : MapW w' b who := by
 obtain ⟨n,D,h0,h1,h2⟩ := h
 exact ⟨n,D,h0,h1.kept hg hne,h2⟩
theorem MapW.block {w w' : World} {b : Nat} {who : List Int} (h : MapW w b who) (hb : w'.heap[b]? = w.heap[b]?) : MapW w' b who := by
 obtain ⟨n,D,h0,h1,h2⟩ := h
 obtain ⟨es,clock,q1,q2⟩ := h1
 exact ⟨n,D,h0,⟨es,clock,hb.trans q1,q2⟩,h2⟩
theorem results_cell_1 {P : Program} {fn : Func} {p : Tmp} {ty : TypeId} (h : fn.results = #[.cell p ty]) (tmps : Array Value) (w : World) (g : Nat) (v : Value)
  (hp : tmps.getD p undef = .pointer (some ⟨g,0,none⟩)) (hc : w.cell? ⟨g,0,none⟩ = some v) (ha : (isAgg ty).run P w = .ok false w) : (results fn tmps).run P w = .ok v w := by
 have hp' : tmps[p]?.getD undef = .pointer (some ⟨g,0,none⟩) := by simpa using hp
 simp [results,h,hp',asAddr,loadVar,ha,hc]
theorem isAgg_bool' (w : World) : (isAgg 4).run Tryz.prog w = .ok false w := by kernel_rfl
theorem Marks.chgT {B C : Nat} {ds : List Deferred} {w w' : World} {ex : Nat → Prop} (h : Marks B C ds w) (hc : Tch ex w w') (hx : ∀ k,ex k → ∀ o,w.heap[k]? = some o → o.isCells = true) (hC : C ≤ w.heap.size) : Marks B C ds w' :=
 ⟨fun d hd => by
  obtain ⟨D,e,h1,h2,h3⟩ := h.1 d hd
  exact ⟨D,e,h1,h2,(hc.block D (by omega) (fun he => by have := hx D he _ h3;simp [Obj.isCells] at this)).trans h3⟩,h.2⟩
theorem wpIn_loop_ghostU {F : Fence} {n : Nat} {P : Program} {Q : Exit → Act → World → Prop} {a : Act} {w : World} {c : Code} (J : Nat → Act → World → Prop) (h : ∃ m,J m a w)
  (round : ∀ m a w,J m a w → c.wpIn F n P (Exit.then (fun a' w' => ∃ m',m' < m ∧ J m' a' w') Q) a w) : (Code.loop c).wpIn F n P Q a w := by
 have key : ∀ k m a w,m < k → J m a w → Code.roundsIn F n P c Q k a w := by
  intro k
  induction k with
  | zero => intro m a w hm;omega
  | succ k ih =>
   intro m a w hm hJ
   rw [roundsIn_succ]
   refine wpIn_mono (round m a w hJ) ?_
   intro e a' w' he
   cases e with
   | normal =>
    obtain ⟨m',h1,h2⟩ := he
    exact ih m' a' w' (by omega) h2
   | exit id => exact he
   | goto l => exact he
   | ret => exact he
   | panic ch => exact he
   | outgrown => exact he
 obtain ⟨m,hm⟩ := h
 exact wpIn_loop_rounds (m + 1) (key (m + 1) m a w (by omega) hm)
theorem Marks.moreU {B C C' : Nat} {ds : List Deferred} {w : World} (h : Marks B C ds w) (hC : C ≤ C') : Marks B C' ds w :=
 ⟨fun d hd => by obtain ⟨D,e,h1,h2,h3⟩ := h.1 d hd;exact ⟨D,e,h1,by omega,h3⟩,h.2⟩
def cntW (who P : List Int) : Nat := (P.filter fun p => decide (p ∈ who)).length
theorem wf64 {p : Int} (h0 : 0 ≤ p) (h1 : p < 64) : (Lit.int .i64 p).wf = true := by
 have hm : IntKind.i64.min = -9223372036854775808 := by decide
 have hx : IntKind.i64.max = 9223372036854775807 := by decide
 simp [Lit.wf,hm,hx];omega
theorem holds_leaf (p : Int) (who : List Int) (b : Nat) (w : World) (h0 : 0 ≤ p) (h1 : p < 64) (hm : MapW w b who) :
  Calls Tryz.prog 48 #[leafV p,.map (some b)] w fun r w' => r = .returned (.bool (decide (p ∈ who))) ∧ Below w.heap.size w w' := by
 have hkey : keyOf Tryz.prog 3 (.int .i64 p) = some (.int .i64 p) := Maps.keyOf_int_mk Tryz.underlying3 (wf64 h0 h1)
 obtain ⟨w2,hw2⟩ : ∃ w2,(w.alloc (.cells #[.int .i64 p,.int .i64 0,.slice none 0 0] 68)).alloc (.cells #[.bool false] 4) = w2 := ⟨_,rfl⟩
 obtain ⟨s,hs⟩ : ∃ s,w.heap.size = s := ⟨_,rfl⟩
 have hB : Below w.heap.size w w2 := by rw [← hw2];exact ((Below.refl _ _).alloc (Nat.le_refl _) _).alloc (by simp) _
 have hr0 : Row w2 s 68 [.int .i64 p,.int .i64 0,.slice none 0 0] := by rw [← hw2];exact (Row.fresh' w _ _ hs).alloc _
 have hr1 : Row w2 (s + 1) 4 [.bool false] := by rw [← hw2];exact Row.fresh' _ _ _ (by simp [hs])
 obtain ⟨n,D,hn,hown,hat⟩ := hm.below hB
 have hat := hat p (wf64 h0 h1)
 have HAT := Lib.hid hat
 have HKEY := Lib.hid hkey
 have HB := Lib.hid hB
 have HR0 := Lib.hid hr0
 have HR1 := Lib.hid hr1
 have HS := Lib.hid hs
 subst hw2
 have HOWN := Lib.hid hown
 clear hat hown hkey hB hr0 hr1 hs hm
 go_enter Tryz.func48,Tryz.ntmps48
 go_wp2_with (at_lookup;refine wpList_lookup_own_int _ rfl _ _ 101 rfl 3 3 .i64 keyInt Tryz.underlying101 Tryz.underlying3 (zeroInt _) b n D rfl HOWN.out _ _ rfl HKEY.out ?_;intro c hat hwc)
 have hc2 : c = if p ∈ who then 1 else 0 := by
  have h := HAT.out
  rw [hat] at h
  injection h with h
  injection h with _ h
 refine bodyPost_ret (results_cell_1 rfl _ _ (w.heap.size + 1) (.bool (decide (0 < c))) (by rfl) ((Row.fresh' _ _ [_] (by simp)).cell (i := 0) rfl) (isAgg_bool' _)) rfl ⟨?_,((Below.refl _ _).alloc (Nat.le_refl _) _).alloc (by simp) _⟩
 rw [hc2]
 by_cases h : p ∈ who <;> simp [h]
theorem held_any (g : Gt) (mb : Nat) (w : World) : Calls Tryz.prog 70 #[g.val,.map (some mb)] w fun r w' =>
  r = .returned (.func (.func 96) #[] #[.pointer (some ⟨w.heap.size,0,none⟩),.pointer (some ⟨w.heap.size + 1,0,none⟩)]) ∧
  (w.alloc (.cells #[.int .i64 (-1),.int .i64 g.N,.slice g.A g.P.length g.c] 68)).alloc (.cells #[.map (some mb)] 101) = w' := by
 go_enter Tryz.func70,Tryz.ntmps70
 go_wp2
 go_ret
 exact ⟨rfl,rfl⟩
theorem cntW_take {who P : List Int} {k : Nat} {p : Int} (h : P[k]? = some p) : cntW who (P.take (k + 1)) = cntW who (P.take k) + if p ∈ who then 1 else 0 := by
 unfold cntW
 rw [List.take_add_one,h,List.filter_append,List.length_append]
 by_cases hp : p ∈ who <;> simp [hp]
theorem cntW_le (who P : List Int) (k : Nat) : cntW who (P.take k) ≤ cntW who P := by
 unfold cntW
 have h : P = P.take k ++ P.drop k := (List.take_append_drop k P).symm
 conv => rhs;rw [h]
 rw [List.filter_append,List.length_append]
 omega
theorem results_none' {P : Program} {fn : Func} (h : fn.results = #[]) (tmps : Array Value) (w : World) (v : Value) (hv : v = .tuple #[]) : (results fn tmps).run P w = .ok v w := by
 subst hv
 simp [results,h]
theorem held1_hands (g : Gt) (who : List Int) (mb sg sm n1 : Nat) (w0 : World) (I : Nat → World → Prop)
  (hI : ∀ s W,I s W → Row W sg 68 [.int .i64 (-1),.int .i64 g.N,.slice g.A g.P.length g.c] ∧ Row W sm 101 [.map (some mb)] ∧ MapW W mb who ∧ g.ok W n1 ∧ n1 ≤ W.heap.size) :
  Hands Fence.wide 8 Tryz.prog 96 #[.pointer (some ⟨sg,0,none⟩),.pointer (some ⟨sm,0,none⟩)] w0 I (fun s vs s' _ => s' = s + 1 ∧ s < cntW who g.P ∧ vs.size = 1) 0 (fun s => s = cntW who g.P) := by
 intro l J Jx W hb hJI hJ hJx hY h0
 obtain ⟨n,hn⟩ : ∃ n,g.P.length = n := ⟨_,rfl⟩
 obtain ⟨N,hN⟩ : ∃ N,g.N = N := ⟨_,rfl⟩
 obtain ⟨gA,hgA⟩ : ∃ x,g.A = x := ⟨_,rfl⟩
 obtain ⟨gc,hgc⟩ : ∃ x,g.c = x := ⟨_,rfl⟩
 have HI : Hid (∀ s V,J s V → V.cell? ⟨sg,2,none⟩ = some (.slice gA n gc) ∧ V.cell? ⟨sm,0,none⟩ = some (.map (some mb)) ∧ sg < V.heap.size ∧ sm < V.heap.size) := fun s V h => by
  obtain ⟨q1,q2,q3,q4,q5⟩ := hI s V (hJI s V h)
  rw [← hgA,← hn,← hgc]
  exact ⟨q1.cell (i := 2) rfl,q2.cell (i := 0) rfl,q1.lt,q2.lt⟩
 have HP : Hid (∀ s V,J s V → ∀ k,k < n → ∃ b o,gA = some ⟨b,o,none⟩ ∧ b < V.heap.size ∧ V.cell? ⟨b,o + k * 3,none⟩ = some (.int .i64 (g.p k)) ∧ V.cell? ⟨b,o + k * 3 + 1,none⟩ = some (.int .i64 0) ∧ V.cell? ⟨b,o + k * 3 + 2,none⟩ = some (.slice none 0 0)) := fun s V h k hk => by
  obtain ⟨q1,q2,q3,q4,q5⟩ := hI s V (hJI s V h)
  rw [← hn] at hk
  obtain ⟨b,o,e1,hall⟩ := q4.leaf (by omega)
  obtain ⟨b',o',e2,hb',_⟩ := q4.rd.2 (by omega)
  rw [e1] at e2
  injection e2 with e2
  injection e2 with e3 e4
  exact ⟨b,o,by rw [← hgA];exact e1,by omega,hall k hk V (Below.refl _ _)⟩
 have HL : Hid (∀ s V,J s V → ∀ k,k < n → Calls Tryz.prog 48 #[leafV (g.p k),.map (some mb)] V fun r w' => r = .returned (.bool (decide (g.p k ∈ who))) ∧ Below V.heap.size V w') := fun s V h k hk => by
  obtain ⟨q1,q2,q3,q4,q5⟩ := hI s V (hJI s V h)
  rw [← hn] at hk
  exact holds_leaf _ _ _ _ (q4.pk hk).1 (q4.pk hk).2 q3
 have HC : Hid (∀ k,k < n → cntW who (g.P.take (k + 1)) = cntW who (g.P.take k) + if g.p k ∈ who then 1 else 0) := fun k hk => cntW_take (by
  rw [← hn] at hk
  unfold Gt.p
  rw [List.getD_eq_getElem?_getD,List.getElem?_eq_getElem hk]
  rfl)
 have HJB : Hid (∀ s V V',J s V → Below V.heap.size V V' → J s V') := fun s V V' h hb => hJ s V V' none h ⟨hb.os,hb.tape,hb.output,hb.size,fun k hk _ => hb.block k hk⟩ (fun r e => by cases e)
 have HE : Hid (cntW who (g.P.take n) = cntW who g.P) := by show _ = _;rw [List.take_of_length_le (by omega)]
 have HLE : Hid (∀ k,cntW who (g.P.take k) ≤ cntW who g.P) := fun k => cntW_le who g.P k
 have HY := Lib.hid hY
 have H0 := Lib.hid h0
 have hn64 : n ≤ 64 := by rw [← hn];exact (hI _ _ (hJI _ _ h0)).2.2.2.1.len
 have hnc : n ≤ gc := by rw [← hn,← hgc];exact (hI _ _ (hJI _ _ h0)).2.2.2.1.cap
 refine callsIn_of_wp Tryz.func96 rfl trivial ?_ rfl
 obtain ⟨c2,c0,l1,l2⟩ := HI.out _ _ h0
 clear hI hJI hJ hJx hY h0 hn hN hgA hgc hb
 simp only [Tryz.ntmps96,List.size_toArray,List.length_cons,List.length_nil,Nat.reduceAdd,Nat.reduceSub,Array.replicate_succ,Array.replicate_zero,List.push_toArray,List.append_toArray,List.nil_append,List.cons_append]
 gi_wp2
 clear c2 c0 l1 l2
 gi_loopw [9] (fun x wr => ∃ k : Nat,k ≤ n ∧ x = .int .i64 k ∧ J (cntW who (g.P.take k)) wr) (fun x _ => n - (intOf x).toNat)
 case atStart => exact ⟨0,by omega,rfl,H0.out⟩
 case round =>
  clear H0
  obtain ⟨k,hk,rfl,hj⟩ := hrel
  have HJ := Lib.hid hj
  clear hj
  by_cases hlt : k < n
  ·have k1 : (k : Int) < (n : Int) := by omega
   have k0 : (0 : Int) ≤ (k : Int) := by omega
   obtain ⟨b,o,hA1,hbb,x0,x1,x2⟩ := HP.out _ _ HJ.out k hlt
   subst hA1
   have hL := HL.out
   obtain ⟨c2,c0,l1,l2⟩ := HI.out _ _ HJ.out
   have hcc := HC.out k hlt
   obtain ⟨P,hP⟩ : ∃ P,g.p k = P := ⟨_,rfl⟩
   have HJ1 : Hid (J (cntW who (g.P.take k)) (wr.alloc (.cells #[.int .i64 P,.int .i64 0,.slice none 0 0] 68))) := HJB.out _ _ _ HJ.out ((Below.refl _ _).alloc (Nat.le_refl _) _)
   have hC := HL.out _ _ HJ1.out k hlt
   have HRX : Hid (Row (wr.alloc (.cells #[.int .i64 P,.int .i64 0,.slice none 0 0] 68)) wr.heap.size 68 [.int .i64 P,.int .i64 0,.slice none 0 0]) := Row.fresh _ _ _
   rw [hP] at x0 hC hcc
   have HCC := Lib.hid hcc
   have HC1 := Lib.hid hC
   clear hL hC hcc hP
   gi_wp2_with fail
   refine ⟨trivial,(callsIn_wide.2 HC1.out).mono ?_⟩
   rintro r w1 ⟨rfl,hb1⟩
   have HJ2 := Lib.hid (HJB.out _ _ _ HJ1.out hb1)
   have HR2 := Lib.hid (HRX.out.below hb1 HRX.out.lt)
   clear hb1 x0 x1 x2 c2 c0 l1 l2
   by_cases hp : P ∈ who
   ·have hd : decide (P ∈ who) = true := decide_eq_true hp
    have hy0 := HY.out _ #[leafV P] (cntW who (g.P.take k) + 1) w1 HJ2.out ⟨rfl,by have := HCC.out;rw [if_pos hp] at this;have := HLE.out (k + 1);omega,rfl⟩
    obtain ⟨fn,tmps,assign,body,hy,hRR⟩ := hy0
    have HRR := Lib.hid hRR
    have y0 := HR2.out.cell (i := 0) rfl
    have y1 := HR2.out.cell (i := 1) rfl
    have y2 := HR2.out.cell (i := 2) rfl
    have HCP : Hid (cntW who (g.P.take (k + 1)) = cntW who (g.P.take k) + 1) := by show _ = _;rw [HCC.out,if_pos hp]
    rw [hd]
    clear hRR hp hd
    gi_wp2_with fail
    refine HRR.out.mono ?_
    rintro x W3 (⟨rfl,hJ3⟩ | ⟨rfl,hJ3⟩)
    ·have HJ3 := Lib.hid hJ3
     clear hJ3 y0 y1 y2 hy
     gi_wp2_with fail
     go_roundw
     case rel => exact ⟨k + 1,by omega,by go_num,by rw [HCP.out];exact HJ3.out⟩
     case measure => simp [intOf];omega
    ·have HJ3 := Lib.hid hJ3
     clear hJ3 y0 y1 y2 hy
     gi_wp2_with fail
     refine bodyPost_ret (results_none' rfl _ _ _ rfl) rfl ?_
     exact ⟨⟨_,rfl⟩,.inr ⟨_,HJ3.out⟩⟩
   ·have hd : decide (P ∈ who) = false := decide_eq_false hp
    have HCP : Hid (cntW who (g.P.take (k + 1)) = cntW who (g.P.take k)) := by show _ = _;rw [HCC.out,if_neg hp];rfl
    rw [hd]
    clear hp hd
    gi_wp2_with fail
    refine ⟨fun _ _ => trivial,?_⟩
    gi_wp2_with fail
    go_roundw
    case rel => exact ⟨k + 1,by omega,by go_num,by rw [HCP.out];exact HJ2.out⟩
    case measure => simp [intOf];omega
  ·obtain rfl : k = n := by omega
   gi_wp2_with fail
   refine bodyPost_end (results_none' rfl _ _ _ rfl) rfl ?_
   exact ⟨⟨_,rfl⟩,.inl ⟨_,HE.out,HJ.out⟩⟩
theorem holds_gate (g : Gt) (who : List Int) (mb : Nat) (w : World) (h : g.ok w w.heap.size) (hm : MapW w mb who) :
  Calls Tryz.prog 48 #[g.val,.map (some mb)] w fun r w' => r = .returned (.bool (decide (g.N ≤ ((cntW who g.P : Nat) : Int)))) ∧ Below w.heap.size w w' := by
 obtain ⟨s,hs⟩ : ∃ s,w.heap.size = s := ⟨_,rfl⟩
 have hHH : ∀ (W : World) (sg : Nat),Calls Tryz.prog 70 #[g.val,.map (some mb)] W fun r w' =>
  r = .returned (.func (.func 96) #[] #[.pointer (some ⟨W.heap.size,0,none⟩),.pointer (some ⟨W.heap.size + 1,0,none⟩)]) ∧
  (W.alloc (.cells #[.int .i64 (-1),.int .i64 g.N,.slice g.A g.P.length g.c] 68)).alloc (.cells #[.map (some mb)] 101) = w' := fun W _ => held_any g mb W
 have HSQ : Hid (∀ (sg sm n1 : Nat) (w0 : World) (I : Nat → World → Prop)
  (hI : ∀ s W,I s W → Row W sg 68 [.int .i64 (-1),.int .i64 g.N,.slice g.A g.P.length g.c] ∧ Row W sm 101 [.map (some mb)] ∧ MapW W mb who ∧ g.ok W n1 ∧ n1 ≤ W.heap.size),
  Hands Fence.wide 8 Tryz.prog 96 #[.pointer (some ⟨sg,0,none⟩),.pointer (some ⟨sm,0,none⟩)] w0 I (fun s vs s' _ => s' = s + 1 ∧ s < cntW who g.P ∧ vs.size = 1) 0 (fun s => s = cntW who g.P)) := fun sg sm n1 w0 I hI => held1_hands g who mb sg sm n1 w0 I hI
 have HOK := Lib.hid h
 have HMW := Lib.hid hm
 have n0 := h.n0
 have n1 := h.n1
 obtain ⟨C,hC⟩ : ∃ C,cntW who g.P = C := ⟨_,rfl⟩
 rw [hC] at HSQ ⊢
 clear h hm hC
 obtain ⟨w3,hw3⟩ : ∃ w3,((w.alloc (.cells #[.int .i64 (-1),.int .i64 g.N,.slice g.A g.P.length g.c] 68)).alloc (.cells #[.bool false] 4)).alloc (.cells #[.int .i64 g.N] 3) = w3 := ⟨_,rfl⟩
 have hB3 : Below w.heap.size w w3 := by rw [← hw3];exact (((Below.refl _ w).alloc (Nat.le_refl _) _).alloc (by simp) _).alloc (by simp;omega) _
 have hr0 : Row w3 s 68 [.int .i64 (-1),.int .i64 g.N,.slice g.A g.P.length g.c] := by rw [← hw3];exact ((Row.fresh' w _ _ hs).alloc _).alloc _
 have hr1 : Row w3 (s + 1) 4 [.bool false] := by rw [← hw3];exact (Row.fresh' _ _ _ (by simp [hs])).alloc _
 have hr2 : Row w3 (s + 1 + 1) 3 [.int .i64 g.N] := by rw [← hw3];exact Row.fresh' _ _ _ (by simp [hs])
 have HB3 := Lib.hid (And.intro hB3 (And.intro hr0 (And.intro hr1 hr2)))
 have HS := Lib.hid hs
 clear hB3 hr0 hr1 hr2
 obtain ⟨N,gA,gc,P⟩ := g
 obtain ⟨n,hn⟩ : ∃ n,P.length = n := ⟨_,rfl⟩
 change 1 ≤ N at n0
 change N ≤ 64 at n1
 change ((w.alloc (.cells #[.int .i64 (-1),.int .i64 N,.slice gA P.length gc] 68)).alloc (.cells #[.bool false] 4)).alloc (.cells #[.int .i64 N] 3) = w3 at hw3
 change ∀ (W : World) (sg : Nat),Calls Tryz.prog 70 #[.agg #[.int .i64 (-1),.int .i64 N,.slice gA P.length gc],.map (some mb)] W fun r w' =>
  r = .returned (.func (.func 96) #[] #[.pointer (some ⟨W.heap.size,0,none⟩),.pointer (some ⟨W.heap.size + 1,0,none⟩)]) ∧
  (W.alloc (.cells #[.int .i64 (-1),.int .i64 N,.slice gA P.length gc] 68)).alloc (.cells #[.map (some mb)] 101) = w' at hHH
 show Calls _ _ #[.agg #[.int .i64 (-1),.int .i64 N,.slice gA P.length gc],_] _ _
 have HB3 : Hid (Below w.heap.size w w3 ∧ Row w3 s 68 [.int .i64 (-1),.int .i64 N,.slice gA P.length gc] ∧ Row w3 (s + 1) 4 [.bool false] ∧ Row w3 (s + 1 + 1) 3 [.int .i64 N]) := HB3
 rw [hn] at hw3 hHH HB3 ⊢
 have HH := Lib.hid hHH
 have HN := Lib.hid hn
 clear hHH hn hs
 subst hw3
 refine (callsIn_wide (n := 9)).1 ?_
 refine callsIn_of_wp_marks Tryz.func48 rfl trivial ?_ rfl
 simp only [Tryz.ntmps48,List.size_toArray,List.length_cons,List.length_nil,Nat.reduceAdd,Nat.reduceSub,Array.replicate_succ,Array.replicate_zero,List.push_toArray,List.append_toArray,List.nil_append,List.cons_append]
 gi_wp2_with fail
 refine ⟨trivial,(callsIn_wide.2 (HH.out _ 0)).mono ?_⟩
 rintro r w4 ⟨rfl,hw4⟩
 obtain ⟨hB3,hr0,hr1,hr2⟩ := HB3.out
 generalize hw3 : ((w.alloc (.cells #[.int .i64 (-1),.int .i64 N,.slice gA n gc] 68)).alloc (.cells #[.bool false] 4)).alloc (.cells #[.int .i64 N] 3) = w3 at hw4 hB3 hr0 hr1 hr2 ⊢
 have hz3 : w3.heap.size = s + 1 + 1 + 1 := by rw [← hw3];simp [HS.out]
 rw [hz3]
 have hb4 : Below w3.heap.size w3 w4 := by rw [← hw4];exact ((Below.refl _ _).alloc (Nat.le_refl _) _).alloc (by simp) _
 have hz4 : w4.heap.size = s + 1 + 1 + 1 + 1 + 1 := by rw [← hw4];simp [hz3]
 have h3 : Row w4 (s + 1 + 1 + 1) 68 [.int .i64 (-1),.int .i64 N,.slice gA n gc] := by rw [← hw4];exact (Row.fresh' _ _ _ hz3).alloc _
 have h4 : Row w4 (s + 1 + 1 + 1 + 1) 101 [.map (some mb)] := by rw [← hw4];exact Row.fresh' _ _ _ (by simp [hz3])
 have h1 := hr1.below hb4 hr1.lt
 have h2 := hr2.below hb4 hr2.lt
 have hB4 : Below w.heap.size w w4 := hB3.trans (hb4.mono hB3.size)
 have hmb := HMW.out.lt
 have hMW := HMW.out.below hB4
 have hOK := HOK.out
 rw [HS.out] at hmb
 clear hb4 hw4 hr0 hr1 hr2 hB3 HB3 HH hw3 w3 hz3
 have hIf : ∀ (k : Nat) (W : World),Tch (fun k => k = s + 1 ∨ k = s + 1 + 1) w4 W → Row W (s + 1 + 1 + 1) 68 [.int .i64 (-1),.int .i64 N,.slice gA P.length gc] ∧ Row W (s + 1 + 1 + 1 + 1) 101 [.map (some mb)] ∧ MapW W mb who ∧ Gt.ok W s ⟨N,gA,gc,P⟩ ∧ s ≤ W.heap.size := fun k W ht => by
  rw [HN.out]
  have h5 : Below s w4 W := ht.below (by omega) (by intro i hi;omega)
  have h6 : Gt.ok w4 s ⟨N,gA,gc,P⟩ := by have := hOK.below hB4;rwa [HS.out] at this
  exact ⟨ht.row h3 (by omega),ht.row h4 (by omega),hMW.block (ht.block mb (by omega) (by omega)),h6.below h5,by have := ht.size;omega⟩
 gi_wp2_with fail
 rw [HS.out]
 refine wpIn_range_hands (F := Fence.wide) (σ := Nat) rfl (by omega) (gf := 96) (lb := #[.pointer (some ⟨s + 1 + 1 + 1,0,none⟩),.pointer (some ⟨s + 1 + 1 + 1 + 1,0,none⟩)]) rfl trivial (enters_of Tryz.func96 (by kernel_rfl) rfl)
  (fun (k : Nat) W => Tch (fun k => k = s + 1 ∨ k = s + 1 + 1) w4 W ∧ Row W (s + 1) 4 [.bool false] ∧ Row W (s + 1 + 1) 3 [.int .i64 (N - (k : Int))] ∧ (k : Int) < N ∧ k ≤ C)
  (fun c (k : Nat) W => c = .ret ∧ Tch (fun k => k = s + 1 ∨ k = s + 1 + 1) w4 W ∧ Row W (s + 1) 4 [.bool true] ∧ N ≤ (C : Int))
  (fun (s : Nat) vs s' _ => s' = s + 1 ∧ s < C ∧ vs.size = 1) 0 (fun (s : Nat) => s = C) w4 (Below.refl _ _) (HSQ.out _ _ s w4 _ ?hsq)
  ?oi ?ox ⟨Tch.refl _ _,h1,by simpa using h2,by omega,by omega⟩ (fun _ _ _ _ h => h.2.2)
  (fun (k : Nat) a' W => (∃ j : Nat,k = j + 1 ∧ j < C ∧ Tch (fun k => k = s + 1 ∨ k = s + 1 + 1) w4 W ∧ Row W (s + 1) 4 [.bool false] ∧ Row W (s + 1 + 1) 3 [.int .i64 (N - (j : Int))] ∧ (j : Int) < N) ∧ a'.tmps.size = 24 ∧ a'.tmps.getD 4 undef = .pointer (some ⟨s + 1,0,none⟩) ∧ a'.tmps.getD 5 undef = .pointer (some ⟨s + 1 + 1,0,none⟩) ∧ a'.defers = []) ?oa ?assign ?body ?done ?stop
 case hsq => exact fun k W h => hIf k W h.1
 case oi =>
  rintro k W W' row ⟨q1,q2,q3,q4,q5⟩ hg hr
  exact ⟨q1.grown hg (fun g e => .inl (hr g e).1),q2.grown hg (fun e => by have := (hr _ e.symm).1;omega),q3.grown hg (fun e => by have := (hr _ e.symm).1;omega),q4,q5⟩
 case ox =>
  rintro c k W W' row ⟨q0,q1,q2,q3⟩ hg hr
  exact ⟨q0,q1.grown hg (fun g e => .inl (hr g e).1),q2.grown hg (fun e => by have := (hr _ e.symm).1;omega),q3⟩
 case oa =>
  rintro k a' _ W W' row ⟨⟨j,q0,q00,q1,q2,q3,q4⟩,q5⟩ hg hr
  exact ⟨⟨j,q0,q00,q1.grown hg (fun g e => .inl (hr g e).1),q2.grown hg (fun e => by have := (hr _ e.symm).1;omega),q3.grown hg (fun e => by have := (hr _ e.symm).1;omega),q4⟩,q5⟩
 case assign =>
  rintro l k vs k' W K ⟨q1,q2,q3,q4,q5⟩ ⟨rfl,hk,hv⟩ hK
  obtain ⟨v,rfl⟩ : ∃ v,vs = #[v] := by
   obtain ⟨l⟩ := vs
   match l,hv with
   | [v],_ => exact ⟨v,rfl⟩
  rw [show (#[19] : Array Tmp).zip #[v] = #[(19,v)] by simp]
  gi_wp2
  exact hK _ _ (KeepsFrom.refl _ _) ⟨⟨k,rfl,hk,q1,q2,q3,q4⟩,by rfl,by rfl,by rfl,by rfl⟩
 case body =>
  rintro l k a' W hl ⟨⟨j,rfl,hj,q1,q2,q3,q4⟩,h24,e4,e5,hdf⟩
  obtain ⟨T2,ds2⟩ := a'
  dsimp only at h24 e4 e5 hdf
  subst hdf
  obtain ⟨v2,hT,hv⟩ := arr_fun T2 24 h24
  have e' : ((List.range 24).map v2).toArray = #[v2 0,v2 1,v2 2,v2 3,v2 4,v2 5,v2 6,v2 7,v2 8,v2 9,v2 10,v2 11,v2 12,v2 13,v2 14,v2 15,v2 16,v2 17,v2 18,v2 19,v2 20,v2 21,v2 22,v2 23] := rfl
  rw [show v2 4 = _ from (hv 4).symm.trans e4,show v2 5 = _ from (hv 5).symm.trans e5] at e'
  rw [hT,e']
  have c5 := q3.cell (i := 0) rfl
  have f5 := q3.fz 0
  have c4 := q2.cell (i := 0) rfl
  have f4 := q2.fz 0
  have l4 := q2.lt
  have l5 := q3.lt
  have HQ := Lib.hid (And.intro q1 (And.intro q2 q3))
  have b0 : N - (j : Int) ≤ 64 := by omega
  have b1 : 1 ≤ N - (j : Int) := by omega
  have HQ4 := Lib.hid q4
  clear hT hv e' e4 e5 h24 q1 q2 q3 h1 h2 h3 h4 hIf q4
  obtain ⟨L,hL⟩ : ∃ L,N - (j : Int) = L := ⟨_,rfl⟩
  rw [hL] at c5 b0 b1
  have HL := Lib.hid hL
  clear hL
  by_cases hz : L = 1
  ·subst hz
   gi_wp2_with fail
   obtain ⟨q1,q2,q3⟩ := HQ.out
   refine ⟨(((Tch.refl (fun k => k = s + 1 ∨ k = s + 1 + 1) W).set (.inr (.inr rfl)) _).set (.inr (.inl rfl)) _).keepsFrom ?_,rfl,(q1.set (.inr (.inr rfl)) _).set (.inr (.inl rfl)) _,(q2.away (by show s + 1 ≠ s + 1 + 1;omega) _).put 0 (.bool true),by have := HL.out;omega⟩
   rintro k (rfl | rfl) o ho
   ·exact q2.isc ho
   ·exact q3.isc ho
  ·have hne : (L - 1 == 0) = false := by simp;omega
   gi_wp2_with fail
   obtain ⟨q1,q2,q3⟩ := HQ.out
   refine ⟨((Tch.refl (fun k => k = s + 1 ∨ k = s + 1 + 1) W).set (.inr (.inr rfl)) _).keepsFrom ?_,q1.set (.inr (.inr rfl)) _,q2.away (by show s + 1 ≠ s + 1 + 1;omega) _,?_,by have := HL.out;omega,by omega⟩
   ·rintro k (rfl | rfl) o ho
    ·exact q2.isc ho
    ·exact q3.isc ho
   ·rw [show N - ((j + 1 : Nat) : Int) = L - 1 by have := HL.out;omega]
    exact q3.put 0 (.int .i64 (L - 1))
 case done =>
  rintro D k W hD rfl ⟨q1,q2,q3,q4,q5⟩ hd
  have f4 := q2.fz 0
  have c4 := q2.cell (i := 0) rfl
  have l4 := q2.lt
  have hk : decide (N ≤ (k : Int)) = false := decide_eq_false (by omega)
  have HQ := Lib.hid (And.intro q1 q2)
  have HK := Lib.hid hk
  have HD := Lib.hid (And.intro hD hd)
  clear q1 q2 q3 q4 q5 hd hD h1 h2 h3 h4 hIf hk
  gi_wp2_with fail
  have hm : Marks (s + 1 + 1 + 1) W.heap.size [{ target := .collected D,args := #[] }] W := (Marks.nil (s + 1 + 1 + 1) (s + 1 + 1 + 1) W).cons (by have := HD.out.1;omega) (by have := HD.out.1;omega) (heap_lt HD.out.2) HD.out.2
  refine leaves_marks (C := W.heap.size) _ _ (hm.chgT (ex := fun k => k = s + 1) ((Tch.refl (fun k => k = s + 1) _).set (p := ⟨s + 1,0,none⟩) (.inr rfl) _) (by rintro k rfl o ho;exact HQ.out.2.isc ho) (Nat.le_refl _)) fun w' hb' => ?_
  refine ⟨_,results_cell_1 rfl _ _ (s + 1) (.bool false) (by rfl) ((hb'.cell (p := ⟨s + 1,0,none⟩) (by show s + 1 < s + 1 + 1 + 1;omega)).trans ((HQ.out.2.put 0 (.bool false)).cell (i := 0) rfl)) (isAgg_bool' _),by rw [HK.out],?_⟩
  have hfin : Tch (fun k => k = s + 1 ∨ k = s + 1 + 1) w4 (W.setCell ⟨s + 1,0,none⟩ (.bool false)) := HQ.out.1.set (.inr (.inl rfl)) _
  rw [HS.out] at hB4 ⊢
  exact (hB4.trans (hfin.below (by omega) (by intro i hi;omega))).trans (hb'.mono (by omega))
 case stop =>
  rintro D c k W hD ⟨rfl,q1,q2,q3⟩ hd
  have hk : decide (N ≤ (C : Int)) = true := decide_eq_true q3
  have HK := Lib.hid hk
  have hm : Marks (s + 1 + 1 + 1) W.heap.size [{ target := .collected D,args := #[] }] W := (Marks.nil (s + 1 + 1 + 1) (s + 1 + 1 + 1) W).cons (by omega) (by omega) (heap_lt hd) hd
  clear hk
  gi_wp2_with fail
  refine leaves_marks (C := W.heap.size) _ _ hm fun w' hb' => ?_
  refine ⟨_,results_cell_1 rfl _ _ (s + 1) (.bool true) (by rfl) ((hb'.cell (p := ⟨s + 1,0,none⟩) (by show s + 1 < s + 1 + 1 + 1;omega)).trans (q2.cell (i := 0) rfl)) (isAgg_bool' _),by rw [HK.out],?_⟩
  rw [HS.out] at hB4 ⊢
  exact (hB4.trans (q1.below (by omega) (by intro i hi;omega))).trans (hb'.mono (by omega))
end Go.Proofs.YtjcpjhlclpdpjaaGreat
namespace Go.Proofs.YtjcpjhlclpdpjaaGreat
open Go.RowKit
attribute [local go_sem] Oper.semAt_some
abbrev ivs (L : List Int) : List Value := L.map (Value.int .i64)
structure Ppl (L : List Int) : Prop where
 inc : L.Pairwise (· < ·)
 lo : ∀ p ∈ L,0 ≤ p
 hi : ∀ p ∈ L,p < 64
theorem Ppl.len {L : List Int} (h : Ppl L) : L.length ≤ 64 := by
 have key : ∀ (L : List Int) (a : Int),L.Pairwise (· < ·) → (∀ p ∈ L,a ≤ p) → (∀ p ∈ L,p < 64) → a ≤ 64 → (L.length : Int) ≤ 64 - a := by
  intro L
  induction L with
  | nil => intro a _ _ _ ha;simp;omega
  | cons x l ih =>
   intro a h1 h2 h3 ha
   have hx := List.pairwise_cons.1 h1
   have hx2 := h2 x (by simp)
   have hx3 := h3 x (by simp)
   have := ih (x + 1) hx.2 (fun p hp => by have := hx.1 p hp;omega) (fun p hp => h3 p (by simp [hp])) (by omega)
   simp only [List.length_cons]
   omega
 have := key L 0 h.inc h.lo h.hi (by omega)
 omega
def lastI (d : List Int) (k : Nat) : Int := if k = 0 then -1 else d.getD (k - 1) 0
theorem Ppl.last {L : List Int} (h : Ppl L) {k : Nat} (hk : k < L.length) : lastI L k < L.getD k 0 ∧ 0 ≤ L.getD k 0 ∧ L.getD k 0 < 64 ∧ L[k]? = some (L.getD k 0) := by
 have e : L.getD k 0 = L[k] := by rw [List.getD_eq_getElem?_getD,List.getElem?_eq_getElem hk];rfl
 have h0 := h.lo L[k] (List.getElem_mem hk)
 refine ⟨?_,by rw [e];exact h0,by rw [e];exact h.hi _ (List.getElem_mem hk),by rw [e];exact List.getElem?_eq_getElem hk⟩
 unfold lastI
 split
 ·rw [e];omega
 ·have e2 : L.getD (k - 1) 0 = L[k - 1] := by rw [List.getD_eq_getElem?_getD,List.getElem?_eq_getElem (by omega)];rfl
  rw [e,e2]
  exact List.pairwise_iff_getElem.1 h.inc (k - 1) k (by omega) hk (by omega)
theorem i64at {w : World} {B n : Nat} {A : Option Addr} {L : List Int} (h : Rd w B 1 A n (ivs L)) {k : Nat} (hk : k < n) : L.length = n ∧ ∃ b o,A = some ⟨b,o,none⟩ ∧ b < B ∧ ∀ j,j < n → ∀ W,Below B w W → W.cell? ⟨b,o + j,none⟩ = some (.int .i64 (L.getD j 0)) := by
 have hl : L.length = n := by have := h.1;simpa using this
 obtain ⟨b,o,e1,hb,hc⟩ := h.2 (by omega)
 refine ⟨hl,b,o,e1,hb,fun j hj W hW => (hW.cell (p := ⟨b,o + j,none⟩) hb).trans (hc j _ ?_)⟩
 rw [List.getElem?_map,List.getElem?_eq_getElem (by omega),List.getD_eq_getElem?_getD,List.getElem?_eq_getElem (by omega)]
 rfl
def MapK (w : World) (b : Nat) (L : List Int) (k : Nat) : Prop := ∃ D : DataW Unit,w.ownsMap Tryz.prog 3 (plainElem Tryz.prog 3) b k D ∧ ∀ p : Int,(Lit.int .i64 p).wf = true → D.atKey (.int .i64 p) (.lit (.int .i64 0)) = .lit (.int .i64 (if p ∈ L then 1 else 0))
theorem MapK.toW {w : World} {b : Nat} {L : List Int} {k : Nat} (h : MapK w b L k) (hk : k ≤ 4096) : MapW w b L := by
 obtain ⟨D,h1,h2⟩ := h
 exact ⟨k,D,hk,h1,h2⟩
theorem MapK.step {w : World} {b : Nat} {L : List Int} {k : Nat} {D : DataW Unit} {p : Int} (h1 : w.ownsMap Tryz.prog 3 (plainElem Tryz.prog 3) b k D) (h2 : ∀ p : Int,(Lit.int .i64 p).wf = true → D.atKey (.int .i64 p) (.lit (.int .i64 0)) = .lit (.int .i64 (if p ∈ L then 1 else 0))) :
  ∀ q : Int,(Lit.int .i64 q).wf = true → (D.put (.int .i64 p) (.lit (.int .i64 1))).atKey (.int .i64 q) (.lit (.int .i64 0)) = .lit (.int .i64 (if q ∈ L ++ [p] then 1 else 0)) := by
 intro q hq
 by_cases e : q = p
 ·subst e
  rw [Maps.atKey_put_same h1.isMap (by simp [WideAt.IsKeyLit])]
  simp
 ·rw [Maps.atKey_put_other (by simpa using e),h2 q hq]
  have : (q ∈ L ++ [p]) ↔ q ∈ L := by simp [e]
  simp only [this]
theorem Holds_any (g : Gt) (A : Option Addr) (n c : Nat) (L : List Int) (w : World) (h : g.ok w w.heap.size) (hr : Rd w w.heap.size 1 A n (ivs L)) (hL : Ppl L) (hn : n = L.length) :
  Calls Tryz.prog 26 #[g.val,.slice A n c] w fun r w' => r = .returned (.tuple #[.bool (decide (g.N ≤ ((cntW L g.P : Nat) : Int))),.int .i64 0]) ∧ Below w.heap.size w w' := by
 have HX : Hid (∀ W,Below w.heap.size w W → Calls Tryz.prog 45 #[g.val] W fun r w' => r = .returned (.int .i64 0) ∧ Below W.heap.size W w') := fun W hW => fcheck_any g W ((h.below hW).more hW.size)
 have HY : Hid (∀ W mb,Below w.heap.size w W → MapW W mb L → Calls Tryz.prog 48 #[g.val,.map (some mb)] W fun r w' => r = .returned (.bool (decide (g.N ≤ ((cntW L g.P : Nat) : Int)))) ∧ Below W.heap.size W w') := fun W mb hW hm => holds_gate g L mb W ((h.below hW).more hW.size) hm
 obtain ⟨R,hR⟩ : ∃ R,decide (g.N ≤ ((cntW L g.P : Nat) : Int)) = R := ⟨_,rfl⟩
 rw [hR] at HY ⊢
 have HL : Hid (∀ k,k < n → lastI L k < L.getD k 0 ∧ 0 ≤ L.getD k 0 ∧ L.getD k 0 < 64 ∧ L[k]? = some (L.getD k 0)) := fun k hk => hL.last (by omega)
 have h64 : n ≤ 64 := by rw [hn];exact hL.len
 have HRD := Lib.hid hr
 have HN := Lib.hid hn
 have hb0 := (Below.refl _ w).alloc (Nat.le_refl _) (.cells #[.int .i64 (-1),.int .i64 g.N,.slice g.A g.P.length g.c] 68)
 have hr0 : Row (w.alloc (.cells #[.int .i64 (-1),.int .i64 g.N,.slice g.A g.P.length g.c] 68)) w.heap.size 68 [.int .i64 (-1),.int .i64 g.N,.slice g.A g.P.length g.c] := Row.fresh _ _ _
 obtain ⟨s,hs⟩ : ∃ s,w.heap.size = s := ⟨_,rfl⟩
 rw [hs] at hr0
 have HS := Lib.hid hs
 obtain ⟨N,gA,gc,P⟩ := g
 obtain ⟨m,hm⟩ : ∃ m,P.length = m := ⟨_,rfl⟩
 have HX : Hid (∀ W,Below w.heap.size w W → Calls Tryz.prog 45 #[.agg #[.int .i64 (-1),.int .i64 N,.slice gA P.length gc]] W fun r w' => r = .returned (.int .i64 0) ∧ Below W.heap.size W w') := HX
 have HY : Hid (∀ W mb,Below w.heap.size w W → MapW W mb L → Calls Tryz.prog 48 #[.agg #[.int .i64 (-1),.int .i64 N,.slice gA P.length gc],.map (some mb)] W fun r w' => r = .returned (.bool R) ∧ Below W.heap.size W w') := HY
 change Below _ _ (w.alloc (.cells #[.int .i64 (-1),.int .i64 N,.slice gA P.length gc] 68)) at hb0
 change Row (w.alloc (.cells #[.int .i64 (-1),.int .i64 N,.slice gA P.length gc] 68)) _ _ [.int .i64 (-1),.int .i64 N,.slice gA P.length gc] at hr0
 show Calls _ _ #[.agg #[.int .i64 (-1),.int .i64 N,.slice gA P.length gc],_] _ _
 rw [hm] at HX HY hb0 hr0 ⊢
 have HB := Lib.hid hb0
 have HR := Lib.hid hr0
 clear h hs hm hb0 hr0 hL hn hr hR
 have hmm := @run_makeMap Tryz.prog
 go_enter Tryz.func26,Tryz.ntmps26
 go_wp2_with fail
 refine (HX.out _ HB.out).mono ?_
 rintro x w1 ⟨rfl,hb⟩
 have HB1 : Hid (Below w.heap.size w w1) := HB.out.trans (hb.mono HB.out.size)
 have HR1 : Hid (Row w1 s 68 [.int .i64 (-1),.int .i64 N,.slice gA m gc]) := HR.out.below hb HR.out.lt
 clear hb
 go_wp2_with fail
 rw [HS.out]
 obtain ⟨mb,hmb⟩ : ∃ z,w1.heap.size = z := ⟨_,rfl⟩
 have HB2 : Hid (Below w.heap.size w (w1.alloc (.map #[] 0))) := HB1.out.alloc HB1.out.size _
 have HR2 : Hid (Row (w1.alloc (.map #[] 0)) s 68 [.int .i64 (-1),.int .i64 N,.slice gA m gc]) := HR1.out.alloc _
 have HM2 : Hid (MapK (w1.alloc (.map #[] 0)) mb (L.take 0) 0) := ⟨_,by rw [← hmb];exact World.ownsMap_made w1 Tryz.prog 3 (plainElem Tryz.prog 3),fun p _ => by simp [DataW.atKey]⟩
 have HMB : Hid (s < mb) := by have := HR1.out.lt;show s < mb;omega
 rw [hmb]
 clear hmm
 generalize (w1.alloc (.map #[] 0)) = w2 at HB2 HR2 HM2 ⊢
 go_loopw [8,19] (fun x i wr => ∃ k : Nat,k ≤ n ∧ i = .int .i64 k ∧ x = .int .i64 (lastI L k) ∧ Below w.heap.size w wr ∧ Row wr s 68 [.int .i64 (-1),.int .i64 N,.slice gA m gc] ∧ MapK wr mb (L.take k) k) (fun _ i _ => n - (intOf i).toNat)
 case atStart => exact ⟨0,Nat.zero_le _,rfl,rfl,HB2.out,HR2.out,HM2.out⟩
 case round =>
  clear HB2 HR2 HM2
  obtain ⟨k,hk,rfl,rfl,hb,hrr,hmk⟩ := hrel
  have HB2 := Lib.hid hb
  have HR2 := Lib.hid hrr
  by_cases hlt : k < n
  ·have k1 : (k : Int) < (n : Int) := by omega
   have k0 : (0 : Int) ≤ (k : Int) := by omega
   obtain ⟨_,b,o,hA1,hbb,hcc⟩ := i64at HRD.out hlt
   subst hA1
   have q0 := hcc k hlt _ hb
   obtain ⟨e1,e2,e3,e4⟩ := HL.out k hlt
   obtain ⟨p,hp⟩ : ∃ p,L.getD k 0 = p := ⟨_,rfl⟩
   obtain ⟨l,hl⟩ : ∃ l,lastI L k = l := ⟨_,rfl⟩
   have HLS : Hid (lastI L (k + 1) = p) := by show _ = _;unfold lastI;rw [if_neg (by omega),Nat.add_sub_cancel,hp]
   rw [hp] at q0 e1 e2 e3 e4
   rw [hl] at e1 ⊢
   obtain ⟨D,hown,hat⟩ := hmk
   have HAT : Hid (∀ W : World,W.ownsMap Tryz.prog 3 (plainElem Tryz.prog 3) mb (k + 1) (D.put (.int .i64 p) (.lit (.int .i64 1))) → MapK W mb (L.take (k + 1)) (k + 1)) := fun W hW => ⟨_,hW,by rw [List.take_add_one,e4];exact MapK.step hown hat⟩
   have HOWN := Lib.hid hown
   have HKEY : Hid (keyOf Tryz.prog 3 (.int .i64 p) = some (.int .i64 p)) := Maps.keyOf_int_mk Tryz.underlying3 (wf64 e2 e3)
   have hle : ¬ p ≤ l := by omega
   have hge : ¬ 64 ≤ p := by omega
   clear hown hat hp hl e4 hb hrr hcc
   go_wp2_with (at_mapUpdate;refine wpList_mapUpdate_own _ rfl _ _ _ 101 rfl 3 3 keyInt Tryz.underlying101 _ mb k _ rfl HOWN.out (by unfold maxLen;omega) _ _ _ rfl rfl HKEY.out _ [] (plainElem_int Tryz.underlying3 (by decide)) ?_;intro w3 hown3 hgrow3)
   go_roundw
   case rel => exact ⟨k + 1,by omega,by go_num,by rw [HLS.out],HB2.out.grown hgrow3 HB2.out.size (fun g e => by cases e;rw [HS.out];have := HMB.out;omega),HR2.out.grown hgrow3 (fun e => by cases e;have := HMB.out;omega),HAT.out _ hown3⟩
   case measure => simp [intOf];omega
  ·obtain rfl : k = n := by omega
   have HMW : Hid (MapW wr mb L) := by
    have := hmk.toW (by omega)
    rwa [List.take_of_length_le (by rw [HN.out];exact Nat.le_refl _)] at this
   have c0 := hrr.cell (i := 0) rfl
   have c1 := hrr.cell (i := 1) rfl
   have c2 := hrr.cell (i := 2) rfl
   clear hmk hb hrr
   go_wp2_with fail
   refine (HY.out _ mb HB2.out HMW.out).mono ?_
   rintro x w4 ⟨rfl,hb4⟩
   have HB4 : Hid (Below w.heap.size w w4) := HB2.out.trans (hb4.mono HB2.out.size)
   clear hb4 c0 c1 c2
   go_wp2
   go_ret2
   exact ⟨rfl,HB4.out⟩
end Go.Proofs.YtjcpjhlclpdpjaaGreat
namespace Go.Proofs.YtjcpjhlclpdpjaaGreat
open Go.RowKit
attribute [local go_sem] Oper.semAt_some
structure RdM (w : World) (B : Nat) (A : Option Addr) (rs : List RI) : Prop where
 top : Rd w B 1 A rs.length (rs.map RI.cell)
 rows : ∀ r ∈ rs,r.ok w B
theorem RdM.below {w w' : World} {B : Nat} {A : Option Addr} {rs : List RI} (h : RdM w B A rs) (hb : Below B w w') : RdM w' B A rs := ⟨h.top.below hb,fun r hr => (h.rows r hr).below hb⟩
theorem RdM.more {w : World} {B B' : Nat} {A : Option Addr} {rs : List RI} (h : RdM w B A rs) (hB : B ≤ B') : RdM w B' A rs := ⟨h.top.more hB,fun r hr => (h.rows r hr).more hB⟩
structure FRow (L : Nat) (r : RI) : Prop where
 len : r.d.length = L
 lo : ∀ x ∈ r.d,0 ≤ x
 hi : ∀ x ∈ r.d,x < 1073741789
def r0 : RI := ⟨none,0,[]⟩
theorem getD_mem' {rs : List RI} {k : Nat} (hk : k < rs.length) : rs.getD k r0 ∈ rs ∧ rs[k]? = some (rs.getD k r0) := by
 have : rs.getD k r0 = rs[k] := by rw [List.getD_eq_getElem?_getD,List.getElem?_eq_getElem hk];rfl
 rw [this]
 exact ⟨List.getElem_mem hk,List.getElem?_eq_getElem hk⟩
theorem RdM.at {w : World} {B : Nat} {A : Option Addr} {rs : List RI} (h : RdM w B A rs) (h0 : 0 < rs.length) : ∃ b o,A = some ⟨b,o,none⟩ ∧ b < B ∧ ∀ k,k < rs.length → ∀ W,Below B w W → W.cell? ⟨b,o + k,none⟩ = some (rs.getD k r0).cell := by
 obtain ⟨b,o,e1,hb,hc⟩ := h.top.2 h0
 refine ⟨b,o,e1,hb,fun k hk W hW => (hW.cell (p := ⟨b,o + k,none⟩) hb).trans (hc k _ ?_)⟩
 rw [List.getElem?_map,(getD_mem' hk).2]
 rfl
theorem RI.at {w : World} {B : Nat} {r : RI} (h : r.ok w B) (h0 : 0 < r.d.length) : ∃ b o,r.A = some ⟨b,o,none⟩ ∧ b < B ∧ ∀ k,k < r.d.length → ∀ W,Below B w W → W.cell? ⟨b,o + k,none⟩ = some (.int .i64 (r.d.getD k 0)) := by
 obtain ⟨_,b,o,e1,hb,hc⟩ := i64at h.1 h0
 exact ⟨b,o,e1,hb,hc⟩
theorem need_any (e : Int) (w : World) : Calls Tryz.prog 104 #[.bool true,.int .i64 e] w fun r w' => r = .returned (.tuple #[]) ∧ w = w' := by
 go_enter Tryz.func104,Tryz.ntmps104
 go_wp2
 refine bodyPost_end (results_none' rfl _ _ _ rfl) rfl ?_
 exact ⟨rfl,rfl⟩
theorem check1_any (n : Int) (w : World) (h0 : 0 ≤ n) (h1 : n < 1073741789) : Calls Tryz.prog 117 #[.int .i64 n] w fun r w' => r = .returned (.bool false) ∧ w = w' := by
 have a0 : decide (n < 0) = false := decide_eq_false (by omega)
 have a1 : decide (1073741789 ≤ n) = false := decide_eq_false (by omega)
 go_enter Tryz.func117,Tryz.ntmps117
 go_wp2
 go_ret
 exact ⟨rfl,rfl⟩
theorem ciI_any  (A : Option Addr) (n c : Nat) (hn : n ≤ 4096) (p : Nat → Int) (I : Nat → World → Prop) (w : World) (h0 : I 0 w)
  (hA : 0 < n → ∃ b o,A = some ⟨b,o,none⟩ ∧ ∀ k,k < n → ∀ W,I k W → W.cell? ⟨b,o + k,none⟩ = some (.int .i64 (p k)))
  (hcall : ∀ k,k < n → ∀ W,I k W → Calls Tryz.prog 117 #[.int .i64 (p k)] W fun r w' => r = .returned (.bool false) ∧ I (k + 1) w') :
  Calls Tryz.prog 112 #[.slice A n c,(.func (.func 117) #[] #[])] w fun r w' => r = .returned (.int .i64 (-1)) ∧ I n w' := by
 have HA := Lib.hid hA
 have HC := Lib.hid hcall
 have H0 := Lib.hid h0
 clear hA hcall h0
 go_enter Tryz.func112,Tryz.ntmps112
 go_wp2
 go_loopw [8] (fun i wr => ∃ k : Nat,k ≤ n ∧ i = .int .i64 k ∧ I k wr) (fun i _ => n - (intOf i).toNat)
 case atStart => exact ⟨0,Nat.zero_le _,rfl,H0.out⟩
 case round =>
  clear H0
  obtain ⟨k,hk,rfl,hi⟩ := hrel
  have HI := Lib.hid hi
  clear hi
  by_cases hlt : k < n
  ·have k1 : (k : Int) < (n : Int) := by omega
   have k0 : (0 : Int) ≤ (k : Int) := by omega
   obtain ⟨b,o,hA1,hcc⟩ := HA.out (by omega)
   subst hA1
   have hcc := hcc k hlt wr HI.out
   have hC := HC.out k hlt wr HI.out
   obtain ⟨P0,hP0⟩ : ∃ P,p k = P := ⟨_,rfl⟩
   rw [hP0] at hC hcc
   have HC2 := Lib.hid hC
   clear hC hP0 HA HC
   obtain x0 := hcc
   go_wp2_with fail
   refine HC2.out.mono ?_
   rintro x w1 ⟨rfl,hi1⟩
   have HI1 := Lib.hid hi1
   clear hi1
   go_wp2
   go_roundw
   case rel => exact ⟨k + 1,by omega,by go_num,HI1.out⟩
   case measure => simp [intOf];omega
  ·obtain rfl : k = n := by omega
   go_wp2
   go_ret
   exact ⟨rfl,HI.out⟩
theorem ciC_any  (A : Option Addr) (n c : Nat) (hn : n ≤ 4096) (p : Nat → Int) (I : Nat → World → Prop) (w : World) (h0 : I 0 w)
  (hA : 0 < n → ∃ b o,A = some ⟨b,o,none⟩ ∧ ∀ k,k < n → ∀ W,I k W → W.cell? ⟨b,o + k,none⟩ = some (.int .i64 (p k)))
  (hcall : ∀ k,k < n → ∀ W,I k W → Calls Tryz.prog 117 #[.int .i64 (p k)] W fun r w' => r = .returned (.bool false) ∧ I (k + 1) w') :
  Calls Tryz.prog 101 #[.slice A n c,(.func (.func 117) #[] #[])] w fun r w' => r = .returned (.bool false) ∧ I n w' := by
 have HI := Lib.hid (ciI_any  A n c hn p I w h0 hA hcall)
 clear hA hcall h0
 go_enter Tryz.func101,Tryz.ntmps101
 go_wp2_with fail
 refine HI.out.mono ?_
 rintro x w1 ⟨rfl,hi⟩
 have HI1 := Lib.hid hi
 clear hi
 go_wp2
 go_ret
 exact ⟨rfl,HI1.out⟩
theorem inField_any (L : Nat) (r : RI) (B : Nat) (w : World) (h : r.ok w B) (hf : FRow L r) (hL : L ≤ 64) :
  Calls Tryz.prog 101 #[r.cell,.func (.func 117) #[] #[]] w fun x w' => x = .returned (.bool false) ∧ w = w' := by
 have hl := hf.len
 refine ciC_any r.A r.d.length r.c (by omega) (fun k => r.d.getD k 0) (fun _ V => w = V) w rfl (fun h0 => ?_) (fun k hk V hV => ?_)
 ·obtain ⟨b,o,e1,_,hc⟩ := RI.at h h0
  exact ⟨b,o,e1,fun k hk W hW => by subst hW;exact hc k hk _ (Below.refl _ _)⟩
 ·subst hV
  have e : r.d.getD k 0 = r.d[k] := by rw [List.getD_eq_getElem?_getD,List.getElem?_eq_getElem hk];rfl
  show Calls _ _ #[.int .i64 (r.d.getD k 0)] _ _
  rw [e]
  exact check1_any _ _ (hf.lo _ (List.getElem_mem hk)) (hf.hi _ (List.getElem_mem hk))
theorem RI.cell_eq (r : RI) : r.cell = .slice r.A r.d.length r.c := rfl
theorem lcheck_any (L : Nat) (A : Option Addr) (c : Nat) (rs : List RI) (B : Nat) (w : World) (h : RdM w B A rs) (hf : ∀ r ∈ rs,FRow L r) (hL : L ≤ 64) (hn : rs.length ≤ 64) :
  Calls Tryz.prog 105 #[.slice A rs.length c] w fun x w' => x = .returned (.tuple #[]) ∧ w = w' := by
 have HA : Hid (0 < rs.length → ∃ b o,A = some ⟨b,o,none⟩ ∧ ∀ k,k < rs.length → ∃ rA rc,w.cell? ⟨b,o + k,none⟩ = some (.slice rA L rc) ∧ Calls Tryz.prog 101 #[.slice rA L rc,.func (.func 117) #[] #[]] w fun x w' => x = .returned (.bool false) ∧ w = w') := fun h0 => by
  obtain ⟨b,o,e1,_,hc⟩ := h.at h0
  refine ⟨b,o,e1,fun k hk => ?_⟩
  have hm := (getD_mem' hk).1
  have h1 := hc k hk _ (Below.refl _ _)
  have h2 := inField_any L _ B w (h.rows _ hm) (hf _ hm) hL
  rw [RI.cell_eq,(hf _ hm).len] at h1 h2
  exact ⟨_,_,h1,h2⟩
 obtain ⟨n,hnn⟩ : ∃ n,rs.length = n := ⟨_,rfl⟩
 rw [hnn] at HA hn ⊢
 clear h hf hnn
 have hL1 : (L : Int) ≤ 64 := by omega
 go_enter Tryz.func105,Tryz.ntmps105
 go_wp2
 go_loopw [9] (fun i wr => w = wr ∧ ∃ k : Nat,k ≤ n ∧ i = .int .i64 k) (fun i _ => n - (intOf i).toNat)
 case atStart => exact ⟨rfl,0,Nat.zero_le _,rfl⟩
 case round =>
  obtain ⟨rfl,k,hk,rfl⟩ := hrel
  by_cases hlt : k < n
  ·have k1 : (k : Int) < (n : Int) := by omega
   have k0 : (0 : Int) ≤ (k : Int) := by omega
   obtain ⟨b,o,hA1,hcc⟩ := HA.out (by omega)
   subst hA1
   obtain ⟨rA,rc,q0,_⟩ := hcc k hlt
   clear hcc
   go_wp2_with (go_at_call 104;refine (need_any _ _).mono ?_;rintro x w1 ⟨rfl,rfl⟩)
   go_roundw
   case rel => exact ⟨trivial,k + 1,by omega,by go_num⟩
   case measure => simp [intOf];omega
  ·obtain rfl : k = n := by omega
   go_wp2
   go_loopw [20] (fun i wr => w = wr ∧ ∃ j : Nat,j ≤ k ∧ i = .int .i64 j) (fun i _ => k - (intOf i).toNat)
   case atStart => exact ⟨rfl,0,Nat.zero_le _,rfl⟩
   case round =>
    obtain ⟨rfl,j,hj,rfl⟩ := hrel
    by_cases hlt : j < k
    ·have k1 : (j : Int) < (k : Int) := by omega
     have k0 : (0 : Int) ≤ (j : Int) := by omega
     have k2 : (0 : Int) < (k : Int) := by omega
     obtain ⟨b,o,hA1,hcc⟩ := HA.out (by omega)
     subst hA1
     obtain ⟨rA,rc,q0,hC⟩ := hcc j hlt
     obtain ⟨sA,sc,q1,_⟩ := hcc 0 (by omega)
     rw [Nat.add_zero] at q1
     have HC := Lib.hid hC
     clear hcc hC
     go_wp2_with (first | (go_at_call 104;refine (need_any _ _).mono ?_;rintro x w1 ⟨rfl,rfl⟩) | (go_at_call 101;refine HC.out.mono ?_;rintro x w1 ⟨rfl,rfl⟩))
     go_roundw
     case rel => exact ⟨trivial,j + 1,by omega,by go_num⟩
     case measure => simp [intOf];omega
    ·obtain rfl : j = k := by omega
     go_wp2
     refine bodyPost_end (results_none' rfl _ _ _ rfl) rfl ?_
     exact ⟨rfl,rfl⟩
theorem examine_any (L : Nat) (A : Option Addr) (c : Nat) (rs : List RI) (t : RI) (w : World) (h : RdM w w.heap.size A rs) (hf : ∀ r ∈ rs,FRow L r) (ht : t.ok w w.heap.size) (htf : FRow L t) (hL : L ≤ 64) (hn : rs.length ≤ 64) :
  Calls Tryz.prog 75 #[.slice A rs.length c,t.cell] w fun x w' => x = .returned (.tuple #[]) ∧ Below w.heap.size w w' := by
 have HB : Hid (Below w.heap.size w (w.alloc (.cells #[t.cell] 23))) := (Below.refl _ _).alloc (Nat.le_refl _) _
 have H1 : Hid (Calls Tryz.prog 105 #[.slice A rs.length c] w fun x w' => x = .returned (.tuple #[]) ∧ w = w') := lcheck_any L A c rs _ w h hf hL hn
 have H2 : Hid (Calls Tryz.prog 105 #[.slice (some ⟨w.heap.size,0,none⟩) 1 1] (w.alloc (.cells #[t.cell] 23)) fun x w' => x = .returned (.tuple #[]) ∧ (w.alloc (.cells #[t.cell] 23)) = w') := by
  refine lcheck_any L (some ⟨w.heap.size,0,none⟩) 1 [t] (w.heap.size + 1) _ ⟨⟨rfl,fun _ => ⟨_,_,rfl,by omega,fun j u hu => ?_⟩⟩,fun r hr => ?_⟩ (fun r hr => ?_) hL (by simp)
  ·match j,hu with
   | 0,hu => exact (Row.fresh w _ [t.cell]).cell hu
   | j + 1,hu => simp at hu
  ·obtain rfl : r = t := by simpa using hr
   exact (ht.below HB.out).more (by omega)
  ·obtain rfl : r = t := by simpa using hr
   exact htf
 have HA : Hid (0 < rs.length → ∃ b o,A = some ⟨b,o,none⟩ ∧ ∃ rA rc,(w.alloc (.cells #[t.cell] 23)).cell? ⟨b,o,none⟩ = some (.slice rA L rc)) := fun h0 => by
  obtain ⟨b,o,e1,hb,hc⟩ := h.at h0
  have h1 := hc 0 h0 _ HB.out
  have hm := (getD_mem' h0).1
  rw [RI.cell_eq (rs.getD 0 r0),(hf _ hm).len,Nat.add_zero] at h1
  exact ⟨b,o,e1,_,_,h1⟩
 obtain ⟨tA,tc,td⟩ := t
 have htl : td.length = L := htf.len
 obtain ⟨n,hnn⟩ : ∃ n,rs.length = n := ⟨_,rfl⟩
 change Hid (Below w.heap.size w (w.alloc (.cells #[.slice tA td.length tc] 23))) at HB
 change Hid (Calls Tryz.prog 105 #[.slice (some ⟨w.heap.size,0,none⟩) 1 1] (w.alloc (.cells #[.slice tA td.length tc] 23)) fun x w' => x = .returned (.tuple #[]) ∧ (w.alloc (.cells #[.slice tA td.length tc] 23)) = w') at H2
 change Hid (0 < rs.length → ∃ b o,A = some ⟨b,o,none⟩ ∧ ∃ rA rc,(w.alloc (.cells #[.slice tA td.length tc] 23)).cell? ⟨b,o,none⟩ = some (.slice rA L rc)) at HA
 show Calls _ _ #[_,.slice tA td.length tc] _ _
 rw [htl] at HB H2 HA ⊢
 rw [hnn] at H1 HA hn ⊢
 clear h hf ht htf hnn htl
 have hL1 : (L : Int) ≤ 64 := by omega
 have hn1 : (n : Int) ≤ 64 := by omega
 rcases Nat.eq_zero_or_pos n with h0 | h0
 ·subst h0
  go_enter Tryz.func75,Tryz.ntmps75
  go_wp2_with fail
  refine (need_any _ _).mono ?_
  rintro x w1 ⟨rfl,rfl⟩
  go_wp2_with fail
  refine H1.out.mono ?_
  rintro x w1 ⟨rfl,rfl⟩
  go_wp2_with fail
  refine H2.out.mono ?_
  rintro x w1 ⟨rfl,rfl⟩
  go_wp2_with fail
  refine (need_any _ _).mono ?_
  rintro x w1 ⟨rfl,rfl⟩
  go_wp2
  refine bodyPost_end (results_none' rfl _ _ _ rfl) rfl ?_
  exact ⟨rfl,HB.out⟩
 ·have e0 : ((n : Int) == 0) = false := by simp;omega
  have k2 : (0 : Int) < (n : Int) := by omega
  obtain ⟨b,o,hA1,rA,rc,q0⟩ := HA.out h0
  subst hA1
  have HQ := Lib.hid q0
  clear q0
  go_enter Tryz.func75,Tryz.ntmps75
  go_wp2_with fail
  refine (need_any _ _).mono ?_
  rintro x w1 ⟨rfl,rfl⟩
  go_wp2_with fail
  refine H1.out.mono ?_
  rintro x w1 ⟨rfl,rfl⟩
  go_wp2_with fail
  refine H2.out.mono ?_
  rintro x w1 ⟨rfl,rfl⟩
  have q0 := HQ.out
  go_wp2_with fail
  refine (need_any _ _).mono ?_
  rintro x w1 ⟨rfl,rfl⟩
  go_wp2
  refine bodyPost_end (results_none' rfl _ _ _ rfl) rfl ?_
  exact ⟨rfl,HB.out⟩
end Go.Proofs.YtjcpjhlclpdpjaaGreat
