import Derived.Deep.LoopGhost
import Derived.Handy
import Derived.IntWalk
import Derived.Laws.EntriesVeiled
import Derived.LoopIn
import Derived.LoopNIn
import Derived.Maps.OwnOps
import Derived.Outline
import Derived.OwnWalkIn
import Derived.RangeFuncBound
import Derived.RangeFuncCalls
import Derived.RangeFuncNested
import Derived.Shelf.Abstract
import Derived.TacticsInMore
import Derived.WalkLawsBesides
import Derived.WalkSpells
import Derived.Test.YtjcpjhlclpdpjaaGreatS06
import Derived.Test.YtjcpjhlclpdpjaaGreatS14
set_option linter.unusedVariables false
set_option maxRecDepth 100000
set_option maxHeartbeats 16000000
namespace Go.Proofs.YtjcpjhlclpdpjaaGreat
open Go.RowKit
section
variable {w w' : World} {g : Nat} {t : TypeId} {cs : List Value}
theorem Row.put (h : Row w g t cs) (i : Nat) (v : Value) : Row (w.setCell ⟨g,i,none⟩ v) g t (cs.set i v) := by
 unfold Row at h ⊢
 simp [World.setCell,Array.getElem?_modify,h]
theorem Row.away (h : Row w g t cs) {p : Addr} (hp : g ≠ p.block) (v : Value) : Row (w.setCell p v) g t cs := (Below.heap_setCell w p v g hp).trans h
theorem Row.fz (h : Row w g t cs) (i : Nat) : w.frozen? ⟨g,i,none⟩ = false := by
 unfold Row at h
 simp [World.frozen?,h]
theorem Row.fresh (w : World) (t : TypeId) (cs : List Value) : Row (w.alloc (.cells cs.toArray t)) w.heap.size t cs := heap_alloc_new w _
theorem Row.fresh' (w : World) (t : TypeId) (cs : List Value) {s : Nat} (hs : w.heap.size = s) : Row (w.alloc (.cells cs.toArray t)) s t cs := by rw [← hs];exact Row.fresh w t cs
end
def leftR {σ : Type} (B : Nat) (I : σ → World → Prop) (Ix : Code → σ → World → Prop) (s : σ) (W : World) : Exit → Act → World → Prop
 | .normal,_,W' => KeepsFrom B W W' ∧ I s W'
 | .ret,_,W' => KeepsFrom B W W' ∧ Ix .ret s W'
 | .exit id,_,W' => KeepsFrom B W W' ∧ Ix (.exit id) s W'
 | _,_,_ => False
structure Tch (ex : Nat → Prop) (w w' : World) : Prop where
 os : w'.os = w.os
 tape : w'.tape = w.tape
 output : w'.output = w.output
 size : w.heap.size ≤ w'.heap.size
 block : ∀ k,k < w.heap.size → ¬ ex k → w'.heap[k]? = w.heap[k]?
section
variable {ex : Nat → Prop} {a b c : World}
theorem Tch.refl (ex : Nat → Prop) (w : World) : Tch ex w w := ⟨rfl,rfl,rfl,Nat.le_refl _,fun _ _ _ => rfl⟩
theorem Tch.trans (h : Tch ex a b) (k : Tch ex b c) : Tch ex a c :=
 ⟨k.os.trans h.os,k.tape.trans h.tape,k.output.trans h.output,Nat.le_trans h.size k.size,fun i hi hx => (k.block i (by have := h.size;omega) hx).trans (h.block i hi hx)⟩
theorem Tch.of_below {B : Nat} (h : Below B a b) (hB : ∀ k,B ≤ k → k < a.heap.size → ex k) : Tch ex a b :=
 ⟨h.os,h.tape,h.output,h.size,fun k hk hx => h.block k (by
  rcases Nat.lt_or_ge k B with h1 | h1
  ·exact h1
  ·exact absurd (hB k h1 hk) hx)⟩
theorem Tch.of_bel (h : Below a.heap.size a b) : Tch ex a b := Tch.of_below h fun k h1 h2 => by omega
theorem Tch.set (h : Tch ex a b) {p : Addr} (hp : a.heap.size ≤ p.block ∨ ex p.block) (v : Value) : Tch ex a (b.setCell p v) :=
 ⟨h.os,h.tape,h.output,by simpa [World.setCell] using h.size,fun k hk hx => (Below.heap_setCell b p v k (fun e => by
  subst e
  rcases hp with h1 | h1
  ·omega
  ·exact hx h1)).trans (h.block k hk hx)⟩
theorem Tch.alloc (h : Tch ex a b) (o : Obj) : Tch ex a (b.alloc o) := h.trans (Tch.of_bel ((Below.refl _ _).alloc (Nat.le_refl _) o))
theorem Tch.drew (h : Tch ex a b) : Tch ex a b.drew := h.trans (Tch.of_bel (Below.refl _ _).drew)
theorem Tch.next (h : Tch ex a b) (k : Below b.heap.size b c) : Tch ex a c := h.trans (Tch.of_bel k)
theorem Tch.grown {row : Option Nat} (h : Tch ex a b) (k : b.grownBy c row) (hr : ∀ g,row = some g → a.heap.size ≤ g ∨ ex g) : Tch ex a c :=
 ⟨k.os.trans h.os,k.tape.trans h.tape,k.output.trans h.output,Nat.le_trans h.size k.size,fun i hi hx => (k.block i (by have := h.size;omega) (fun e => by
  rcases hr i e.symm with h1 | h1
  ·omega
  ·exact hx h1)).trans (h.block i hi hx)⟩
theorem Tch.row (h : Tch ex a b) {g : Nat} {t : TypeId} {cs : List Value} (hr : Row a g t cs) (hx : ¬ ex g) : Row b g t cs := (h.block g hr.lt hx).trans hr
theorem Tch.cell (h : Tch ex a b) {p : Addr} (hp : p.block < a.heap.size) (hx : ¬ ex p.block) : b.cell? p = a.cell? p := World.cell?_of_block (h.block p.block hp hx)
theorem Tch.below (h : Tch ex a b) {B : Nat} (hB : B ≤ a.heap.size) (he : ∀ i,i < B → ¬ ex i) : Below B a b := ⟨h.os,h.tape,h.output,h.size,fun k hk => h.block k (by omega) (he k hk)⟩
theorem Tch.mono {ex' : Nat → Prop} (h : Tch ex a b) (he : ∀ i,i < a.heap.size → ex i → ex' i) : Tch ex' a b := ⟨h.os,h.tape,h.output,h.size,fun k hk hx => h.block k hk (fun e => hx (he k hk e))⟩
theorem Tch.keepsFrom {B : Nat} (h : Tch ex a b) (hx : ∀ k,ex k → ∀ o,a.heap[k]? = some o → o.isCells = true) : KeepsFrom B a b :=
 ⟨h.size,fun k o _ hk ho => (h.block k (heap_lt hk) (fun he => by have := hx k he o hk;rw [ho] at this;cases this)).trans hk⟩
theorem Row.isc {w : World} {g : Nat} {t : TypeId} {cs : List Value} (h : Row w g t cs) {o : Obj} (ho : w.heap[g]? = some o) : o.isCells = true := by
 unfold Row at h;rw [h] at ho;cases ho;rfl
theorem Below.tch {B : Nat} (h : Below B a b) (k : Tch ex b c) (hB : B ≤ a.heap.size) (he : ∀ i,i < B → ¬ ex i) : Below B a c := h.trans (k.below (Nat.le_trans hB h.size) he)
end
section
variable {F : Fence} {n : Nat} {P : Program} {w : World} {σ : Type}
def Hands (F : Fence) (n : Nat) (P : Program) (gf : Nat) (lb : Array Value) (w0 : World) (I : σ → World → Prop) (T : σ → Array Value → σ → World → Prop) (s0 : σ) (S : σ → Prop) : Prop :=
 ∀ (l : Nat) (J Jx : σ → World → Prop) (W : World),Below w0.heap.size w0 W → (∀ s X,J s X → I s X) → AbidesFrom W.heap.size J → AbidesFrom W.heap.size Jx →
  (∀ s vs s' X,J s X → T s vs s' X → YieldAt F (n - 1) P l vs X fun e X' => (e = .returned (.bool true) ∧ J s' X') ∨ (e = .returned (.bool false) ∧ Jx s' X')) →
  J s0 W → CallsIn F n P gf (#[.func (.yield l) #[] #[]] ++ lb) W fun e W' => (∃ v,e = .returned v) ∧ ((∃ s,S s ∧ J s W') ∨ (∃ s,Jx s W'))
theorem wpIn_range_hands {g : Operand} {ps : Array Tmp} {assign body : Code} {Q : Exit → Act → World → Prop} {a : Act} (hro : F.round = none) (h1 : 1 ≤ n) {gf : Nat} {lb : Array Value} (hg : a.eval g = .func (.func gf) #[] lb) (hFg : F.fn gf)
  (eg : ∀ args w,(callFunc gf args).run P w = .ok (.enter gf args) w) (I : σ → World → Prop) (Ix : Code → σ → World → Prop) (T : σ → Array Value → σ → World → Prop) (s0 : σ) (S : σ → Prop) (w0 : World) (hb0 : Below w0.heap.size w0 w)
  (hseq : Hands F (n - 1) P gf lb w0 I T s0 S) (hI : OwnFrom w.heap.size I) (hIx : ∀ c,OwnFrom w.heap.size (Ix c)) (h0 : I s0 w) (hps : ∀ s vs s' W,T s vs s' W → vs.size = ps.size)
  (Ax : σ → Act → World → Prop) (hAx : ∀ s a',OwnFrom w.heap.size (fun (_ : Unit) W => Ax s a' W))
  (hassign : ∀ (l : Nat) (s : σ) (vs : Array Value) (s' : σ) (W : World) (K : Act → World → Prop),I s W → T s vs s' W → (∀ a' W',KeepsFrom w.heap.size W W' → Ax s' a' W' → K a' W') →
   assign.wpIn (F.inRound l) (n - 1 - 1) P (Exit.then K (fun _ _ _ => False)) { tmps := (ps.zip vs).foldl (fun t (p,v) => t.setIfInBounds p v) a.tmps,defers := [] } W)
  (hbody : ∀ (l : Nat) (s : σ) (a' : Act) (W : World),w.heap.size ≤ l → Ax s a' W → body.wpIn (F.inRound l) (n - 1 - 1) P (leftR w.heap.size I Ix s W) a' W)
  (hdone : ∀ (D : Nat) (s : σ) (W : World),w.heap.size ≤ D → S s → I s W → W.heap[D]? = some (.deferred (some [])) → Q .normal { a with defers := { target := .collected D,args := #[] } :: a.defers } W)
  (hstop : ∀ (D : Nat) (c : Code) (s : σ) (W : World),w.heap.size ≤ D → Ix c s W → W.heap[D]? = some (.deferred (some [])) → c.wpIn F n P Q { a with defers := { target := .collected D,args := #[] } :: a.defers } W) :
  (Code.rangeFunc g ps assign body).wpIn F n P Q a w := by
 refine wpIn_rangeFunc fun fn hfn => ?_
 rw [hro]
 obtain ⟨B,hB⟩ : ∃ B,w.heap.size = B := ⟨_,rfl⟩
 rw [hB] at hI hIx hAx hassign hbody hdone hstop
 let rec_ (st : LoopState) (pe : Option Code) : Loop := { state := st,pending := pe,fn,tmps := a.tmps,params := ps,assign,body,defers := B }
 have key : ∀ X : World,X.heap[B + 1]? = some (.loop (rec_ .ready none)) → X.heap[B]? = some (.deferred (some [])) → ∀ Y,KeepsFrom B X Y → Y.heap[B + 1]? = some (.loop (rec_ .ready none)) ∧ Y.heap[B]? = some (.deferred (some [])) :=
  fun X h1 h2 Y hk => ⟨hk.same _ _ (by omega) h1 rfl,hk.same _ _ (Nat.le_refl _) h2 rfl⟩
 obtain ⟨W1,hW1⟩ : ∃ W1,(w.alloc (.deferred (some []))).alloc (.loop (rec_ .ready none)) = W1 := ⟨_,rfl⟩
 have hs1 : W1.heap.size = B + 2 := by rw [← hW1];simp [hB]
 have hL1 : W1.heap[B + 1]? = some (.loop (rec_ .ready none)) := by
  rw [← hW1]
  have h := World.alloc_heap_new (w.alloc (.deferred (some []))) (.loop (rec_ .ready none))
  rwa [World.size_alloc,hB] at h
 have hK1 : W1.heap[B]? = some (.deferred (some [])) := by
  rw [← hW1,← hB]
  exact (Below.heap_alloc _ _ _ (by simp)).trans (World.alloc_heap_new w _)
 have hI1 : I s0 W1 := by rw [← hW1];exact hI.alloc _ (hI.alloc _ h0)
 have hb1 : Below w0.heap.size w0 W1 := by
  rw [← hW1]
  exact hb0.trans ((((Below.refl _ w).alloc (Nat.le_refl _) _).alloc (by simp) _).mono hb0.size)
 refine ⟨B + 1,[{ target := .collected B,args := #[] }],W1,{ target := .fn (.func gf) lb,args := #[.func (.yield (B + 1)) #[] #[]] },W1,gf,#[.func (.yield (B + 1)) #[] #[]] ++ lb,W1,?_,?_,?_,?_,fun _ => h1,?_⟩
 ·rw [← hW1]
  have h := run_enterLoop_outer (P := P) (w := w) fn a.tmps ps assign body
  rw [hB] at h
  exact h
 ·simp only [resolve,hg];simp [go_sem]
 ·intro f' hf';simp [Target.leads] at hf';subst hf';exact hFg
 ·simp [invoke,go_sem,eg]
 ·have hw2 : ∀ {X : World} {row : Option Nat},(∀ r,row = some r → W1.heap.size ≤ r ∧ ∃ o : Obj,X.heap[r]? = some o ∧ o.isWalk = true) → (∀ r,row = some r → B ≤ r ∧ ∃ o : Obj,X.heap[r]? = some o ∧ o.isCells = false) := fun hr r e => by
   obtain ⟨h1,o,ho,hw⟩ := hr r e
   exact ⟨by omega,o,ho,Obj.not_cells_of_walk hw⟩
  refine (hseq (B + 1) (fun s X => I s X ∧ X.heap[B + 1]? = some (.loop (rec_ .ready none)) ∧ X.heap[B]? = some (.deferred (some []))) (fun s X => ∃ c,Ix c s X ∧ X.heap[B + 1]? = some (.loop (rec_ .done (some c))) ∧ X.heap[B]? = some (.deferred (some [])))
   W1 hb1 (fun s X h => h.1) ?_ ?_ ?_ ⟨hI1,hL1,hK1⟩).mono ?_
  ·rintro s X Y row ⟨h1,h2,h3⟩ hg' hr
   exact ⟨hI s X Y row h1 hg' (hw2 hr),(grownBy_keeps hg' (fun r e => (hr r e).2) h2 rfl).trans h2,(grownBy_keeps hg' (fun r e => (hr r e).2) h3 rfl).trans h3⟩
  ·rintro s X Y row ⟨c,h1,h2,h3⟩ hg' hr
   exact ⟨c,hIx c s X Y row h1 hg' (hw2 hr),(grownBy_keeps hg' (fun r e => (hr r e).2) h2 rfl).trans h2,(grownBy_keeps hg' (fun r e => (hr r e).2) h3 rfl).trans h3⟩
  ·rintro s vs s' X ⟨hi,hl,hk⟩ hT
   refine ⟨fn,_,assign,body,run_yield (P := P) hl (hps s vs s' X hT),roundIn_of_wpIn hfn (hassign _ s vs s' X _ hi hT ?_)⟩
   intro a' X1 hk1 hax
   obtain ⟨hl1,hd1⟩ := key X hl hk X1 hk1
   have hlt : B + 1 < X1.heap.size := heap_lt hl1
   refine ⟨_,run_beginRound hl1 rfl,?_⟩
   have hl2 : (X1.putObj (B + 1) (.loop { rec_ .ready none with state := .busy })).heap[B + 1]? = some (.loop { rec_ .ready none with state := .busy }) := World.putObj_heap_same hlt
   have hd2 : (X1.putObj (B + 1) (.loop { rec_ .ready none with state := .busy })).heap[B]? = some (.deferred (some [])) := (World.putObj_heap_other (by omega)).trans hd1
   refine wpIn_mono (hbody _ s' a' _ (by omega) ((hAx s' a').putObj (s := ()) _ hax (by omega) hl1 rfl)) ?_
   intro e a3 X3 hp
   have fin : ∀ jump : Option Code,KeepsFrom B (X1.putObj (B + 1) (.loop { rec_ .ready none with state := .busy })) X3 → X3.heap[B + 1]? = some (.loop { rec_ .ready none with state := .busy }) ∧
     (X3.putObj (B + 1) (.loop (rec_ (if jump.isNone then .ready else .done) jump))).heap[B + 1]? = some (.loop (rec_ (if jump.isNone then .ready else .done) jump)) ∧
     (X3.putObj (B + 1) (.loop (rec_ (if jump.isNone then .ready else .done) jump))).heap[B]? = some (.deferred (some [])) := fun jump hk3 => by
    have hl3 := hk3.same _ _ (by omega) hl2 rfl
    exact ⟨hl3,World.putObj_heap_same (heap_lt hl3),(World.putObj_heap_other (by omega)).trans (hk3.same _ _ (Nat.le_refl _) hd2 rfl)⟩
   have out : ∀ c : Code,KeepsFrom B (X1.putObj (B + 1) (.loop { rec_ .ready none with state := .busy })) X3 → Ix c s' X3 → (∃ c',Ix c' s' (X3.putObj (B + 1) (.loop (rec_ .done (some c)))) ∧ (X3.putObj (B + 1) (.loop (rec_ .done (some c)))).heap[B + 1]? = some (.loop (rec_ .done (some c'))) ∧ (X3.putObj (B + 1) (.loop (rec_ .done (some c)))).heap[B]? = some (.deferred (some []))) := fun c hk3 hi3 => by
    obtain ⟨hl3,hl4,hd4⟩ := fin (some c) hk3
    exact ⟨c,(hIx c).putObj _ hi3 (by omega) hl3 rfl,hl4,hd4⟩
   cases e with
   | normal =>
    obtain ⟨hl3,hl4,hd4⟩ := fin none hp.1
    exact ⟨_,_,run_endRound (P := P) none hl3,.inl ⟨rfl,hI.putObj _ hp.2 (by omega) hl3 rfl,hl4,hd4⟩⟩
   | ret => exact ⟨_,_,run_endRound (P := P) (some .ret) (fin (some .ret) hp.1).1,.inr ⟨rfl,out _ hp.1 hp.2⟩⟩
   | exit id => exact ⟨_,_,run_endRound (P := P) (some (.exit id)) (fin (some (.exit id)) hp.1).1,.inr ⟨rfl,out _ hp.1 hp.2⟩⟩
   | goto t => exact hp.elim
   | panic ch => exact hp.elim
   | outgrown => exact hp.elim
  ·rintro e W2 ⟨⟨v,rfl⟩,(⟨s,hS,hi,hl,hk⟩ | ⟨s,c,hi,hl,hk⟩)⟩
   ·exact ⟨none,_,run_endLoop (P := P) hl (by intro h;cases h),hdone B s _ (Nat.le_refl _) hS (hI.putObj _ hi (by omega) hl rfl) ((World.putObj_heap_other (by omega)).trans hk)⟩
   ·exact ⟨some c,_,run_endLoop (P := P) hl (by intro h;cases h),hstop B c s _ (Nat.le_refl _) ((hIx c).putObj _ hi (by omega) hl rfl) ((World.putObj_heap_other (by omega)).trans hk)⟩
end
end Go.Proofs.YtjcpjhlclpdpjaaGreat
namespace Go.Proofs.YtjcpjhlclpdpjaaGreat
open Go.RowKit
attribute [local go_sem] Oper.semAt_some
theorem ret_int {k : IntKind} {a b : Int} (h : a = b) : Ending.returned (.int k a) = .returned (.int k b) := by rw [h]
theorem tmod_pos {n : Int} (h : 0 ≤ n.tmod 1073741789) : n.tmod 1073741789 = Fm.md n := by
 unfold Fm.md
 by_cases h0 : 0 ≤ n
 ·rw [Int.tmod_eq_emod_of_nonneg h0]
 ·obtain ⟨m,rfl⟩ : ∃ m,n = -m := ⟨-n,by omega⟩
  rw [Int.neg_tmod,Int.tmod_eq_emod_of_nonneg (by omega)] at *
  omega
theorem tmod_neg {n : Int} (h : n.tmod 1073741789 < 0) : n.tmod 1073741789 + 1073741789 = Fm.md n ∧ -1073741789 < n.tmod 1073741789 := by
 unfold Fm.md
 by_cases h0 : 0 ≤ n
 ·rw [Int.tmod_eq_emod_of_nonneg h0] at h
  omega
 ·obtain ⟨m,rfl⟩ : ∃ m,n = -m := ⟨-n,by omega⟩
  rw [Int.neg_tmod,Int.tmod_eq_emod_of_nonneg (by omega)] at *
  omega
theorem ret_bool {a b : Bool} (h : a = b) : Ending.returned (.bool a) = .returned (.bool b) := by rw [h]
theorem mod_any (n : Int) (w : World) : Calls Tryz.prog 79 #[.int .i64 n] w fun e w' => e = .returned (.int .i64 (Fm.md n)) ∧ w = w' := by
 by_cases h : n.tmod 1073741789 < 0
 ·have h2 := tmod_neg h
  have H := Lib.hid h2.1
  have h3 := h2.2
  clear h2
  go_enter Tryz.func79,Tryz.ntmps79
  go_wp2
  go_ret
  exact ⟨ret_int H.out,rfl⟩
 ·have h' : 0 ≤ n.tmod 1073741789 := by omega
  have H := Lib.hid (tmod_pos h')
  go_enter Tryz.func79,Tryz.ntmps79
  go_wp2
  go_ret
  exact ⟨ret_int H.out,rfl⟩
theorem mul_bd (a b : Int) : 0 ≤ Fm.md a * Fm.md b ∧ Fm.md a * Fm.md b ≤ 1152921427297436944 := by
 have h1 := Fm.md_lo a
 have h2 := Fm.md_lo b
 have h3 := Fm.md_hi a
 have h4 := Fm.md_hi b
 refine ⟨Int.mul_nonneg h1 h2,?_⟩
 have : Fm.md a * Fm.md b ≤ 1073741788 * 1073741788 := Int.mul_le_mul (by omega) (by omega) h2 (by decide)
 omega
theorem mul_eq (a b : Int) : (Fm.md a * Fm.md b) % 1073741789 = Fm.ml a b := Fm.cg_mul (Fm.cg_md a) (Fm.cg_md b)
theorem add_eq (a b : Int) : (Fm.md a + Fm.md b) % 1073741789 = Fm.ad a b := Fm.cg_add (Fm.cg_md a) (Fm.cg_md b)
theorem mul_any (a b : Int) (w : World) : Calls Tryz.prog 69 #[.int .i64 a,.int .i64 b] w fun e w' => e = .returned (.int .i64 (Fm.ml a b)) ∧ w = w' := by
 obtain ⟨h1,h2⟩ := mul_bd a b
 have H := Lib.hid (mul_eq a b)
 go_enter Tryz.func69,Tryz.ntmps69
 go_wp2_with (go_at_call 79;refine (mod_any _ _).mono ?_;rintro e w' ⟨rfl,rfl⟩)
 go_ret
 exact ⟨ret_int H.out,rfl⟩
theorem ret_tup2 {j k : IntKind} {a b c d : Int} (h : a = c) (h' : b = d) : Ending.returned (.tuple #[.int j a,.int k b]) = .returned (.tuple #[.int j c,.int k d]) := by rw [h,h']
theorem inv_any (n : Int) (w : World) : Calls Tryz.prog 81 #[.int .i64 n] w fun e w' => e = .returned (.tuple #[.int .i64 (Fm.inv n),.int .i64 (Fm.invE n)]) ∧ w = w' := by
 by_cases h : Fm.md n = 0
 ·have H1 := Lib.hid (Fm.inv_zero h)
  have H2 := Lib.hid (Fm.invE_zero h)
  go_enter Tryz.func81,Tryz.ntmps81
  go_wp2_with fail
  go_step3
  go_wp2_with (go_at_call 79;refine (mod_any _ _).mono ?_;rintro e w' ⟨rfl,rfl⟩)
  rw [Exit.noGoto_ret]
  go_ret2
  exact ⟨ret_tup2 H1.out.symm H2.out.symm,rfl⟩
 ·have H2 := Lib.hid (Fm.invE_ne h)
  have hs := Fm.pw_start n Fm.expo
  have H3 : Hid (∀ v,v = n ^ Fm.expo % 1073741789 → v = Fm.inv n) := fun v h => h
  generalize n ^ Fm.expo = v at hs H3
  have hb : (Fm.md n == 0) = false := beq_eq_false_iff_ne.2 h
  clear h
  go_enter Tryz.func81,Tryz.ntmps81
  go_wp2_with (first | (go_at_call 79;refine (mod_any _ _).mono ?_;rintro e w' ⟨rfl,rfl⟩))
  go_step3
  go_wp2_with (first | (go_at_call 79;refine (mod_any _ _).mono ?_;rintro e w' ⟨rfl,rfl⟩))
  go_step3
  go_wp2
  go_loopg [2,4,5] Fm.expo (fun g x l a wx => w = wx ∧ ∃ xi ai : Int,∃ ni : Nat,g = ni ∧ x = .int .i64 xi ∧ a = .int .i64 ai ∧ l = .int .i64 ni ∧ ni ≤ 1073741789 ∧ 0 ≤ xi ∧ xi < 1073741789 ∧ Fm.pw xi ai ni v)
  case atStart => exact ⟨rfl,1,n,Fm.expo,rfl,rfl,rfl,rfl,by decide,by omega,by omega,hs⟩
  case round =>
   obtain ⟨rfl,xi,ai,ni,rfl,rfl,rfl,rfl,b1,b2,b3,hp⟩ := hrel
   by_cases hz : 0 < gk
   ·by_cases ho : gk % 2 = 1
    ·have hp2 := Fm.pw_odd hp ho
     have c1 := Fm.ml_lo xi ai
     have c2 := Fm.ml_hi xi ai
     go_wp2_with (go_at_call 69;refine (mul_any _ _ _).mono ?_;rintro e w' ⟨rfl,rfl⟩)
     go_roundg (gk / 2)
     case rel => exact ⟨rfl,_,_,gk / 2,rfl,rfl,rfl,by go_num,by omega,c1,c2,hp2⟩
     case measure => omega
    ·have hp2 := Fm.pw_even hp (by omega)
     have ho' : gk % 2 = 0 := by omega
     go_wp2_with (go_at_call 69;refine (mul_any _ _ _).mono ?_;rintro e w' ⟨rfl,rfl⟩)
     go_roundg (gk / 2)
     case rel => exact ⟨rfl,_,_,gk / 2,rfl,rfl,rfl,by go_num,by omega,b2,b3,hp2⟩
     case measure => omega
   ·obtain rfl : gk = 0 := by omega
    have H := Lib.hid (H3.out _ (Fm.pw_end hp b2 b3))
    go_wp2
    rw [Exit.noGoto_ret]
    go_ret2
    exact ⟨ret_tup2 H.out H2.out.symm,rfl⟩
theorem sum_eq (a b : Int) : (Fm.md a % 1073741789 + Fm.md b) % 1073741789 = Fm.ad a b := by
 unfold Fm.md Fm.ad;omega
theorem sum_two (b : Nat) (x y : Int) (w : World) (h0 : w.cell? ⟨b,0,none⟩ = some (.int .i64 x)) (h1 : w.cell? ⟨b,1,none⟩ = some (.int .i64 y)) :
  Calls Tryz.prog 109 #[.slice (some ⟨b,0,none⟩) 2 2] w fun e w' => e = .returned (.int .i64 (Fm.ad x y)) ∧ w = w' := by
 have H := Lib.hid (sum_eq x y)
 have b1 := Fm.md_lo x
 have b2 := Fm.md_hi x
 have b3 := Fm.md_lo y
 have b4 := Fm.md_hi y
 go_enter Tryz.func109,Tryz.ntmps109
 go_wp2
 refine wp_loop_rounds 3 ?_
 rw [rounds_succ]
 go_wp2_with (go_at_call 79;refine (mod_any _ _).mono ?_;rintro e w' ⟨rfl,rfl⟩)
 rw [rounds_succ]
 go_wp2_with (go_at_call 79;refine (mod_any _ _).mono ?_;rintro e w' ⟨rfl,rfl⟩)
 rw [rounds_succ]
 go_wp2
 go_ret
 exact ⟨ret_int H.out,rfl⟩
theorem sum_new (a b : Int) (w : World) : Calls Tryz.prog 109 #[.slice (some ⟨w.heap.size,0,none⟩) 2 2] (w.alloc (.cells #[.int .i64 a,.int .i64 b] 3))
  fun e w' => e = .returned (.int .i64 (Fm.ad a b)) ∧ w.alloc (.cells #[.int .i64 a,.int .i64 b] 3) = w' :=
 sum_two _ a b _ (by go_cell) (by go_cell)
theorem add_any (a b : Int) (w : World) : Calls Tryz.prog 80 #[.int .i64 a,.int .i64 b] w fun e w' => e = .returned (.int .i64 (Fm.ad a b)) ∧ w.alloc (.cells #[.int .i64 a,.int .i64 b] 3) = w' := by
 go_enter Tryz.func80,Tryz.ntmps80
 go_wp2_with (go_at_call 109;refine (sum_new _ _ _).mono ?_;rintro e w' ⟨rfl,rfl⟩)
 go_ret
 exact ⟨rfl,rfl⟩
end Go.Proofs.YtjcpjhlclpdpjaaGreat
namespace Go.Proofs.YtjcpjhlclpdpjaaGreat
open Go.RowKit
attribute [local go_sem] Oper.semAt_some
structure Gt where
 N : Int
 A : Option Addr
 c : Nat
 P : List Int
def leafC (p : Int) : List Value := [.int .i64 p,.int .i64 0,.slice none 0 0]
abbrev leafV (p : Int) : Value := .agg #[.int .i64 p,.int .i64 0,.slice none 0 0]
def Gt.cells (g : Gt) : List Value := [.int .i64 (-1),.int .i64 g.N,.slice g.A g.P.length g.c]
abbrev Gt.val (g : Gt) : Value := .agg #[.int .i64 (-1),.int .i64 g.N,.slice g.A g.P.length g.c]
structure Gt.ok (w : World) (B : Nat) (g : Gt) : Prop where
 rd : Rd w B 3 g.A g.P.length (g.P.flatMap leafC)
 n0 : 1 ≤ g.N
 n1 : g.N ≤ 64
 len : g.P.length ≤ 64
 cap : g.P.length ≤ g.c
 capm : g.c ≤ maxLen
 ps : ∀ p ∈ g.P,0 ≤ p ∧ p < 64
theorem Gt.ok.below {w w' : World} {B : Nat} {g : Gt} (h : g.ok w B) (hb : Below B w w') : g.ok w' B := ⟨h.rd.below hb,h.n0,h.n1,h.len,h.cap,h.capm,h.ps⟩
theorem Gt.ok.more {w : World} {B B' : Nat} {g : Gt} (h : g.ok w B) (hB : B ≤ B') : g.ok w B' := ⟨h.rd.more hB,h.n0,h.n1,h.len,h.cap,h.capm,h.ps⟩
def Gt.p (g : Gt) (k : Nat) : Int := g.P.getD k 0
theorem Gt.ok.pk {w : World} {B : Nat} {g : Gt} (h : g.ok w B) {k : Nat} (hk : k < g.P.length) : 0 ≤ g.p k ∧ g.p k < 64 := by
 unfold Gt.p
 rw [List.getD_eq_getElem?_getD,List.getElem?_eq_getElem hk]
 exact h.ps _ (List.getElem_mem hk)
theorem Gt.ok.leaf {w : World} {B : Nat} {g : Gt} (h : g.ok w B) (h0 : 0 < g.P.length) : ∃ b o,g.A = some ⟨b,o,none⟩ ∧ ∀ k,k < g.P.length → ∀ W,Below B w W →
  W.cell? ⟨b,o + k * 3,none⟩ = some (.int .i64 (g.p k)) ∧ W.cell? ⟨b,o + k * 3 + 1,none⟩ = some (.int .i64 0) ∧ W.cell? ⟨b,o + k * 3 + 2,none⟩ = some (.slice none 0 0) := by
 obtain ⟨b,o,e1,hb,hc⟩ := h.rd.2 h0
 refine ⟨b,o,e1,fun k hk W hW => ?_⟩
 have hg : g.P[k]? = some (g.p k) := by unfold Gt.p;rw [List.getD_eq_getElem?_getD,List.getElem?_eq_getElem hk];rfl
 have hf : ∀ i v,i < 3 → (leafC (g.p k))[i]? = some v → W.cell? ⟨b,o + (k * 3 + i),none⟩ = some v := fun i v hi hv =>
  (hW.cell (p := ⟨b,o + (k * 3 + i),none⟩) hb).trans (hc (k * 3 + i) v (by rw [flat_at2 leafC 3 g.P (fun x _ => rfl) k i _ hg hi,hv]))
 exact ⟨by simpa using hf 0 _ (by omega) rfl,by have := hf 1 _ (by omega) rfl;rwa [← Nat.add_assoc] at this,by have := hf 2 _ (by omega) rfl;rwa [← Nat.add_assoc] at this⟩
theorem glI_any (q0 : Value) (q1 : Value) (A : Option Addr) (n c : Nat) (hn : n ≤ 4096) (p : Nat → Int) (I : Nat → World → Prop) (w : World) (h0 : I 0 w)
  (hA : 0 < n → ∃ b o,A = some ⟨b,o,none⟩ ∧ ∀ k,k < n → ∀ W,I k W → W.cell? ⟨b,o + k * 3,none⟩ = some (.int .i64 (p k)) ∧ W.cell? ⟨b,o + k * 3 + 1,none⟩ = some (.int .i64 0) ∧ W.cell? ⟨b,o + k * 3 + 2,none⟩ = some (.slice none 0 0))
  (hcall : ∀ k,k < n → ∀ W,I k W → Calls Tryz.prog 94 #[.agg #[.int .i64 (p k),.int .i64 0,.slice none 0 0],q0,q1] W fun r w' => r = .returned (.bool false) ∧ I (k + 1) w') :
  Calls Tryz.prog 113 #[.slice A n c,(.func (.func 94) #[] #[q0,q1])] w fun r w' => r = .returned (.int .i64 (-1)) ∧ I n w' := by
 have HA := Lib.hid hA
 have HC := Lib.hid hcall
 have H0 := Lib.hid h0
 clear hA hcall h0
 go_enter Tryz.func113,Tryz.ntmps113
 go_wp2
 go_loopw [8] (fun i wr => ∃ k : Nat,k ≤ n ∧ i = .int .i64 k ∧ I k wr) (fun i _ => n - (intOf i).toNat)
 case atStart => exact ⟨0,Nat.zero_le _,rfl,H0.out⟩
 case round =>
  clear H0
  obtain ⟨k,hk,rfl,hi⟩ := hrel
  have HI := Lib.hid hi
  clear hi
  by_cases hlt : k < n
  ·have k1 : (k : Int) < (n : Int) := by omega
   have k0 : (0 : Int) ≤ (k : Int) := by omega
   obtain ⟨b,o,hA1,hcc⟩ := HA.out (by omega)
   subst hA1
   have hcc := hcc k hlt wr HI.out
   have hC := HC.out k hlt wr HI.out
   obtain ⟨P0,hP0⟩ : ∃ P,p k = P := ⟨_,rfl⟩
   rw [hP0] at hC hcc
   have HC2 := Lib.hid hC
   clear hC hP0 HA HC
   obtain ⟨x0,x1,x2⟩ := hcc
   go_wp2_with fail
   refine HC2.out.mono ?_
   rintro x w1 ⟨rfl,hi1⟩
   have HI1 := Lib.hid hi1
   clear hi1
   go_wp2
   go_roundw
   case rel => exact ⟨k + 1,by omega,by go_num,HI1.out⟩
   case measure => simp [intOf];omega
  ·obtain rfl : k = n := by omega
   go_wp2
   go_ret
   exact ⟨rfl,HI.out⟩
theorem glC_any (q0 : Value) (q1 : Value) (A : Option Addr) (n c : Nat) (hn : n ≤ 4096) (p : Nat → Int) (I : Nat → World → Prop) (w : World) (h0 : I 0 w)
  (hA : 0 < n → ∃ b o,A = some ⟨b,o,none⟩ ∧ ∀ k,k < n → ∀ W,I k W → W.cell? ⟨b,o + k * 3,none⟩ = some (.int .i64 (p k)) ∧ W.cell? ⟨b,o + k * 3 + 1,none⟩ = some (.int .i64 0) ∧ W.cell? ⟨b,o + k * 3 + 2,none⟩ = some (.slice none 0 0))
  (hcall : ∀ k,k < n → ∀ W,I k W → Calls Tryz.prog 94 #[.agg #[.int .i64 (p k),.int .i64 0,.slice none 0 0],q0,q1] W fun r w' => r = .returned (.bool false) ∧ I (k + 1) w') :
  Calls Tryz.prog 93 #[.slice A n c,(.func (.func 94) #[] #[q0,q1])] w fun r w' => r = .returned (.bool false) ∧ I n w' := by
 have HI := Lib.hid (glI_any q0 q1 A n c hn p I w h0 hA hcall)
 clear hA hcall h0
 go_enter Tryz.func93,Tryz.ntmps93
 go_wp2_with fail
 refine HI.out.mono ?_
 rintro x w1 ⟨rfl,hi⟩
 have HI1 := Lib.hid hi
 clear hi
 go_wp2
 go_ret
 exact ⟨rfl,HI1.out⟩
theorem grI_any  (A : Option Addr) (n c : Nat) (hn : n ≤ 4096) (p : Nat → Int) (I : Nat → World → Prop) (w : World) (h0 : I 0 w)
  (hA : 0 < n → ∃ b o,A = some ⟨b,o,none⟩ ∧ ∀ k,k < n → ∀ W,I k W → W.cell? ⟨b,o + k * 3,none⟩ = some (.int .i64 (p k)) ∧ W.cell? ⟨b,o + k * 3 + 1,none⟩ = some (.int .i64 0) ∧ W.cell? ⟨b,o + k * 3 + 2,none⟩ = some (.slice none 0 0))
  (hcall : ∀ k,k < n → ∀ W,I k W → Calls Tryz.prog 95 #[.agg #[.int .i64 (p k),.int .i64 0,.slice none 0 0]] W fun r w' => r = .returned (.bool false) ∧ I (k + 1) w') :
  Calls Tryz.prog 113 #[.slice A n c,(.func (.func 95) #[] #[])] w fun r w' => r = .returned (.int .i64 (-1)) ∧ I n w' := by
 have HA := Lib.hid hA
 have HC := Lib.hid hcall
 have H0 := Lib.hid h0
 clear hA hcall h0
 go_enter Tryz.func113,Tryz.ntmps113
 go_wp2
 go_loopw [8] (fun i wr => ∃ k : Nat,k ≤ n ∧ i = .int .i64 k ∧ I k wr) (fun i _ => n - (intOf i).toNat)
 case atStart => exact ⟨0,Nat.zero_le _,rfl,H0.out⟩
 case round =>
  clear H0
  obtain ⟨k,hk,rfl,hi⟩ := hrel
  have HI := Lib.hid hi
  clear hi
  by_cases hlt : k < n
  ·have k1 : (k : Int) < (n : Int) := by omega
   have k0 : (0 : Int) ≤ (k : Int) := by omega
   obtain ⟨b,o,hA1,hcc⟩ := HA.out (by omega)
   subst hA1
   have hcc := hcc k hlt wr HI.out
   have hC := HC.out k hlt wr HI.out
   obtain ⟨P0,hP0⟩ : ∃ P,p k = P := ⟨_,rfl⟩
   rw [hP0] at hC hcc
   have HC2 := Lib.hid hC
   clear hC hP0 HA HC
   obtain ⟨x0,x1,x2⟩ := hcc
   go_wp2_with fail
   refine HC2.out.mono ?_
   rintro x w1 ⟨rfl,hi1⟩
   have HI1 := Lib.hid hi1
   clear hi1
   go_wp2
   go_roundw
   case rel => exact ⟨k + 1,by omega,by go_num,HI1.out⟩
   case measure => simp [intOf];omega
  ·obtain rfl : k = n := by omega
   go_wp2
   go_ret
   exact ⟨rfl,HI.out⟩
theorem grC_any  (A : Option Addr) (n c : Nat) (hn : n ≤ 4096) (p : Nat → Int) (I : Nat → World → Prop) (w : World) (h0 : I 0 w)
  (hA : 0 < n → ∃ b o,A = some ⟨b,o,none⟩ ∧ ∀ k,k < n → ∀ W,I k W → W.cell? ⟨b,o + k * 3,none⟩ = some (.int .i64 (p k)) ∧ W.cell? ⟨b,o + k * 3 + 1,none⟩ = some (.int .i64 0) ∧ W.cell? ⟨b,o + k * 3 + 2,none⟩ = some (.slice none 0 0))
  (hcall : ∀ k,k < n → ∀ W,I k W → Calls Tryz.prog 95 #[.agg #[.int .i64 (p k),.int .i64 0,.slice none 0 0]] W fun r w' => r = .returned (.bool false) ∧ I (k + 1) w') :
  Calls Tryz.prog 93 #[.slice A n c,(.func (.func 95) #[] #[])] w fun r w' => r = .returned (.bool false) ∧ I n w' := by
 have HI := Lib.hid (grI_any  A n c hn p I w h0 hA hcall)
 clear hA hcall h0
 go_enter Tryz.func93,Tryz.ntmps93
 go_wp2_with fail
 refine HI.out.mono ?_
 rintro x w1 ⟨rfl,hi⟩
 have HI1 := Lib.hid hi
 clear hi
 go_wp2
 go_ret
 exact ⟨rfl,HI1.out⟩
theorem right_leaf (p : Int) (w : World) (h0 : 0 ≤ p) (h1 : p < 64) : Calls Tryz.prog 67 #[leafV p] w fun r w' => r = .returned (.bool true) ∧ Below w.heap.size w w' := by
 have HB : Hid (Below w.heap.size w (w.alloc (.cells #[.int .i64 p,.int .i64 0,.slice none 0 0] 68))) := (Below.refl _ _).alloc (Nat.le_refl _) _
 go_enter Tryz.func67,Tryz.ntmps67
 go_wp2
 go_ret
 exact ⟨rfl,HB.out⟩
theorem right1_leaf (p : Int) (w : World) (h0 : 0 ≤ p) (h1 : p < 64) : Calls Tryz.prog 95 #[leafV p] w fun r w' => r = .returned (.bool false) ∧ Below w.heap.size w w' := by
 have HB : Hid (Below w.heap.size w (w.alloc (.cells #[.int .i64 p,.int .i64 0,.slice none 0 0] 68)) ∧ w.heap.size ≤ (w.alloc (.cells #[.int .i64 p,.int .i64 0,.slice none 0 0] 68)).heap.size) := ⟨(Below.refl _ _).alloc (Nat.le_refl _) _,by simp⟩
 go_enter Tryz.func95,Tryz.ntmps95
 go_wp2_with (go_at_call 67;refine (right_leaf p _ h0 h1).mono ?_;rintro x w1 ⟨rfl,hb⟩)
 go_ret
 exact ⟨rfl,HB.out.1.trans (hb.mono HB.out.2)⟩
theorem right_gate (g : Gt) (w : World) (h : g.ok w w.heap.size) : Calls Tryz.prog 67 #[g.val] w fun r w' => r = .returned (.bool true) ∧ Below w.heap.size w w' := by
 have hX : ∀ W,Below w.heap.size w W → Calls Tryz.prog 93 #[.slice g.A g.P.length g.c,.func (.func 95) #[] #[]] W fun r w' => r = .returned (.bool false) ∧ Below w.heap.size w w' := fun W hW =>
  grC_any g.A g.P.length g.c (by have := h.len;omega) g.p (fun _ V => Below w.heap.size w V) W hW (fun h0 => h.leaf h0) fun k hk V hV => (right1_leaf _ V (h.pk hk).1 (h.pk hk).2).mono fun _ _ ⟨h1,h2⟩ => ⟨h1,hV.trans (h2.mono hV.size)⟩
 have n0 := h.n0
 have n1 := h.n1
 obtain ⟨N,A,c,P⟩ := g
 have n0 : 1 ≤ N := n0
 have n1 : N ≤ 64 := n1
 show Calls _ _ #[.agg #[.int .i64 (-1),.int .i64 N,.slice A P.length c]] _ _
 have hX : ∀ W,Below w.heap.size w W → Calls Tryz.prog 93 #[.slice A P.length c,.func (.func 95) #[] #[]] W fun r w' => r = .returned (.bool false) ∧ Below w.heap.size w w' := hX
 have HX := Lib.hid hX
 have n2 : N ≤ 4096 := by omega
 have HB : Hid (Below w.heap.size w (w.alloc (.cells #[.int .i64 (-1),.int .i64 N,.slice A P.length c] 68))) := (Below.refl _ _).alloc (Nat.le_refl _) _
 clear hX h n1
 go_enter Tryz.func67,Tryz.ntmps67
 go_wp2_with (go_at_call 93;refine (HX.out _ HB.out).mono ?_;rintro x w1 ⟨rfl,hb⟩)
 go_ret
 exact ⟨rfl,hb⟩
theorem large1_leaf (p d L : Int) (b1 b2 : Nat) (w : World) (hd : d ≤ 16) (hL : 1 ≤ L) (hL2 : L ≤ 256) (hr : Row w b1 3 [.int .i64 L]) :
  Calls Tryz.prog 92 #[leafV p,.int .i64 d,.pointer (some ⟨b1,0,none⟩),.pointer (some ⟨b2,0,none⟩)] w fun r w' => r = .returned (.bool false) ∧ Tch (fun k => k = b1) w w' ∧ Row w' b1 3 [.int .i64 (L - 1)] := by
 have hc := hr.cell (i := 0) rfl
 have hf := hr.fz 0
 have hb1 := hr.lt
 have HR := Lib.hid hr
 have nd : ¬ 16 < d := by omega
 have nl : ¬ L - 1 < 0 := by omega
 clear hr
 go_enter Tryz.func92,Tryz.ntmps92
 go_wp2
 go_ret
 refine ⟨by simp,?_,((HR.out.put 0 (.int .i64 (L - 1))).alloc _).alloc _⟩
 exact (((Tch.refl (fun k => k = b1) w).set (p := ⟨b1,0,none⟩) (.inr rfl) _).alloc _).alloc _
theorem large11_leaf (p d L : Int) (b1 b2 bd : Nat) (w : World) (hd : d ≤ 15) (hd0 : 0 ≤ d) (hL : 1 ≤ L) (hL2 : L ≤ 256) (hr : Row w b1 3 [.int .i64 L]) (h2 : Row w b2 155 [.func (.func 92) #[] #[.pointer (some ⟨b1,0,none⟩),.pointer (some ⟨b2,0,none⟩)]]) (h3 : Row w bd 3 [.int .i64 d]) :
  Calls Tryz.prog 94 #[leafV p,.pointer (some ⟨b2,0,none⟩),.pointer (some ⟨bd,0,none⟩)] w fun r w' => r = .returned (.bool false) ∧ Tch (fun k => k = b1) w w' ∧ Row w' b1 3 [.int .i64 (L - 1)] := by
 have c2 := h2.cell (i := 0) rfl
 have c3 := h3.cell (i := 0) rfl
 have l2 := h2.lt
 have l3 := h3.lt
 have HR : Hid (Row (w.alloc (.cells #[.int .i64 p,.int .i64 0,.slice none 0 0] 68)) b1 3 [.int .i64 L]) := hr.alloc _
 have HT : Hid (Tch (fun k => k = b1) w (w.alloc (.cells #[.int .i64 p,.int .i64 0,.slice none 0 0] 68))) := (Tch.refl _ w).alloc _
 clear hr h2 h3
 go_enter Tryz.func94,Tryz.ntmps94
 go_wp2_with (go_at_call 92;refine (large1_leaf p (d + 1) L b1 b2 _ (by omega) hL hL2 HR.out).mono ?_;rintro x w1 ⟨rfl,hb,hrr⟩)
 go_ret
 exact ⟨rfl,HT.out.trans hb,hrr⟩
theorem large1_gate (g : Gt) (b1 b2 : Nat) (w : World) (h : g.ok w w.heap.size) (hb : b1 ≠ b2) (hr : Row w b1 3 [.int .i64 256]) (h2 : Row w b2 155 [.func (.func 92) #[] #[.pointer (some ⟨b1,0,none⟩),.pointer (some ⟨b2,0,none⟩)]])
  (hA : 0 < g.P.length → ∀ b o,g.A = some ⟨b,o,none⟩ → b ≠ b1) :
  Calls Tryz.prog 92 #[g.val,.int .i64 1,.pointer (some ⟨b1,0,none⟩),.pointer (some ⟨b2,0,none⟩)] w fun r w' => r = .returned (.bool false) ∧ Tch (fun k => k = b1) w w' := by
 have hlen := h.len
 obtain ⟨w2,hw2⟩ : ∃ w2,(w.alloc (.cells #[.int .i64 (-1),.int .i64 g.N,.slice g.A g.P.length g.c] 68)).alloc (.cells #[.int .i64 1] 3) = w2 := ⟨_,rfl⟩
 have hT : Tch (fun k => k = b1) w w2 := by rw [← hw2];exact ((Tch.refl _ w).alloc _).alloc _
 have hs : (w.alloc (.cells #[.int .i64 (-1),.int .i64 g.N,.slice g.A g.P.length g.c] 68)).heap.size = w.heap.size + 1 := by simp
 have h3 : Row w2 (w.heap.size + 1) 3 [.int .i64 1] := by rw [← hw2,← hs];exact Row.fresh _ _ _
 have h1' : Row w2 b1 3 [.int .i64 256] := by rw [← hw2];exact (hr.alloc _).alloc _
 have hX : Calls Tryz.prog 93 #[.slice g.A g.P.length g.c,.func (.func 94) #[] #[.pointer (some ⟨b2,0,none⟩),.pointer (some ⟨w.heap.size + 1,0,none⟩)]] w2 fun r w' => r = .returned (.bool false) ∧ Tch (fun k => k = b1) w w' := by
  refine (glC_any _ _ g.A g.P.length g.c (by omega) g.p (fun k V => Tch (fun k => k = b1) w V ∧ Tch (fun k => k = b1) w2 V ∧ Row V b1 3 [.int .i64 (256 - (k : Int))]) w2 ⟨hT,Tch.refl _ _,by simpa using h1'⟩ ?_ ?_).mono fun _ _ ⟨q1,q2,_⟩ => ⟨q1,q2⟩
  ·intro h0
   obtain ⟨b,o,e1,hbB,hall⟩ : ∃ b o,g.A = some ⟨b,o,none⟩ ∧ b < w.heap.size ∧ ∀ k,k < g.P.length → ∀ W,Tch (fun k => k = b1) w W →
     W.cell? ⟨b,o + k * 3,none⟩ = some (.int .i64 (g.p k)) ∧ W.cell? ⟨b,o + k * 3 + 1,none⟩ = some (.int .i64 0) ∧ W.cell? ⟨b,o + k * 3 + 2,none⟩ = some (.slice none 0 0) := by
    obtain ⟨b,o,e1,hcc⟩ := h.leaf h0
    obtain ⟨b',o',e2,hb',_⟩ := h.rd.2 h0
    rw [e1] at e2
    injection e2 with e2
    injection e2 with e3 e4
    subst e3
    refine ⟨b,o,e1,hb',fun k hk W hW => ?_⟩
    have hx := hA h0 b o e1
    have := hcc k hk w (Below.refl _ _)
    rw [hW.cell (p := ⟨b,o + k * 3,none⟩) hb' hx,hW.cell (p := ⟨b,o + k * 3 + 1,none⟩) hb' hx,hW.cell (p := ⟨b,o + k * 3 + 2,none⟩) hb' hx]
    exact this
   exact ⟨b,o,e1,fun k hk W ⟨hW,_⟩ => hall k hk W hW⟩
  ·rintro k hk V ⟨t1,t2,t3⟩
   refine (large11_leaf (g.p k) 1 (256 - (k : Int)) b1 b2 (w.heap.size + 1) V (by omega) (by omega) (by omega) (by omega) t3 (t1.row h2 (fun e => hb e.symm)) (t2.row h3 (fun e => by have := hr.lt;omega))).mono ?_
   rintro r w' ⟨q1,q2,q3⟩
   exact ⟨q1,t1.trans q2,t2.trans q2,by rw [show (256 : Int) - ((k + 1 : Nat) : Int) = 256 - (k : Int) - 1 by omega];exact q3⟩
 have HX := Lib.hid hX
 have HT := Lib.hid hT
 have hc := hr.cell (i := 0) rfl
 have hf := hr.fz 0
 have hb1 := hr.lt
 have hZ : g.P.length = 0 → Hid (Row w b1 3 [.int .i64 256]) := fun _ => hr
 have hZ2 := Lib.hid hr
 obtain ⟨N,A,c,P⟩ := g
 obtain ⟨m,hm⟩ : ∃ m,P.length = m := ⟨_,rfl⟩
 change P.length ≤ 64 at hlen
 change ((w.alloc (.cells #[.int .i64 (-1),.int .i64 N,.slice A P.length c] 68)).alloc (.cells #[.int .i64 1] 3)) = w2 at hw2
 change Hid (Calls _ _ #[.slice A P.length c,_] _ _) at HX
 show Calls _ _ #[.agg #[.int .i64 (-1),.int .i64 N,.slice A P.length c],_,_,_] _ _
 rw [hm] at hlen hw2 HX ⊢
 subst hw2
 clear hX hT h1' h3 hs hr h2 h hA hm hZ
 rcases Nat.eq_zero_or_pos m with h0 | h0
 ·subst h0
  clear HX HT
  go_enter Tryz.func92,Tryz.ntmps92
  go_wp2
  go_ret
  refine ⟨by simp,?_⟩
  exact (((Tch.refl (fun k => k = b1) w).set (p := ⟨b1,0,none⟩) (.inr rfl) _).alloc _).alloc _
 ·have hne : ((m : Int) == 0) = false := by simp;omega
  clear hc hf
  go_enter Tryz.func92,Tryz.ntmps92
  go_wp2_with (go_at_call 93;refine HX.out.mono ?_;rintro x w1 ⟨rfl,hb⟩)
  go_ret
  exact ⟨rfl,hb⟩
theorem large_any (g : Gt) (w : World) (h : g.ok w w.heap.size) : Calls Tryz.prog 66 #[g.val] w fun r w' => r = .returned (.bool false) ∧ Below w.heap.size w w' := by
 obtain ⟨s,hs⟩ : ∃ s,w.heap.size = s := ⟨_,rfl⟩
 have HX : Hid (∀ W,Below w.heap.size w W → Row W (s + 1) 3 [.int .i64 256] → Row W (s + 1 + 1) 155 [.func (.func 92) #[] #[.pointer (some ⟨s + 1,0,none⟩),.pointer (some ⟨s + 1 + 1,0,none⟩)]] → Calls Tryz.prog 92 #[g.val,.int .i64 1,.pointer (some ⟨s + 1,0,none⟩),.pointer (some ⟨s + 1 + 1,0,none⟩)] W fun r w' => r = .returned (.bool false) ∧ Below w.heap.size w w') := fun W hW h1 h2 => by
  refine (large1_gate g (s + 1) (s + 1 + 1) W ((h.below hW).more hW.size) (by omega) h1 h2 ?_).mono ?_
  ·intro h0 b o e
   obtain ⟨b',o',e2,hb',_⟩ := h.rd.2 h0
   rw [e] at e2
   injection e2 with e2
   injection e2 with e3 e4
   omega
  ·rintro r w' ⟨q1,q2⟩
   exact ⟨q1,hW.trans (q2.below hW.size (by intro i hi;show ¬ i = s + 1;omega))⟩
 have HW3 : Hid (∀ V,V = (((w.alloc (.cells #[.int .i64 (-1),.int .i64 g.N,.slice g.A g.P.length g.c] 68)).alloc (.cells #[.int .i64 256] 3)).alloc (.cells #[.func (.func 92) #[] #[.pointer (some ⟨s + 1,0,none⟩),.pointer (some ⟨s + 1 + 1,0,none⟩)]] 155)) →
   Below w.heap.size w V ∧ Row V s 68 [.int .i64 (-1),.int .i64 g.N,.slice g.A g.P.length g.c] ∧ Row V (s + 1) 3 [.int .i64 256] ∧ Row V (s + 1 + 1) 155 [.func (.func 92) #[] #[.pointer (some ⟨s + 1,0,none⟩),.pointer (some ⟨s + 1 + 1,0,none⟩)]]) := by
  rintro V rfl
  refine ⟨(((Below.refl _ w).alloc (Nat.le_refl _) _).alloc (by simp) _).alloc (by simp;omega) _,((Row.fresh' w _ _ hs).alloc _).alloc _,(Row.fresh' _ _ _ (by simp [hs])).alloc _,Row.fresh' _ _ _ (by simp [hs])⟩
 have HS := Lib.hid hs
 obtain ⟨N,A,c,P⟩ := g
 obtain ⟨m,hm⟩ : ∃ m,P.length = m := ⟨_,rfl⟩
 have HX : Hid (∀ W,Below w.heap.size w W → Row W (s + 1) 3 [.int .i64 256] → Row W (s + 1 + 1) 155 [.func (.func 92) #[] #[.pointer (some ⟨s + 1,0,none⟩),.pointer (some ⟨s + 1 + 1,0,none⟩)]] → Calls Tryz.prog 92 #[.agg #[.int .i64 (-1),.int .i64 N,.slice A P.length c],.int .i64 1,.pointer (some ⟨s + 1,0,none⟩),.pointer (some ⟨s + 1 + 1,0,none⟩)] W fun r w' => r = .returned (.bool false) ∧ Below w.heap.size w w') := HX
 have HW3 : Hid (∀ V,V = (((w.alloc (.cells #[.int .i64 (-1),.int .i64 N,.slice A P.length c] 68)).alloc (.cells #[.int .i64 256] 3)).alloc (.cells #[.func (.func 92) #[] #[.pointer (some ⟨s + 1,0,none⟩),.pointer (some ⟨s + 1 + 1,0,none⟩)]] 155)) →
   Below w.heap.size w V ∧ Row V s 68 [.int .i64 (-1),.int .i64 N,.slice A P.length c] ∧ Row V (s + 1) 3 [.int .i64 256] ∧ Row V (s + 1 + 1) 155 [.func (.func 92) #[] #[.pointer (some ⟨s + 1,0,none⟩),.pointer (some ⟨s + 1 + 1,0,none⟩)]]) := HW3
 show Calls _ _ #[.agg #[.int .i64 (-1),.int .i64 N,.slice A P.length c]] _ _
 rw [hm] at HX HW3 ⊢
 clear h hs hm
 go_enter Tryz.func66,Tryz.ntmps66
 go_wp2_with fail
 rw [HS.out]
 obtain ⟨q0,q1,q2,q3⟩ := HW3.out _ rfl
 refine (HX.out _ q0 q2 q3).mono ?_
 rintro x w1 ⟨rfl,hb⟩
 have HB := Lib.hid hb
 clear hb q0 q1 q2 q3
 go_wp2
 go_ret
 exact ⟨rfl,HB.out⟩
theorem fcheck_any (g : Gt) (w : World) (h : g.ok w w.heap.size) : Calls Tryz.prog 45 #[g.val] w fun r w' => r = .returned (.int .i64 0) ∧ Below w.heap.size w w' := by
 have HX : Hid (∀ W,Below w.heap.size w W → Calls Tryz.prog 66 #[g.val] W fun r w' => r = .returned (.bool false) ∧ Below W.heap.size W w') := fun W hW => large_any g W ((h.below hW).more hW.size)
 have HY : Hid (∀ W,Below w.heap.size w W → Calls Tryz.prog 67 #[g.val] W fun r w' => r = .returned (.bool true) ∧ Below W.heap.size W w') := fun W hW => right_gate g W ((h.below hW).more hW.size)
 have hb0 := (Below.refl _ w).alloc (Nat.le_refl _) (.cells #[.int .i64 (-1),.int .i64 g.N,.slice g.A g.P.length g.c] 68)
 have hr0 : Row (w.alloc (.cells #[.int .i64 (-1),.int .i64 g.N,.slice g.A g.P.length g.c] 68)) w.heap.size 68 [.int .i64 (-1),.int .i64 g.N,.slice g.A g.P.length g.c] := Row.fresh _ _ _
 obtain ⟨s,hs⟩ : ∃ s,w.heap.size = s := ⟨_,rfl⟩
 rw [hs] at hr0
 have HS := Lib.hid hs
 obtain ⟨N,A,c,P⟩ := g
 obtain ⟨m,hm⟩ : ∃ m,P.length = m := ⟨_,rfl⟩
 have HX : Hid (∀ W,Below w.heap.size w W → Calls Tryz.prog 66 #[.agg #[.int .i64 (-1),.int .i64 N,.slice A P.length c]] W fun r w' => r = .returned (.bool false) ∧ Below W.heap.size W w') := HX
 have HY : Hid (∀ W,Below w.heap.size w W → Calls Tryz.prog 67 #[.agg #[.int .i64 (-1),.int .i64 N,.slice A P.length c]] W fun r w' => r = .returned (.bool true) ∧ Below W.heap.size W w') := HY
 change Below _ _ (w.alloc (.cells #[.int .i64 (-1),.int .i64 N,.slice A P.length c] 68)) at hb0
 change Row (w.alloc (.cells #[.int .i64 (-1),.int .i64 N,.slice A P.length c] 68)) _ _ [.int .i64 (-1),.int .i64 N,.slice A P.length c] at hr0
 show Calls _ _ #[.agg #[.int .i64 (-1),.int .i64 N,.slice A P.length c]] _ _
 rw [hm] at HX HY hb0 hr0 ⊢
 have HB := Lib.hid hb0
 have HR := Lib.hid hr0
 clear h hs hm hb0 hr0
 go_enter Tryz.func45,Tryz.ntmps45
 go_wp2_with fail
 refine (HX.out _ HB.out).mono ?_
 rintro x w1 ⟨rfl,hb⟩
 have HB1 : Hid (Below w.heap.size w w1) := HB.out.trans (hb.mono HB.out.size)
 have hr1 := HR.out.below hb HR.out.lt
 rw [HS.out]
 have c0 := hr1.cell (i := 0) rfl
 have c1 := hr1.cell (i := 1) rfl
 have c2 := hr1.cell (i := 2) rfl
 clear hb hr1
 go_wp2_with fail
 refine (HY.out _ HB1.out).mono ?_
 rintro x w2 ⟨rfl,hb⟩
 have HB2 : Hid (Below w.heap.size w w2) := HB1.out.trans (hb.mono HB1.out.size)
 clear hb c0 c1 c2
 go_wp2
 go_ret
 exact ⟨rfl,HB2.out⟩
end Go.Proofs.YtjcpjhlclpdpjaaGreat
