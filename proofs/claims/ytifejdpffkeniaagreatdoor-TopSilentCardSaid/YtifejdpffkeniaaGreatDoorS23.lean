import Derived.Test.YtifejdpffkeniaaGreatDoorS22
import Derived.Test.YtifejdpffkeniaaGreatDoorS06
import Derived.Test.YtifejdpffkeniaaGreatDoorS02
import Derived.Test.YtifejdpffkeniaaGreatDoorS09
set_option linter.unusedVariables false
set_option maxRecDepth 100000
set_option maxHeartbeats 40000000
namespace Go.Proofs.YtifejdpffkeniaaGreatDoor
open Go.RowKit
attribute [local go_sem] Oper.semAt_some
section
variable {F : Fence} {n : Nat} {P : Program} {w : World} {σ : Type}
def HandsN (F : Fence) (n : Nat) (P : Program) (gf : Nat) (lb : Array Value) (w0 : World) (I : σ → World → Prop) (T : σ → Array Value → σ → World → Prop) (s0 : σ) (S : σ → Prop) : Prop :=
 ∀ (l : Nat) (J Jx : σ → World → Prop) (W : World),Below w0.heap.size w0 W → (∀ s X,J s X → I s X) → (∀ s X,¬ Jx s X) → AbidesFrom W.heap.size J → AbidesFrom W.heap.size Jx →
  (∀ s vs s' X,J s X → T s vs s' X → YieldAt F (n - 1) P l vs X fun e X' => (e = .returned (.bool true) ∧ J s' X') ∨ (e = .returned (.bool false) ∧ Jx s' X')) →
  J s0 W → CallsIn F n P gf (#[.func (.yield l) #[] #[]] ++ lb) W fun e W' => (∃ v,e = .returned v) ∧ ((∃ s,S s ∧ J s W') ∨ (∃ s,Jx s W'))
theorem wpIn_range_handsN {g : Operand} {ps : Array Tmp} {assign body : Code} {Q : Exit → Act → World → Prop} {a : Act} (hro : F.round = none) (h1 : 1 ≤ n) {gf : Nat} {lb : Array Value} (hg : a.eval g = .func (.func gf) #[] lb) (hFg : F.fn gf)
  (eg : ∀ args w,(callFunc gf args).run P w = .ok (.enter gf args) w) (I : σ → World → Prop) (Ix : Code → σ → World → Prop) (T : σ → Array Value → σ → World → Prop) (s0 : σ) (S : σ → Prop) (w0 : World) (hb0 : Below w0.heap.size w0 w)
  (hno : ∀ c s X,¬ Ix c s X) (hseq : HandsN F (n - 1) P gf lb w0 I T s0 S) (hI : OwnFrom w.heap.size I) (hIx : ∀ c,OwnFrom w.heap.size (Ix c)) (h0 : I s0 w) (hps : ∀ s vs s' W,T s vs s' W → vs.size = ps.size)
  (Ax : σ → Act → World → Prop) (hAx : ∀ s a',OwnFrom w.heap.size (fun (_ : Unit) W => Ax s a' W))
  (hassign : ∀ (l : Nat) (s : σ) (vs : Array Value) (s' : σ) (W : World) (K : Act → World → Prop),I s W → T s vs s' W → (∀ a' W',KeepsFrom w.heap.size W W' → Ax s' a' W' → K a' W') →
   assign.wpIn (F.inRound l) (n - 1 - 1) P (Exit.then K (fun _ _ _ => False)) { tmps := (ps.zip vs).foldl (fun t (p,v) => t.setIfInBounds p v) a.tmps,defers := [] } W)
  (hbody : ∀ (l : Nat) (s : σ) (a' : Act) (W : World),w.heap.size ≤ l → Ax s a' W → body.wpIn (F.inRound l) (n - 1 - 1) P (leftR w.heap.size I Ix s W) a' W)
  (hdone : ∀ (D : Nat) (s : σ) (W : World),w.heap.size ≤ D → S s → I s W → W.heap[D]? = some (.deferred (some [])) → Q .normal { a with defers := { target := .collected D,args := #[] } :: a.defers } W)
  (hstop : ∀ (D : Nat) (c : Code) (s : σ) (W : World),w.heap.size ≤ D → Ix c s W → W.heap[D]? = some (.deferred (some [])) → c.wpIn F n P Q { a with defers := { target := .collected D,args := #[] } :: a.defers } W) :
  (Code.rangeFunc g ps assign body).wpIn F n P Q a w := by
 refine wpIn_rangeFunc fun fn hfn => ?_;rw [hro];obtain ⟨B,hB⟩ : ∃ B,w.heap.size = B := ⟨_,rfl⟩;rw [hB] at hI hIx hAx hassign hbody hdone hstop
 let rec_ (st : LoopState) (pe : Option Code) : Loop := { state := st,pending := pe,fn,tmps := a.tmps,params := ps,assign,body,defers := B }
 have key : ∀ X : World,X.heap[B + 1]? = some (.loop (rec_ .ready none)) → X.heap[B]? = some (.deferred (some [])) → ∀ Y,KeepsFrom B X Y → Y.heap[B + 1]? = some (.loop (rec_ .ready none)) ∧ Y.heap[B]? = some (.deferred (some [])) :=
  fun X h1 h2 Y hk => ⟨hk.same _ _ (by omega) h1 rfl,hk.same _ _ (Nat.le_refl _) h2 rfl⟩
 obtain ⟨W1,hW1⟩ : ∃ W1,(w.alloc (.deferred (some []))).alloc (.loop (rec_ .ready none)) = W1 := ⟨_,rfl⟩;have hs1 : W1.heap.size = B + 2 := by rw [← hW1];simp [hB]
 have hL1 : W1.heap[B + 1]? = some (.loop (rec_ .ready none)) := by
  rw [← hW1];have h := World.alloc_heap_new (w.alloc (.deferred (some []))) (.loop (rec_ .ready none))
  rwa [World.size_alloc,hB] at h
 have hK1 : W1.heap[B]? = some (.deferred (some [])) := by
  rw [← hW1,← hB];exact (Below.heap_alloc _ _ _ (by simp)).trans (World.alloc_heap_new w _)
 have hI1 : I s0 W1 := by rw [← hW1];exact hI.alloc _ (hI.alloc _ h0)
 have hb1 : Below w0.heap.size w0 W1 := by
  rw [← hW1];exact hb0.trans ((((Below.refl _ w).alloc (Nat.le_refl _) _).alloc (by simp) _).mono hb0.size)
 refine ⟨B + 1,[{ target := .collected B,args := #[] }],W1,{ target := .fn (.func gf) lb,args := #[.func (.yield (B + 1)) #[] #[]] },W1,gf,#[.func (.yield (B + 1)) #[] #[]] ++ lb,W1,?_,?_,?_,?_,fun _ => h1,?_⟩
 ·rw [← hW1]
  have h := run_enterLoop_outer (P := P) (w := w) fn a.tmps ps assign body;rw [hB] at h;exact h
 ·simp only [resolve,hg];simp [go_sem]
 ·intro f' hf';simp [Target.leads] at hf';subst hf';exact hFg
 ·simp [invoke,go_sem,eg]
 ·have hw2 : ∀ {X : World} {row : Option Nat},(∀ r,row = some r → W1.heap.size ≤ r ∧ ∃ o : Obj,X.heap[r]? = some o ∧ o.isWalk = true) → (∀ r,row = some r → B ≤ r ∧ ∃ o : Obj,X.heap[r]? = some o ∧ o.isCells = false) := fun hr r e => by
   obtain ⟨h1,o,ho,hw⟩ := hr r e;exact ⟨by omega,o,ho,Obj.not_cells_of_walk hw⟩
  refine (hseq (B + 1) (fun s X => I s X ∧ X.heap[B + 1]? = some (.loop (rec_ .ready none)) ∧ X.heap[B]? = some (.deferred (some []))) (fun s X => ∃ c,Ix c s X ∧ X.heap[B + 1]? = some (.loop (rec_ .done (some c))) ∧ X.heap[B]? = some (.deferred (some [])))
   W1 hb1 (fun s X h => h.1) (fun s X ⟨c,h,_⟩ => hno c s X h) ?_ ?_ ?_ ⟨hI1,hL1,hK1⟩).mono ?_
  ·rintro s X Y row ⟨h1,h2,h3⟩ hg' hr
   exact ⟨hI s X Y row h1 hg' (hw2 hr),(grownBy_keeps hg' (fun r e => (hr r e).2) h2 rfl).trans h2,(grownBy_keeps hg' (fun r e => (hr r e).2) h3 rfl).trans h3⟩
  ·rintro s X Y row ⟨c,h1,h2,h3⟩ hg' hr
   exact ⟨c,hIx c s X Y row h1 hg' (hw2 hr),(grownBy_keeps hg' (fun r e => (hr r e).2) h2 rfl).trans h2,(grownBy_keeps hg' (fun r e => (hr r e).2) h3 rfl).trans h3⟩
  ·rintro s vs s' X ⟨hi,hl,hk⟩ hT
   refine ⟨fn,_,assign,body,run_yield (P := P) hl (hps s vs s' X hT),roundIn_of_wpIn hfn (hassign _ s vs s' X _ hi hT ?_)⟩;intro a' X1 hk1 hax;obtain ⟨hl1,hd1⟩ := key X hl hk X1 hk1;have hlt : B + 1 < X1.heap.size := heap_lt hl1;refine ⟨_,run_beginRound hl1 rfl,?_⟩;have hl2 : (X1.putObj (B + 1) (.loop { rec_ .ready none with state := .busy })).heap[B + 1]? = some (.loop { rec_ .ready none with state := .busy }) := World.putObj_heap_same hlt;have hd2 : (X1.putObj (B + 1) (.loop { rec_ .ready none with state := .busy })).heap[B]? = some (.deferred (some [])) := (World.putObj_heap_other (by omega)).trans hd1;refine wpIn_mono (hbody _ s' a' _ (by omega) ((hAx s' a').putObj (s := ()) _ hax (by omega) hl1 rfl)) ?_;intro e a3 X3 hp
   have fin : ∀ jump : Option Code,KeepsFrom B (X1.putObj (B + 1) (.loop { rec_ .ready none with state := .busy })) X3 → X3.heap[B + 1]? = some (.loop { rec_ .ready none with state := .busy }) ∧
     (X3.putObj (B + 1) (.loop (rec_ (if jump.isNone then .ready else .done) jump))).heap[B + 1]? = some (.loop (rec_ (if jump.isNone then .ready else .done) jump)) ∧
     (X3.putObj (B + 1) (.loop (rec_ (if jump.isNone then .ready else .done) jump))).heap[B]? = some (.deferred (some [])) := fun jump hk3 => by
    have hl3 := hk3.same _ _ (by omega) hl2 rfl;exact ⟨hl3,World.putObj_heap_same (heap_lt hl3),(World.putObj_heap_other (by omega)).trans (hk3.same _ _ (Nat.le_refl _) hd2 rfl)⟩
   have out : ∀ c : Code,KeepsFrom B (X1.putObj (B + 1) (.loop { rec_ .ready none with state := .busy })) X3 → Ix c s' X3 → (∃ c',Ix c' s' (X3.putObj (B + 1) (.loop (rec_ .done (some c)))) ∧ (X3.putObj (B + 1) (.loop (rec_ .done (some c)))).heap[B + 1]? = some (.loop (rec_ .done (some c'))) ∧ (X3.putObj (B + 1) (.loop (rec_ .done (some c)))).heap[B]? = some (.deferred (some []))) := fun c hk3 hi3 => by
    obtain ⟨hl3,hl4,hd4⟩ := fin (some c) hk3;exact ⟨c,(hIx c).putObj _ hi3 (by omega) hl3 rfl,hl4,hd4⟩
   cases e with
   | normal =>
    obtain ⟨hl3,hl4,hd4⟩ := fin none hp.1;exact ⟨_,_,run_endRound (P := P) none hl3,.inl ⟨rfl,hI.putObj _ hp.2 (by omega) hl3 rfl,hl4,hd4⟩⟩
   | ret => exact ⟨_,_,run_endRound (P := P) (some .ret) (fin (some .ret) hp.1).1,.inr ⟨rfl,out _ hp.1 hp.2⟩⟩
   | exit id => exact ⟨_,_,run_endRound (P := P) (some (.exit id)) (fin (some (.exit id)) hp.1).1,.inr ⟨rfl,out _ hp.1 hp.2⟩⟩
   | goto t => exact hp.elim
   | panic ch => exact hp.elim
   | outgrown => exact hp.elim
  ·rintro e W2 ⟨⟨v,rfl⟩,(⟨s,hS,hi,hl,hk⟩ | ⟨s,c,hi,hl,hk⟩)⟩
   ·exact ⟨none,_,run_endLoop (P := P) hl (by intro h;cases h),hdone B s _ (Nat.le_refl _) hS (hI.putObj _ hi (by omega) hl rfl) ((World.putObj_heap_other (by omega)).trans hk)⟩
   ·exact ⟨some c,_,run_endLoop (P := P) hl (by intro h;cases h),hstop B c s _ (Nat.le_refl _) ((hIx c).putObj _ hi (by omega) hl rfl) ((World.putObj_heap_other (by omega)).trans hk)⟩
end
theorem parts_any (PA : Option Addr) (n pc : Nat) (ZA : Option Addr) (m zc : Nat) (w : World) : Calls Tryz.prog 60 #[.slice PA n pc,.slice ZA m zc] w fun r w' =>
  r = .returned (.func (.func 120) #[] #[.pointer (some ⟨w.heap.size,0,none⟩),.pointer (some ⟨w.heap.size + 1,0,none⟩)]) ∧ (w.alloc (.cells #[.slice PA n pc] 47)).alloc (.cells #[.slice ZA m zc] 23) = w' := by
 go_enter Tryz.func60,Tryz.ntmps60;go_wp2;go_ret;exact ⟨rfl,rfl⟩
def PtT (ps : List Pr) (zs : List Int) (s : Nat) (vs : Array Value) (s' : Nat) : Prop := s < ps.length ∧ s' = s + 1 ∧ vs = #[.int .i64 (ps.getD s default).k,.int .i64 (zs.getD s 0)]
theorem parts1_hands (ps : List Pr) (zs : List Int) (PA : Option Addr) (pc : Nat) (ZA : Option Addr) (zc sp sz B : Nat) (hn : ps.length ≤ 64) (hzl : zs.length = ps.length) (w0 : World) (I : Nat → World → Prop)
  (hI : ∀ s W,I s W → Row W sp 47 [.slice PA ps.length pc] ∧ Row W sz 23 [.slice ZA ps.length zc] ∧ Rd W B 4 PA ps.length (ps.flatMap Pr.cells) ∧ Rd W B 1 ZA ps.length (ivs zs)) :
  HandsN Fence.wide 8 Tryz.prog 120 #[.pointer (some ⟨sp,0,none⟩),.pointer (some ⟨sz,0,none⟩)] w0 I (fun s vs s' _ => PtT ps zs s vs s') 0 (fun s => s = ps.length) := by
 intro l J Jx W hb hJI hnx hJ hJx hY h0';obtain ⟨n,hnn⟩ : ∃ n,ps.length = n := ⟨_,rfl⟩
 have HI : Hid (∀ s V,J s V → V.cell? ⟨sp,0,none⟩ = some (.slice PA n pc) ∧ V.cell? ⟨sz,0,none⟩ = some (.slice ZA n zc) ∧ (0 < n → ∃ b o b2 o2,PA = some ⟨b,o,none⟩ ∧ ZA = some ⟨b2,o2,none⟩ ∧ ∀ k,k < n → (∀ i v,(ps.getD k default).cells[i]? = some v → V.cell? ⟨b,o + k * 4 + i,none⟩ = some v) ∧ V.cell? ⟨b2,o2 + k,none⟩ = some (.int .i64 (zs.getD k 0)))) := fun s V h => by
  obtain ⟨q1,q2,q3,q4⟩ := hI s V (hJI s V h);rw [hnn] at q1 q2 q3 q4;refine ⟨q1.cell (i := 0) rfl,q2.cell (i := 0) rfl,fun h0 => ?_⟩;obtain ⟨b,o,e1,_,h1⟩ := pr_at (k := 0) q3 hnn h0;obtain ⟨_,b2,o2,e2,_,h2⟩ := i64at q4 h0;exact ⟨b,o,b2,o2,e1,e2,fun k hk => ⟨fun i v hv => h1 k hk i v hv V (Below.refl _ _),h2 k hk V (Below.refl _ _)⟩⟩
 have HY := Lib.hid hY;have HJA := Lib.hid hJ;have H0 := Lib.hid h0';have HNN := Lib.hid hnn;rw [hnn] at hn;refine callsIn_of_wp Tryz.func120 rfl trivial ?_ rfl;obtain ⟨c1,c2,_⟩ := HI.out _ _ h0';have HNX := Lib.hid hnx;clear hI hJI hJ hJx hY h0' hb hnn hzl hnx;simp only [Tryz.ntmps120,List.size_toArray,List.length_cons,List.length_nil,Nat.reduceAdd,Nat.reduceSub,Array.replicate_succ,Array.replicate_zero,List.push_toArray,List.append_toArray,List.nil_append,List.cons_append];gi_wp2;clear c1 c2
 gi_loopw [8] (fun x wr => ∃ k : Nat,k ≤ n ∧ x = .int .i64 k ∧ J k wr) (fun x _ => n - (intOf x).toNat)
 case atStart => exact ⟨0,by omega,rfl,H0.out⟩
 case round =>
  clear H0;obtain ⟨k,hk,rfl,hj⟩ := hrel;obtain ⟨r1,r2,hcc⟩ := HI.out _ _ hj;have HJ := Lib.hid hj
  by_cases hlt : k < n
  ·have k1 : (k : Int) < (n : Int) := by omega
   have k0 : (0 : Int) ≤ (k : Int) := by omega
   obtain ⟨b,o,b2,o2,e1,e2,hc⟩ := hcc (by omega);subst e1 e2;obtain ⟨hc1,hc2⟩ := hc k hlt;have q0 := hc1 0 _ rfl;have q1 := hc1 1 _ rfl;have q2 := hc1 2 _ rfl;have q3 := hc1 3 _ rfl;rw [Nat.add_zero] at q0;have HT : Hid (PtT ps zs k #[.int .i64 (ps.getD k default).k,.int .i64 (zs.getD k 0)] (k + 1)) := ⟨by rw [HNN.out];exact hlt,rfl,rfl⟩;obtain ⟨Z,hZ⟩ : ∃ Z,zs.getD k 0 = Z := ⟨_,rfl⟩;rw [hZ] at hc2 HT;have HZK := Lib.hid hZ;generalize (ps.getD k default).k = X at q0 HT;generalize (ps.getD k default).no = NO at q1;generalize (Gm.pw (ps.getD k default).d : Int) = D at q2;generalize (Gm.pw (ps.getD k default).f : Int) = F at q3;have HZ2 := Lib.hid (And.intro hc2 (And.intro (cell_lt r2) (cell_lt hc2)));have HR2 := Lib.hid r2;clear hcc hc hc1 hc2 hj r1
   gi_wp2_with fail
   rename_i Kz hKz;refine wpIn_region_treeC (fun (q : Nat) (V : World) => (q = 2 → Row V wr.heap.size 56 [.int .i64 X,.int .i64 NO,.int .i64 D,.int .i64 F]) ∧ V.cell? ⟨sz,0,none⟩ = some (.slice (some ⟨b2,o2,none⟩) n zc) ∧ V.cell? ⟨b2,o2 + k,none⟩ = some (.int .i64 Z)) (.take 0 (.take 1 (.take 2 (.take 3 (.take 4 (.take 5 (.take 6 (.one 7 (.take 8 .done))))))))) (by kernel_rfl) (by kernel_rfl) (by kernel_rfl) (by kernel_rfl) (by kernel_rfl) ?_;have hbd : Below wr.heap.size wr (wr.alloc (.cells #[.int .i64 X,.int .i64 NO,.int .i64 D,.int .i64 F] 56)).drew := ((Below.refl _ _).alloc (Nat.le_refl _) _).drew;have hC : Row (wr.alloc (.cells #[.int .i64 X,.int .i64 NO,.int .i64 D,.int .i64 F] 56)).drew wr.heap.size 56 [.int .i64 X,.int .i64 NO,.int .i64 D,.int .i64 F] ∧ (wr.alloc (.cells #[.int .i64 X,.int .i64 NO,.int .i64 D,.int .i64 F] 56)).drew.cell? ⟨sz,0,none⟩ = some (.slice (some ⟨b2,o2,none⟩) n zc) ∧ (wr.alloc (.cells #[.int .i64 X,.int .i64 NO,.int .i64 D,.int .i64 F] 56)).drew.cell? ⟨b2,o2 + k,none⟩ = some (.int .i64 Z) := ⟨Row.fresh _ _ _,(hbd.cell (p := ⟨sz,0,none⟩) HZ2.out.2.1).trans HR2.out,(hbd.cell (p := ⟨b2,o2 + k,none⟩) HZ2.out.2.2).trans HZ2.out.1⟩;have hJ2 : J k (wr.alloc (.cells #[.int .i64 X,.int .i64 NO,.int .i64 D,.int .i64 F] 56)).drew := HJA.out k wr _ none HJ.out (grown_of_below hbd) (fun r e => by cases e);clear q0 q1 q2 q3 r2 hbd;have HWZ : Hid (wr.heap.size = wr.heap.size) := rfl;generalize (wr.alloc (.cells #[.int .i64 X,.int .i64 NO,.int .i64 D,.int .i64 F] 56)).drew = w2 at hC hJ2 ⊢
   iterate 2 (refine wpOTC_take rfl _ (by rfl) (fun _ => rfl) (by intro w' hS;have c1 := hS.2.1;have c2 := hS.2.2;go_simp;try with_reducible rfl) ⟨fun _ => hC.1,hC.2⟩ fun KK hKK => ?_;go_simp;refine hKK _ ?_;clear hKK KK)
   refine wpOTC_take rfl _ (by rfl) (fun _ => rfl) (by intro w' hS;have c0 := (hS.1 rfl).cell (i := 0) rfl;go_simp;try with_reducible rfl) ⟨fun _ => hC.1,hC.2⟩ fun KK hKK => ?_
   iterate 4 (go_simp;refine hKK _ ?_;clear hKK KK;refine wpOTC_take rfl _ (by rfl) (fun _ => rfl) (by intro w' hS;have c1 := hS.2.1;have c2 := hS.2.2;go_simp;try with_reducible rfl) ⟨fun _ => hC.1,hC.2⟩ fun KK hKK => ?_)
   go_simp;refine hKK _ ?_;clear hKK KK;refine wpOTC_one [5,4,3,1] rfl (by rfl) (by kernel_rfl) fun KK hKK => ?_;have hy0 := HY.out k _ _ w2 hJ2 HT.out;obtain ⟨fn,tmps,assign,body,hy,hRR⟩ := hy0;have HRR := Lib.hid hRR;clear hRR;go_simp;refine HRR.out.mono ?_;rintro x W3 (⟨rfl,hJ3⟩ | ⟨rfl,hJ3⟩)
   ·have HJ3 := Lib.hid hJ3
    obtain ⟨t1,t2,t3⟩ := HI.out _ _ hJ3;obtain ⟨b',o',b2',o2',e1,e2,t4⟩ := t3 (by omega)
    cases e1
    cases e2
    have t5 := (t4 k hlt).2;rw [HZK.out] at t5;refine hKK _ _ (fun e9 he => ⟨fun h9 => ?_,t2,t5⟩) ?_
    ·subst h9;simp at he
    clear hKK KK t4 t3;refine wpOTC_take rfl _ (by rfl) (fun _ => rfl) (by intro w' hS;skip;go_simp;try with_reducible rfl) ⟨fun e9 => absurd e9 (by decide),t2,t5⟩ fun KK hKK => ?_;go_simp;refine hKK _ ?_;clear hKK KK;refine wpOTC_done ?_;show Kz _ _;refine hKz _ _ ?_;clear hKz Kz hC hJ2 t5 t1 t2 hJ3
    gi_wp2_with fail
    go_roundw
    case rel => exact ⟨k + 1,by omega,by go_num,HJ3.out⟩
    case measure => simp [intOf];omega
   ·exact absurd hJ3 (HNX.out _ _)
  ·obtain rfl : k = n := by omega
   clear hj r1 r2 hcc
   gi_wp2_with fail
   refine bodyPost_end (results_none' rfl _ _ _ rfl) rfl ?_;exact ⟨⟨_,rfl⟩,.inl ⟨_,HNN.out.symm,HJ.out⟩⟩
def wante (K : Sh.Cst) (e : We) (us : List Int) (p : Pr) : Nat :=
 nze K e.c0 e.tx e.ps p + rws us (shr e.ky.ds e.ky.xs) (chv K e) (sel e.ky.P [p.k] e.ky.P.length) (sel e.ky.P [p.k] e.ky.P.length).length
theorem blame_any (K : Sh.Cst) (e : We) (us : List Int) (zs : List Int) (ZA : Option Addr) (zc : Nat) (w : World) (h : e.ok w w.heap.size) (hacc : AccR e.ky.N e.ky.ds e.ky.P (e.ps.map Pr.k) true us) (h0 : 0 < e.ky.P.length) (hul : us.length = e.ky.P.length) (hz : Zs e zs ZA w w.heap.size)
  (hfit : ∀ j,j < e.ps.length → Gm.pw (zs.getD j 0).toNat = Gm.pw (wante K e us (e.ps.getD j default))) :
  Calls Tryz.prog 15 #[.agg #[.int .i64 0,.slice e.ky.RA e.ky.P.length e.ky.rc,.slice e.ky.OA e.ky.P.length e.ky.oc,.slice e.ky.CA e.ky.N e.ky.cc],.slice e.TA e.tx.length e.tc,.slice e.PA e.ps.length e.pc,.slice ZA e.ps.length zc] w fun r w' => r = .returned (.tuple #[.slice none 0 0,.int .i64 0]) ∧ Below w.heap.size w w' := by
 obtain ⟨s,hs⟩ : ∃ s,w.heap.size = s := ⟨_,rfl⟩;obtain ⟨w0,hw0⟩ : ∃ w0,(((((w.alloc (.cells #[.int .i64 0,.slice e.ky.RA e.ky.P.length e.ky.rc,.slice e.ky.OA e.ky.P.length e.ky.oc,.slice e.ky.CA e.ky.N e.ky.cc] 45)).alloc (.cells #[.slice e.TA e.tx.length e.tc] 57)).alloc (.cells #[.slice e.PA e.ps.length e.pc] 47)).alloc (.cells #[.slice none 0 0] 23)).alloc (.cells #[.int .i64 0] 33)) = w0 := ⟨_,rfl⟩;have hb0 : Below s w w0 := by rw [← hw0,← hs];exact (((((Below.refl _ w).alloc (Nat.le_refl _) _).alloc (by simp) _).alloc (by simp;omega) _).alloc (by simp;omega) _).alloc (by simp;omega) _
 have hs0 : w0.heap.size = s + 5 := by rw [← hw0];simp [hs]
 have hr4 : Row w0 s 45 [.int .i64 0,.slice e.ky.RA e.ky.P.length e.ky.rc,.slice e.ky.OA e.ky.P.length e.ky.oc,.slice e.ky.CA e.ky.N e.ky.cc] := by rw [← hw0];exact ((((Row.fresh' _ _ _ hs).alloc _).alloc _).alloc _).alloc _
 have hr5 : Row w0 (s + 1) 57 [.slice e.TA e.tx.length e.tc] := by rw [← hw0];exact (((Row.fresh' _ _ _ (by simp [hs])).alloc _).alloc _).alloc _
 have hr6 : Row w0 (s + 2) 47 [.slice e.PA e.ps.length e.pc] := by rw [← hw0];exact ((Row.fresh' _ _ _ (by simp [hs])).alloc _).alloc _
 have hr8 : Row w0 (s + 3) 23 [.slice none 0 0] := by rw [← hw0];exact (Row.fresh' _ _ _ (by simp [hs])).alloc _
 have hr9 : Row w0 (s + 4) 33 [.int .i64 0] := by rw [← hw0];exact Row.fresh' _ _ _ (by simp [hs])
 have HCK : Hid (Calls Tryz.prog 56 #[.agg #[.int .i64 0,.slice e.ky.RA e.ky.P.length e.ky.rc,.slice e.ky.OA e.ky.P.length e.ky.oc,.slice e.ky.CA e.ky.N e.ky.cc],.slice e.TA e.tx.length e.tc,.slice e.PA e.ps.length e.pc,.slice ZA e.ps.length zc] w0 fun r w' => r = .returned (.tuple #[.int .i64 (chv K e),.int .i64 0]) ∧ Below w0.heap.size w0 w') :=
  ccheck_any K e us zs ZA zc w0 (h.go hs hb0) hacc (by rw [← hs] at hb0;exact (hz.below hb0).more hb0.size)
 have HFT : Hid (∀ W j,Below s w W → j < e.ps.length → Calls Tryz.prog 61 #[.agg #[.int .i64 0,.slice e.ky.RA e.ky.P.length e.ky.rc,.slice e.ky.OA e.ky.P.length e.ky.oc,.slice e.ky.CA e.ky.N e.ky.cc],.slice e.TA e.tx.length e.tc,.slice e.PA e.ps.length e.pc,.int .i64 (e.ps.getD j default).k,.int .i64 (zs.getD j 0)] W fun r w' => r = .returned (.tuple #[.bool true,.int .i64 0]) ∧ Below W.heap.size W w') := fun W j hW hj => by
  have hzj := hz.at hj;exact pfits_any K e us j (zs.getD j 0) W (h.go hs hW) hacc h0 hj hzj.1 hzj.2 hul (hfit j hj)
 have HRD : Hid (∀ W,Below s w W → Rd W s 4 e.PA e.ps.length (e.ps.flatMap Pr.cells) ∧ Rd W s 1 ZA e.ps.length (ivs zs)) := fun W hW => by
  rw [← hs] at hW ⊢;exact ⟨h.ps.below hW,hz.rd.below hW⟩
 have HPL : Hid (e.ps.length ≤ 64 ∧ zs.length = e.ps.length) := ⟨h.pl,hz.len⟩;have HB0 := Lib.hid (And.intro hb0 (And.intro hr4 (And.intro hr5 (And.intro hr6 (And.intro hr8 (And.intro hr9 hs0))))));have HW0 := Lib.hid hw0;have HS := Lib.hid hs;generalize chv K e = CHV at HCK;clear h hacc h0 hul hz hfit hb0 hs0 hr4 hr5 hr6 hr8 hr9 hw0 hs;refine (callsIn_wide (n := 9)).1 ?_;refine callsIn_of_wp_marks Tryz.func15 rfl trivial ?_ rfl;simp only [Tryz.ntmps15,List.size_toArray,List.length_cons,List.length_nil,Nat.reduceAdd,Nat.reduceSub,Array.replicate_succ,Array.replicate_zero,List.push_toArray,List.append_toArray,List.nil_append,List.cons_append]
 gi_wp2_with fail
 rw [HW0.out,HS.out];refine ⟨trivial,(callsIn_wide.2 HCK.out).mono ?_⟩;rintro r w1 ⟨rfl,hb1⟩;rw [HB0.out.2.2.2.2.2.2] at hb1;have r9 := HB0.out.2.2.2.2.2.1.below hb1 (by omega);have hid9 := r9.idem (i := 0) rfl;have c9 := r9.cell (i := 0) rfl;have f9 := r9.fz 0;have r6 := HB0.out.2.2.2.1.below hb1 (by omega);have c6 := r6.cell (i := 0) rfl;obtain ⟨b10,hb10⟩ : ∃ b,w1.heap.size = b := ⟨_,rfl⟩;have hl10 : s + 5 ≤ b10 := by rw [← hb10];have := hb1.size;rw [HB0.out.2.2.2.2.2.2] at this;exact this
 have hl10a : s + 2 < b10 := by omega
 have hl10b : s + 4 < b10 := by omega
 have hl10c : s + 2 < b10 + 1 := by omega
 have H1 := Lib.hid hb1;clear hb1 r9 r6
 gi_wp2_with fail
 refine ⟨trivial,(callsIn_wide.2 (parts_any _ _ _ _ _ _ _)).mono ?_⟩;rintro r w5 ⟨rfl,hw5⟩;simp only [World.size_alloc,hb10]
 have hb5 : Below b10 w1 w5 := by
  rw [← hw5,← hb10];exact ((((Below.refl _ w1).alloc (Nat.le_refl _) _).alloc (by simp) _).alloc (by simp;omega) _).alloc (by simp;omega) _
 have hs5 : w5.heap.size = b10 + 1 + 1 + 1 + 1 := by rw [← hw5];simp [hb10]
 have hr10 : Row w5 b10 136 [.slice none 0 0] := by rw [← hw5];exact (((Row.fresh' _ _ _ hb10).alloc _).alloc _).alloc _
 have hsp : Row w5 (b10 + 1 + 1) 47 [.slice e.PA e.ps.length e.pc] := by rw [← hw5];exact (Row.fresh' _ _ _ (by simp [hb10])).alloc _
 have hsz : Row w5 (b10 + 1 + 1 + 1) 23 [.slice ZA e.ps.length zc] := by rw [← hw5];exact Row.fresh' _ _ _ (by simp [hb10])
 have hb15 : Below (s + 5) w0 w5 := H1.out.trans (hb5.mono (by omega))
 have H5 : Hid (Below s w w5 ∧ Row w5 s 45 [.int .i64 0,.slice e.ky.RA e.ky.P.length e.ky.rc,.slice e.ky.OA e.ky.P.length e.ky.oc,.slice e.ky.CA e.ky.N e.ky.cc] ∧ Row w5 (s + 1) 57 [.slice e.TA e.tx.length e.tc] ∧ Row w5 (s + 2) 47 [.slice e.PA e.ps.length e.pc] ∧ Row w5 (s + 3) 23 [.slice none 0 0] ∧ Row w5 (s + 4) 33 [.int .i64 0] ∧ Row w5 b10 136 [.slice none 0 0] ∧ Row w5 (b10 + 1 + 1) 47 [.slice e.PA e.ps.length e.pc] ∧ Row w5 (b10 + 1 + 1 + 1) 23 [.slice ZA e.ps.length zc] ∧ w5.heap.size = b10 + 1 + 1 + 1 + 1 ∧ s + 5 ≤ b10) :=
  ⟨HB0.out.1.trans (hb15.mono (by omega)),HB0.out.2.1.below hb15 (by omega),HB0.out.2.2.1.below hb15 (by omega),HB0.out.2.2.2.1.below hb15 (by omega),HB0.out.2.2.2.2.1.below hb15 (by omega),HB0.out.2.2.2.2.2.1.below hb15 (by omega),hr10,hsp,hsz,hs5,hl10⟩
 clear hb5 hr10 hsp hsz hb15 hw5 H1 hb10 hid9 c9 f9 c6 hl10a hl10b hl10c
 gi_wp2_with fail
 refine wpIn_range_handsN (F := Fence.wide) (σ := Nat) rfl (by omega) (gf := 120) (lb := #[.pointer (some ⟨b10 + 1 + 1,0,none⟩),.pointer (some ⟨b10 + 1 + 1 + 1,0,none⟩)]) (by rfl) trivial (enters_of Tryz.func120 (by kernel_rfl) rfl)
  (fun (q : Nat) V => Below w5.heap.size w5 V) (fun _ (_ : Nat) W => False)
  (fun (q : Nat) vs q' _ => PtT e.ps zs q vs q') 0 (fun q => q = e.ps.length) w5 (Below.refl _ _) (fun _ _ _ h => h) ?hsq
  ?oi (fun _ _ _ _ _ h _ _ => h) (Below.refl _ _) (fun _ _ _ _ h => by rw [h.2.2];rfl)
  (fun (q : Nat) a' V => (∃ j : Nat,q = j + 1 ∧ j < e.ps.length ∧ Below w5.heap.size w5 V ∧ a'.tmps.getD 12 undef = .int .i64 (e.ps.getD j default).k ∧ a'.tmps.getD 13 undef = .int .i64 (zs.getD j 0)) ∧ a'.tmps.size = 52 ∧ a'.tmps.getD 4 undef = .pointer (some ⟨s,0,none⟩) ∧ a'.tmps.getD 5 undef = .pointer (some ⟨s + 1,0,none⟩) ∧ a'.tmps.getD 6 undef = .pointer (some ⟨s + 2,0,none⟩) ∧ a'.defers = []) ?oa ?assign ?body ?done ?stop
 case hsq =>
  refine parts1_hands e.ps zs e.PA e.pc ZA zc (b10 + 1 + 1) (b10 + 1 + 1 + 1) s HPL.out.1 HPL.out.2 w5 _ ?_;intro q V hV;have h2 := HRD.out V (H5.out.1.trans (hV.mono (by omega)));exact ⟨H5.out.2.2.2.2.2.2.2.1.below hV (by omega),H5.out.2.2.2.2.2.2.2.2.1.below hV (by omega),h2.1,h2.2⟩
 case oi =>
  intro q V V' row h1 hg hr;exact h1.grown hg h1.size (fun k e9 => (hr k e9).1)
 case oa =>
  rintro q a' _ V V' row ⟨⟨j,p1,p2,p3,p4⟩,p7⟩ hg hr;exact ⟨⟨j,p1,p2,p3.grown hg p3.size (fun k e9 => (hr k e9).1),p4⟩,p7⟩
 case assign =>
  rintro l q vs q' V K hI ⟨h1,rfl,rfl⟩ hK;have HK := Lib.hid hK;rw [show ∀ (a b : Value),(#[31,32] : Array Tmp).zip #[a,b] = #[(31,a),(32,b)] from fun a b => by simp];clear hK;generalize hX1 : (e.ps.getD q default).k = X1 at HK ⊢;generalize hX2 : zs.getD q 0 = X2 at HK ⊢;gi_wp2;refine HK.out _ _ (KeepsFrom.refl _ _) ⟨⟨q,rfl,h1,hI,?_,?_⟩,by rfl,by rfl,by rfl,by rfl,by rfl⟩
  ·rw [hX1] <;> rfl
  ·rw [hX2] <;> rfl
 case body =>
  rintro l q a' V hl ⟨⟨j,rfl,hj,hV,e12,e13⟩,h52,e4,e5,e6,hdf⟩;obtain ⟨T2,ds2⟩ := a';dsimp only at h52 e4 e5 e6 e12 e13 hdf;subst hdf;obtain ⟨v3,hT3,hv⟩ := arr_fun T2 52 h52;have e' : ((List.range 52).map v3).toArray = #[v3 0,v3 1,v3 2,v3 3,v3 4,v3 5,v3 6,v3 7,v3 8,v3 9,v3 10,v3 11,v3 12,v3 13,v3 14,v3 15,v3 16,v3 17,v3 18,v3 19,v3 20,v3 21,v3 22,v3 23,v3 24,v3 25,v3 26,v3 27,v3 28,v3 29,v3 30,v3 31,v3 32,v3 33,v3 34,v3 35,v3 36,v3 37,v3 38,v3 39,v3 40,v3 41,v3 42,v3 43,v3 44,v3 45,v3 46,v3 47,v3 48,v3 49,v3 50,v3 51] := rfl;rw [show v3 4 = _ from (hv 4).symm.trans e4,show v3 5 = _ from (hv 5).symm.trans e5,show v3 6 = _ from (hv 6).symm.trans e6,show v3 12 = _ from (hv 12).symm.trans e12,show v3 13 = _ from (hv 13).symm.trans e13] at e';rw [hT3,e'];have HF := Lib.hid (HFT.out V j (H5.out.1.trans (hV.mono (by have := H5.out.2.2.2.2.2.2.2.2.2;omega))) hj);have r4 := H5.out.2.1.below hV (by have := H5.out.2.2.2.2.2.2.2.2.2;omega);have r5 := H5.out.2.2.1.below hV (by have := H5.out.2.2.2.2.2.2.2.2.2;omega);have r6 := H5.out.2.2.2.1.below hV (by have := H5.out.2.2.2.2.2.2.2.2.2;omega);have k0 := r4.cell (i := 0) rfl;have k1 := r4.cell (i := 1) rfl;have k2 := r4.cell (i := 2) rfl;have k3 := r4.cell (i := 3) rfl;have k5 := r5.cell (i := 0) rfl;have k6 := r6.cell (i := 0) rfl;have HV := Lib.hid hV;generalize (e.ps.getD j default).k = X1 at HF ⊢;generalize zs.getD j 0 = X2 at HF ⊢;clear hT3 hv e' e4 e5 e6 e12 e13 h52 hV r4 r5 r6
  gi_wp2_with fail
  refine ⟨trivial,(CallsIn.inRound l (callsIn_wide.2 HF.out)).mono ?_⟩;rintro r9 V2 ⟨rfl,hb⟩;have HB2 := Lib.hid (And.intro hb (HV.out.trans (hb.mono HV.out.size)));clear hb k0 k1 k2 k3 k5 k6
  gi_wp2_with fail
  exact ⟨(Tch.of_bel (ex := fun _ => False) HB2.out.1).keepsFrom (fun _ h => h.elim),HB2.out.2⟩
 case done =>
  rintro D q V hD hq hV hd;have r10 := H5.out.2.2.2.2.2.2.1.below hV (by have := H5.out.2.2.2.2.2.2.2.2.2;omega);have r8 := H5.out.2.2.2.2.1.below hV (by have := H5.out.2.2.2.2.2.2.2.2.2;omega);have r9 := H5.out.2.2.2.2.2.1.below hV (by have := H5.out.2.2.2.2.2.2.2.2.2;omega);have c10 := r10.cell (i := 0) rfl;have c8 := r8.cell (i := 0) rfl;have f8 := r8.fz 0;have c9 := r9.cell (i := 0) rfl;have f9 := r9.fz 0;have hid8 := r8.idem (i := 0) rfl;have hid9 := r9.idem (i := 0) rfl;have HV := Lib.hid (And.intro hV (And.intro hD (And.intro hd (And.intro r8 r9))));clear hV hD hd r8 r9 r10 hq
  gi_wp2_with fail
  have hD := HV.out.2.1;have hl := H5.out.2.2.2.2.2.2.2.2.2;have hm9 : Marks (s + 5) V.heap.size [{ target := .collected D,args := #[] }] V := (Marks.nil (s + 5) (s + 5) V).cons (by omega) (by omega) (heap_lt HV.out.2.2.1) HV.out.2.2.1;refine leaves_marks (C := V.heap.size) _ _ hm9 fun w' hb' => ?_;refine ⟨_,results_cc rfl _ _ (s + 3) (s + 4) (.slice none 0 0) (.int .i64 0) (by rfl) (by rfl) ((hb'.cell (p := ⟨s + 3,0,none⟩) (by show s + 3 < s + 5;omega)).trans (HV.out.2.2.2.1.cell (i := 0) rfl)) ((hb'.cell (p := ⟨s + 4,0,none⟩) (by show s + 4 < s + 5;omega)).trans (HV.out.2.2.2.2.cell (i := 0) rfl)) (by kernel_rfl) (by kernel_rfl),rfl,?_⟩;rw [HS.out];exact (H5.out.1.trans (HV.out.1.mono (by omega))).trans (hb'.mono (by omega))
 case stop =>
  rintro D c q W hD h hd;exact h.elim
end Go.Proofs.YtifejdpffkeniaaGreatDoor
namespace Go.Proofs.YtifejdpffkeniaaGreatDoor
open Go.RowKit
def enc2 (z1 z2 : Nat) : List Int := [3] ++ [(2 : Int)] ++ (1 :: Cd.numL (2 * z1)) ++ (1 :: Cd.numL (2 * z2))
theorem numL_two : Cd.numL 2 = [(2 : Int)] := Cd.numL_small (by omega)
theorem grew_cell {base : Nat} {w w' : World} {v v' : Value} {n : Nat} {xs ys : List Int} (h : Grew base w v n xs w' v' ys) (hv : ∀ j,v.ownBlock = some j → base ≤ j) {p : Addr} (hp : p.block < base) (hs : base ≤ w.heap.size) : w'.cell? p = w.cell? p :=
 World.cell?_of_block (h.grow.block p.block (by omega) (fun e => by have := hv _ e.symm;omega))
theorem grew_keep {base : Nat} {w w' : World} {v v' : Value} {n H : Nat} {xs ys : List Int} (h : Grew base w v n xs w' v' ys) (hv : ∀ j,v.ownBlock = some j → base ≤ j) (hH : some H ≠ v.ownBlock) (hlt : H < w.heap.size) (hs : base ≤ w.heap.size) :
  ∀ p : Addr,(p.block < base ∨ p.block = H) → w'.cell? p = w.cell? p := fun p hp =>
 World.cell?_of_block (h.grow.block p.block (by rcases hp with hp | hp <;> omega) (fun e => by
  rcases hp with hp | hp
  ·have := hv _ e.symm;omega
  ·rw [hp] at e;exact hH e))
theorem Grew.pre {base : Nat} {w w1 w' : World} {v v' : Value} {n : Nat} {xs ys : List Int} (h : Grew base w1 v n xs w' v' ys) (hp : w.grownBy w1 v.ownBlock) : Grew base w v n xs w' v' ys :=
 ⟨h.own,grown_then hp h.grow (fun j hj => .inr hj),fun j hj => by
  rcases h.blk j hj with h1 | h1
  ·exact .inl (Nat.le_trans hp.size h1)
  ·exact .inr h1⟩
theorem w3_two (base : Nat) (g c gw : Nat) (z1 z2 : Nat) (w : World) (hz1 : z1 < 4611686018427387904) (hz2 : z2 < 4611686018427387904) (hbase : base ≤ w.heap.size) (hgw : gw + 1 < base) (hg : g < base)
  (hr : Rd w base 4 (some ⟨g,0,none⟩) 2 (intCells [(z1 : Int),(z2 : Int)])) (hW : Wr w gw) :
  Calls Tryz.prog 139 #[.slice none 0 0,listV (some ⟨g,0,none⟩) 2 c,.pointer (some ⟨gw + 1,0,none⟩)] w (NumPost base w (.slice none 0 0) 0 [] (enc2 z1 z2)) := by
 obtain ⟨i0,hi,hz0',hz1',hz2'⟩ := info_parts infoU8c
 have hbox : (w.alloc (.cells #[.int .i64 3,.int .i64 0,.string ⟨#[]⟩,.slice (some ⟨g,0,none⟩) 2 c] 107)).cell? ⟨w.heap.size,3,none⟩ = some (.slice (some ⟨g,0,none⟩) 2 c) := by
  rw [cell_of_row _ w.heap.size 3 _ _ _ (heap_alloc_new w _)];rfl
 have hown : w.ownsRow base 5 1 (.slice none 0 0) 0 (([] : List Int).map (Value.int .u8)) := World.ownsRow_nil _ _ _ _;have hne : some w.heap.size ≠ (Value.slice none 0 0).ownBlock := by simp [Value.ownBlock]
 have HW := Lib.hid hW;have HR := Lib.hid hr;clear hW hr;unfold listV;go_enter Tryz.func139,Tryz.ntmps139;go_wp2
 go_region_held3 (fun w' => w'.cell? ⟨w.heap.size,3,none⟩ = some (.slice (some ⟨g,0,none⟩) 2 c))
  (first
   | (go_keep;done)
   | exact hq1
   | exact (hG.grow.cell_far ⟨w.heap.size,3,none⟩ hlt1 hne1).trans hq1)
  ((first | (go_at_call 136;(refine (numeral_any base v1 1 [3] 2 w1 (by simpa using hown1) (by omega) (by omega) (by omega)).mono ?_);rintro e w3 ⟨v3,rfl,hG⟩) | (refine wp_atc (by rfl) (wp_append_rd _ (.tmp 8) (.tmp 9) 57 (by rfl) base 5 i0 _ 1 1 Tryz.underlying57 hi hz0' hz1' hz2' rfl (by omega) (.slice none 0 0) 0 _ (by rfl) ((hown.alloc _).alloc _).drew _ _ 1 _ [.int .u8 3] (by rfl) (rd_one _ _ _ _ (by simp)).drew (fun u hu => by simp at hu;subst hu;rfl) (by unfold maxLen;omega) (by omega) (by simp;omega) ?_);intro v1 w1 hown1 hg1 hb1;have hq1 := (hg1.cell_far ⟨w.heap.size,3,none⟩ (by simp;omega) hne).trans (cell_box2 w _ _ hbox);have hlt1 : w.heap.size < w1.heap.size := (by have := hg1.size;simp at this;omega);have hne1 := own_ne hne hb1 (by simp;omega))))
 have hG0 : Grew base w (.slice none 0 0) 0 [] w1 v1 [3] := Grew.mk1 (grown_drew (grown_alloc (World.grownBy_alloc w _ _) _)) hown1 hg1 hb1;have hG2 := hG0.then hG;rw [numL_two] at hG2;have hq3 := (hG.grow.cell_far ⟨w.heap.size,3,none⟩ hlt1 hne1).trans hq1;clear hG0 hG hown1 hg1 hb1 hq1 hne1 hlt1 hbox hown hne;go_wp2;refine wp_loop_rounds 3 ?_;rw [rounds_succ];have hk0 : ∀ p : Addr,p.block < base → w3.cell? p = w.cell? p := fun p hp => grew_cell hG2 (fun j h => by cases h) hp hbase;have hw0 := HW.out.keep (w' := w3) (fun p hp => hk0 p (by omega));have hr0 := HR.out.keep (w' := w3) hk0;obtain ⟨hr0b,hr0o,e0,_,hr0c⟩ := hr0.2 (by omega)
 injection e0 with e0
 injection e0 with e01 e02
 subst e01;subst e02;have p0 : w3.cell? ⟨g,0,none⟩ = some (.int .i64 1) := hr0c 0 _ rfl;have p1 : w3.cell? ⟨g,1,none⟩ = some (.int .i64 z1) := hr0c 1 _ rfl;have p2 : w3.cell? ⟨g,2,none⟩ = some (.string ⟨#[]⟩) := hr0c 2 _ rfl;have p3 : w3.cell? ⟨g,3,none⟩ = some (.slice none 0 0) := hr0c 3 _ rfl;have hsz0 : base ≤ w3.heap.size := Nat.le_trans hbase hG2.grow.size;have s1 : (w3.alloc (.cells #[.int .i64 1,.int .i64 z1,.string ⟨#[]⟩,.slice none 0 0] 107)).cell? ⟨gw + 1,0,none⟩ = some (.pointer (some ⟨gw,0,none⟩)) := by rw [World.cell?_alloc_lt _ _ _ (by show gw + 1 < _;omega)];exact hw0.c4
 have s2 : (w3.alloc (.cells #[.int .i64 1,.int .i64 z1,.string ⟨#[]⟩,.slice none 0 0] 107)).cell? ⟨gw,1,none⟩ = some (.func (.func 135) #[] #[]) := by rw [World.cell?_alloc_lt _ _ _ (by show gw < _;omega)];exact hw0.c1
 have s3 : (w3.alloc (.cells #[.int .i64 1,.int .i64 z1,.string ⟨#[]⟩,.slice none 0 0] 107)).cell? ⟨w3.heap.size,0,none⟩ = some (.int .i64 1) := by rw [cell_of_row _ w3.heap.size 0 _ _ _ (heap_alloc_new w3 _)];rfl
 have s4 : (w3.alloc (.cells #[.int .i64 1,.int .i64 z1,.string ⟨#[]⟩,.slice none 0 0] 107)).cell? ⟨w3.heap.size,1,none⟩ = some (.int .i64 z1) := by rw [cell_of_row _ w3.heap.size 1 _ _ _ (heap_alloc_new w3 _)];rfl
 have s5 : (w3.alloc (.cells #[.int .i64 1,.int .i64 z1,.string ⟨#[]⟩,.slice none 0 0] 107)).cell? ⟨w3.heap.size,2,none⟩ = some (.string ⟨#[]⟩) := by rw [cell_of_row _ w3.heap.size 2 _ _ _ (heap_alloc_new w3 _)];rfl
 have s6 : (w3.alloc (.cells #[.int .i64 1,.int .i64 z1,.string ⟨#[]⟩,.slice none 0 0] 107)).cell? ⟨w3.heap.size,3,none⟩ = some (.slice none 0 0) := by rw [cell_of_row _ w3.heap.size 3 _ _ _ (heap_alloc_new w3 _)];rfl
 have hxn : some w3.heap.size ≠ v3.ownBlock := own_far hG2.own;have hxb : ∀ j,v3.ownBlock = some j → base ≤ j := fun j hj => (hG2.own.lt j hj).1;clear hk0 hw0 hr0 hr0c;go_wp2
 go_region_held3 (fun w' => w'.cell? ⟨gw + 1,0,none⟩ = some (.pointer (some ⟨gw,0,none⟩)) ∧ w'.cell? ⟨gw,1,none⟩ = some (.func (.func 135) #[] #[]) ∧ w'.cell? ⟨w3.heap.size,0,none⟩ = some (.int .i64 1) ∧ w'.cell? ⟨w3.heap.size,1,none⟩ = some (.int .i64 z1) ∧ w'.cell? ⟨w3.heap.size,2,none⟩ = some (.string ⟨#[]⟩) ∧ w'.cell? ⟨w3.heap.size,3,none⟩ = some (.slice none 0 0))
  (first
   | (go_keep;done)
   | (go_split_ands
      refine ⟨?_,?_,?_,?_,?_,?_⟩
      ·exact (hk4 ⟨gw + 1,0,none⟩ (.inl (by show gw + 1 < base;omega))).trans s1
      ·exact (hk4 ⟨gw,1,none⟩ (.inl (by show gw < base;omega))).trans s2
      ·exact (hk4 ⟨w3.heap.size,0,none⟩ (.inr rfl)).trans s3
      ·exact (hk4 ⟨w3.heap.size,1,none⟩ (.inr rfl)).trans s4
      ·exact (hk4 ⟨w3.heap.size,2,none⟩ (.inr rfl)).trans s5
      ·exact (hk4 ⟨w3.heap.size,3,none⟩ (.inr rfl)).trans s6))
  ((go_at_call 135;(refine (w1_any base v3 _ _ z1 _ (hG2.own.alloc _).drew hz1 (by simp) (by simp;omega)).mono ?_);rintro e w4 ⟨v4,rfl,hG4⟩;have hk4 := grew_keep hG4 hxb hxn (by simp) (by simp;omega)))
 have hG2 := hG2.then (Grew.pre hG4 (grown_drew (World.grownBy_alloc w3 _ _)));clear hG4 hk4 p0 p1 p2 p3 s1 s2 s3 s4 s5 s6 hxn hxb;go_wp2;rw [rounds_succ];have hk1 : ∀ p : Addr,p.block < base → w4.cell? p = w.cell? p := fun p hp => grew_cell hG2 (fun j h => by cases h) hp hbase;have hw1 := HW.out.keep (w' := w4) (fun p hp => hk1 p (by omega));have hr1 := HR.out.keep (w' := w4) hk1;obtain ⟨hr1b,hr1o,e1,_,hr1c⟩ := hr1.2 (by omega)
 injection e1 with e1
 injection e1 with e11 e12
 subst e11;subst e12;have p0 : w4.cell? ⟨g,4,none⟩ = some (.int .i64 1) := hr1c 4 _ rfl;have p1 : w4.cell? ⟨g,5,none⟩ = some (.int .i64 z2) := hr1c 5 _ rfl;have p2 : w4.cell? ⟨g,6,none⟩ = some (.string ⟨#[]⟩) := hr1c 6 _ rfl;have p3 : w4.cell? ⟨g,7,none⟩ = some (.slice none 0 0) := hr1c 7 _ rfl;have hsz1 : base ≤ w4.heap.size := Nat.le_trans hbase hG2.grow.size;have s1 : (w4.alloc (.cells #[.int .i64 1,.int .i64 z2,.string ⟨#[]⟩,.slice none 0 0] 107)).cell? ⟨gw + 1,0,none⟩ = some (.pointer (some ⟨gw,0,none⟩)) := by rw [World.cell?_alloc_lt _ _ _ (by show gw + 1 < _;omega)];exact hw1.c4
 have s2 : (w4.alloc (.cells #[.int .i64 1,.int .i64 z2,.string ⟨#[]⟩,.slice none 0 0] 107)).cell? ⟨gw,1,none⟩ = some (.func (.func 135) #[] #[]) := by rw [World.cell?_alloc_lt _ _ _ (by show gw < _;omega)];exact hw1.c1
 have s3 : (w4.alloc (.cells #[.int .i64 1,.int .i64 z2,.string ⟨#[]⟩,.slice none 0 0] 107)).cell? ⟨w4.heap.size,0,none⟩ = some (.int .i64 1) := by rw [cell_of_row _ w4.heap.size 0 _ _ _ (heap_alloc_new w4 _)];rfl
 have s4 : (w4.alloc (.cells #[.int .i64 1,.int .i64 z2,.string ⟨#[]⟩,.slice none 0 0] 107)).cell? ⟨w4.heap.size,1,none⟩ = some (.int .i64 z2) := by rw [cell_of_row _ w4.heap.size 1 _ _ _ (heap_alloc_new w4 _)];rfl
 have s5 : (w4.alloc (.cells #[.int .i64 1,.int .i64 z2,.string ⟨#[]⟩,.slice none 0 0] 107)).cell? ⟨w4.heap.size,2,none⟩ = some (.string ⟨#[]⟩) := by rw [cell_of_row _ w4.heap.size 2 _ _ _ (heap_alloc_new w4 _)];rfl
 have s6 : (w4.alloc (.cells #[.int .i64 1,.int .i64 z2,.string ⟨#[]⟩,.slice none 0 0] 107)).cell? ⟨w4.heap.size,3,none⟩ = some (.slice none 0 0) := by rw [cell_of_row _ w4.heap.size 3 _ _ _ (heap_alloc_new w4 _)];rfl
 have hxn : some w4.heap.size ≠ v4.ownBlock := own_far hG2.own;have hxb : ∀ j,v4.ownBlock = some j → base ≤ j := fun j hj => (hG2.own.lt j hj).1;clear hk1 hw1 hr1 hr1c;go_wp2
 go_region_held3 (fun w' => w'.cell? ⟨gw + 1,0,none⟩ = some (.pointer (some ⟨gw,0,none⟩)) ∧ w'.cell? ⟨gw,1,none⟩ = some (.func (.func 135) #[] #[]) ∧ w'.cell? ⟨w4.heap.size,0,none⟩ = some (.int .i64 1) ∧ w'.cell? ⟨w4.heap.size,1,none⟩ = some (.int .i64 z2) ∧ w'.cell? ⟨w4.heap.size,2,none⟩ = some (.string ⟨#[]⟩) ∧ w'.cell? ⟨w4.heap.size,3,none⟩ = some (.slice none 0 0))
  (first
   | (go_keep;done)
   | (go_split_ands
      refine ⟨?_,?_,?_,?_,?_,?_⟩
      ·exact (hk4 ⟨gw + 1,0,none⟩ (.inl (by show gw + 1 < base;omega))).trans s1
      ·exact (hk4 ⟨gw,1,none⟩ (.inl (by show gw < base;omega))).trans s2
      ·exact (hk4 ⟨w4.heap.size,0,none⟩ (.inr rfl)).trans s3
      ·exact (hk4 ⟨w4.heap.size,1,none⟩ (.inr rfl)).trans s4
      ·exact (hk4 ⟨w4.heap.size,2,none⟩ (.inr rfl)).trans s5
      ·exact (hk4 ⟨w4.heap.size,3,none⟩ (.inr rfl)).trans s6))
  ((go_at_call 135;(refine (w1_any base v4 _ _ z2 _ (hG2.own.alloc _).drew hz2 (by have := Cd.numL_ten (u := 2 * z1) (by omega);simp;omega) (by simp;omega)).mono ?_);rintro e w5 ⟨v5,rfl,hG4⟩;have hk4 := grew_keep hG4 hxb hxn (by simp) (by simp;omega)))
 have hG2 := hG2.then (Grew.pre hG4 (grown_drew (World.grownBy_alloc w4 _ _)));clear hG4 hk4 p0 p1 p2 p3 s1 s2 s3 s4 s5 s6 hxn hxb;go_wp2;rw [rounds_succ];go_wp2;go_ret;exact ⟨v5,rfl,hG2⟩
def EncPost (bs : List Int) (w : World) (e : Ending) (w' : World) : Prop :=
 ∃ (A : Option Addr) (c : Nat),e = .returned (.tuple #[.slice A bs.length c,.int .i64 0]) ∧ Rd w' w'.heap.size 1 A bs.length (bs.map (Value.int .u8)) ∧ bs.length ≤ c ∧ c ≤ maxLen ∧ Below w.heap.size w w'
theorem own_slice2 {w : World} {base : Nat} {e : TypeId} {v : Value} {size n : Nat} {xs : List Value} (h : w.ownsRow base e size v n xs) : ∃ A c,v = .slice A n c ∧ Rd w w.heap.size size A n xs ∧ n ≤ c ∧ c ≤ maxLen := by
 have h0 := h
 rcases h.2 with ⟨rfl,rfl⟩ | ⟨g,cap,cur,rfl,_,_,h1,h2,_⟩
 ·exact ⟨_,_,rfl,⟨h0.1,fun h => absurd h (by omega)⟩,Nat.le_refl _,Nat.zero_le _⟩
 ·exact ⟨_,_,rfl,Rd.of_own h0,h1,h2⟩
theorem encode_two (g c : Nat) (z1 z2 : Nat) (w : World) (hz1 : z1 < 4611686018427387904) (hz2 : z2 < 4611686018427387904)
  (hr : Rd w w.heap.size 4 (some ⟨g,0,none⟩) 2 (intCells [(z1 : Int),(z2 : Int)])) (hg : g < w.heap.size) :
  Calls Tryz.prog 42 #[listV (some ⟨g,0,none⟩) 2 c] w (EncPost (enc2 z1 z2) w) := by
 have HR := Lib.hid hr;have hR := Lib.hid ((hr.alloc (Nat.le_refl _) (.cells #[.int .i64 3,.int .i64 0,.string ⟨#[]⟩,.slice (some ⟨g,0,none⟩) 2 c] 107)).more (B' := w.heap.size + 1) (by omega));clear hr;have hc3 := check_two g c z1 z2;unfold listV at hc3 ⊢;go_enter Tryz.func42,Tryz.ntmps42
 go_wp2_with fail
 refine (hc3 _ (by rw [World.size_alloc];exact hR.out)).mono ?_;rintro e w1 ⟨rfl,hb1⟩;have hB1 := ((Below.refl w.heap.size w).alloc (Nat.le_refl _) _).trans (hb1.mono (by simp));have b0 : w1.cell? ⟨w.heap.size,0,none⟩ = some (.int .i64 3) := (hb1.cell (p := ⟨w.heap.size,0,none⟩) (by simp)).trans (alloc_cell0 w _ _ _);have b1 : w1.cell? ⟨w.heap.size,1,none⟩ = some (.int .i64 0) := (hb1.cell (p := ⟨w.heap.size,1,none⟩) (by simp)).trans (alloc_cell1 w _ _ _ _);have b2 : w1.cell? ⟨w.heap.size,2,none⟩ = some (.string ⟨#[]⟩) := (hb1.cell (p := ⟨w.heap.size,2,none⟩) (by simp)).trans (by rw [cell_of_row _ w.heap.size 2 _ _ _ (heap_alloc_new w _)];rfl);have b3 : w1.cell? ⟨w.heap.size,3,none⟩ = some (.slice (some ⟨g,0,none⟩) 2 c) := (hb1.cell (p := ⟨w.heap.size,3,none⟩) (by simp)).trans (by rw [cell_of_row _ w.heap.size 3 _ _ _ (heap_alloc_new w _)];rfl);have hs1 : w.heap.size < w1.heap.size := by have := hb1.size;simp at this;omega
 clear hb1 hc3;go_wp2
 go_region_with ((first | (go_at_call 98;(refine (writer_any _).mono ?_);rintro e w2 ⟨rfl,hW,hb2,hsz2⟩;have c3 : w2.cell? ⟨w1.heap.size,3,none⟩ = some (.func (.func 139) #[] #[.pointer (some ⟨w1.heap.size + 1,0,none⟩)]) := hW.c3;have d0 := (hb2.cell (p := ⟨w.heap.size,0,none⟩) hs1).trans b0;have d1 := (hb2.cell (p := ⟨w.heap.size,1,none⟩) hs1).trans b1;have d2 := (hb2.cell (p := ⟨w.heap.size,2,none⟩) hs1).trans b2;have d3 := (hb2.cell (p := ⟨w.heap.size,3,none⟩) hs1).trans b3;have hs2 : w.heap.size < w2.heap.size := (by have := hb2.size;simp at this;omega)) | (go_at_call 139;(refine (w3_two w2.heap.size g c w1.heap.size z1 z2 w2 hz1 hz2 (Nat.le_refl _) (by simp at hsz2;omega) (by omega) (((HR.out.below hB1).below (w' := w2) ⟨hb2.os,hb2.tape,hb2.output,hb2.size,fun k hk => hb2.block k (Nat.lt_of_lt_of_le hk hB1.size)⟩).more (by omega)) hW).mono ?_);rintro e w3 ⟨v3,rfl,hG⟩)))
 all_goals
  obtain ⟨A,cc,rfl,hRr,hl,hm⟩ := own_slice2 hG.own;have hbw : Below w.heap.size w1 w2 := ⟨hb2.os,hb2.tape,hb2.output,hb2.size,fun k hk => hb2.block k (Nat.lt_of_lt_of_le hk hB1.size)⟩;have hfin := (hB1.trans hbw).grown hG.grow (by omega) (fun k h => by cases h);rw [Nat.zero_add,List.nil_append] at hRr;rw [Nat.zero_add] at hl;go_wp2;go_ret2;exact ⟨A,cc,(show _ = Ending.returned (.tuple #[.slice A (0 + (enc2 z1 z2).length) cc,.int .i64 0]) from rfl).trans (by rw [Nat.zero_add]),hRr,hl,hm,hfin⟩
namespace Du
def num (n : Int) : Bool := decide (0 ≤ n ∧ n < 1073741789)
def right (a b c : Int) : Bool := num a && num b && decide (1 ≤ c ∧ c < 1073741789)
def poss (d n : Int) : Bool := decide (0 ≤ d ∧ d < 4096 ∧ 0 ≤ n ∧ n ≤ 1048576)
def tag (a b c h : Int) (co : Bool) : Int := if co then Fm.ad (Fm.ad a (Fm.ml b h)) c else Fm.ad a (Fm.ml b h)
theorem num_iff {n : Int} : num n = true ↔ 0 ≤ n ∧ n < 1073741789 := by simp [num]
theorem right_iff {a b c : Int} : right a b c = true ↔ (0 ≤ a ∧ a < 1073741789) ∧ (0 ≤ b ∧ b < 1073741789) ∧ (1 ≤ c ∧ c < 1073741789) := by simp [right,num];omega
theorem poss_iff {d n : Int} : poss d n = true ↔ 0 ≤ d ∧ d < 4096 ∧ 0 ≤ n ∧ n ≤ 1048576 := by simp [poss]
end Du
theorem number_any (n : Int) (w : World) : Calls Tryz.prog 116 #[.int .i64 n] w fun e w' => e = .returned (.bool (Du.num n)) ∧ w = w' := by
 by_cases h1 : 0 ≤ n
 ·by_cases h2 : n < 1073741789
  ·have H := Lib.hid (show Du.num n = true by simp [Du.num,h1,h2])
   go_enter Tryz.func116,Tryz.ntmps116;go_wp2;go_ret;exact ⟨ret_bool H.out.symm,rfl⟩
  ·have H := Lib.hid (show Du.num n = false by simp [Du.num];omega)
   have h3 : 1073741789 ≤ n := by omega
   go_enter Tryz.func116,Tryz.ntmps116;go_wp2;go_ret;exact ⟨ret_bool H.out.symm,rfl⟩
 ·have H := Lib.hid (show Du.num n = false by simp [Du.num];omega)
  have h3 : n < 0 := by omega
  go_enter Tryz.func116,Tryz.ntmps116;go_wp2;go_ret;exact ⟨ret_bool H.out.symm,rfl⟩
theorem possible_any (d n : Int) (w : World) : Calls Tryz.prog 68 #[.int .i64 d,.int .i64 n] w fun e w' => e = .returned (.bool (Du.poss d n)) ∧ w = w' := by
 by_cases h1 : 0 ≤ d
 ·by_cases h2 : d < 4096
  ·by_cases h3 : 0 ≤ n
   ·by_cases h4 : n ≤ 1048576
    ·have H := Lib.hid (show Du.poss d n = true by simp [Du.poss];omega)
     go_enter Tryz.func68,Tryz.ntmps68;go_wp2;go_ret;exact ⟨ret_bool H.out.symm,rfl⟩
    ·have H := Lib.hid (show Du.poss d n = false by simp [Du.poss];omega)
     have h5 : 1048576 < n := by omega
     go_enter Tryz.func68,Tryz.ntmps68;go_wp2;go_ret;exact ⟨ret_bool H.out.symm,rfl⟩
   ·have H := Lib.hid (show Du.poss d n = false by simp [Du.poss];omega)
    have h5 : n < 0 := by omega
    go_enter Tryz.func68,Tryz.ntmps68;go_wp2;go_ret;exact ⟨ret_bool H.out.symm,rfl⟩
  ·have H := Lib.hid (show Du.poss d n = false by simp [Du.poss];omega)
   have h5 : 4096 ≤ d := by omega
   go_enter Tryz.func68,Tryz.ntmps68;go_wp2;go_ret;exact ⟨ret_bool H.out.symm,rfl⟩
 ·have H := Lib.hid (show Du.poss d n = false by simp [Du.poss];omega)
  have h5 : d < 0 := by omega
  go_enter Tryz.func68,Tryz.ntmps68;go_wp2;go_ret;exact ⟨ret_bool H.out.symm,rfl⟩
def silV (a b c : Int) : Value := .agg #[.int .i64 a,.int .i64 b,.int .i64 c]
theorem right_any (a b c : Int) (w : World) : Calls Tryz.prog 67 #[silV a b c] w fun e w' => e = .returned (.bool (Du.right a b c)) ∧ Below w.heap.size w w' := by
 unfold silV
 cases ha : Du.num a with
 | false =>
  have H := Lib.hid (show Du.right a b c = false by simp [Du.right,ha]);have HA := Lib.hid ha;clear ha;go_enter Tryz.func67,Tryz.ntmps67
  go_wp2_with (go_at_call 116;refine (number_any _ _).mono ?_;rintro e w' ⟨he,rfl⟩;rw [HA.out] at he;subst he)
  go_ret;exact ⟨ret_bool H.out.symm,(Below.refl _ _).alloc (Nat.le_refl _) _⟩
 | true =>
  have HA := Lib.hid ha
  cases hb : Du.num b with
  | false =>
   have H := Lib.hid (show Du.right a b c = false by simp [Du.right,hb]);have HB := Lib.hid hb;clear ha hb;go_enter Tryz.func67,Tryz.ntmps67
   go_wp2_with fail
   refine (number_any _ _).mono ?_;rintro e w' ⟨he,rfl⟩;rw [HA.out] at he;subst he
   go_wp2_with fail
   refine (number_any _ _).mono ?_;rintro e w' ⟨he,rfl⟩;rw [HB.out] at he;subst he;go_wp2;go_ret;exact ⟨ret_bool H.out.symm,(Below.refl _ _).alloc (Nat.le_refl _) _⟩
  | true =>
   have HB := Lib.hid hb
   by_cases h1 : 1 ≤ c
   ·by_cases h2 : c < 1073741789
    ·have H := Lib.hid (show Du.right a b c = true by simp [Du.right,ha,hb,h1,h2])
     clear ha hb;go_enter Tryz.func67,Tryz.ntmps67
     go_wp2_with fail
     refine (number_any _ _).mono ?_;rintro e w' ⟨he,rfl⟩;rw [HA.out] at he;subst he
     go_wp2_with fail
     refine (number_any _ _).mono ?_;rintro e w' ⟨he,rfl⟩;rw [HB.out] at he;subst he;go_wp2;go_ret;exact ⟨ret_bool H.out.symm,(Below.refl _ _).alloc (Nat.le_refl _) _⟩
    ·have H := Lib.hid (show Du.right a b c = false by simp [Du.right];omega)
     have h3 : 1073741789 ≤ c := by omega
     clear ha hb;go_enter Tryz.func67,Tryz.ntmps67
     go_wp2_with fail
     refine (number_any _ _).mono ?_;rintro e w' ⟨he,rfl⟩;rw [HA.out] at he;subst he
     go_wp2_with fail
     refine (number_any _ _).mono ?_;rintro e w' ⟨he,rfl⟩;rw [HB.out] at he;subst he;go_wp2;go_ret;exact ⟨ret_bool (by rw [H.out];simp;omega),(Below.refl _ _).alloc (Nat.le_refl _) _⟩
   ·have H := Lib.hid (show Du.right a b c = false by simp [Du.right];omega)
    have h3 : c < 1 := by omega
    clear ha hb;go_enter Tryz.func67,Tryz.ntmps67
    go_wp2_with fail
    refine (number_any _ _).mono ?_;rintro e w' ⟨he,rfl⟩;rw [HA.out] at he;subst he
    go_wp2_with fail
    refine (number_any _ _).mono ?_;rintro e w' ⟨he,rfl⟩;rw [HB.out] at he;subst he;go_wp2;go_ret;exact ⟨ret_bool H.out.symm,(Below.refl _ _).alloc (Nat.le_refl _) _⟩
theorem ad_zero (a b : Int) : Fm.ad (Fm.ad 0 a) b = Fm.ad a b := by unfold Fm.ad;omega
theorem dsum_two (g : Nat) (a b : Int) (w : World) (h0 : w.cell? ⟨g,0,none⟩ = some (.int .i64 a)) (h1 : w.cell? ⟨g,1,none⟩ = some (.int .i64 b)) (hg : g < w.heap.size) :
  Calls Tryz.prog 117 #[.slice (some ⟨g,0,none⟩) 2 2] w fun e w' => e = .returned (.int .i64 (Fm.ad a b)) ∧ Below w.heap.size w w' := by
 have H := Lib.hid (ad_zero a b);go_enter Tryz.func117,Tryz.ntmps117;go_wp2;refine wp_loop_rounds 3 ?_;rw [rounds_succ]
 go_wp2_with (go_at_call 50;(with_reducible refine (add_any _ _ _).mono ?_);rintro e w' ⟨rfl,rfl⟩)
 rw [rounds_succ];have h1a : (w.alloc (.cells #[.int .i64 0,.int .i64 a] 3)).cell? ⟨g,1,none⟩ = some (.int .i64 b) := by rw [World.cell?_alloc_lt _ _ _ hg];exact h1
 go_wp2_with (go_at_call 50;(with_reducible refine (add_any _ _ _).mono ?_);rintro e w' ⟨rfl,rfl⟩)
 rw [rounds_succ];go_wp2;go_ret;exact ⟨ret_int H.out,((Below.refl _ _).alloc (Nat.le_refl _) _).alloc (by simp) _⟩
theorem dsum_new (a b : Int) (w : World) : Calls Tryz.prog 117 #[.slice (some ⟨w.heap.size,0,none⟩) 2 2] (w.alloc (.cells #[.int .i64 a,.int .i64 b] 3))
  fun e w' => e = .returned (.int .i64 (Fm.ad a b)) ∧ Below (w.heap.size + 1) (w.alloc (.cells #[.int .i64 a,.int .i64 b] 3)) w' := by
 have h := dsum_two w.heap.size a b (w.alloc (.cells #[.int .i64 a,.int .i64 b] 3)) (alloc_cell0 w _ _ _) (alloc_cell1 w _ _ _ _) (by simp)
 rwa [World.size_alloc] at h
def occV (a b c h : Int) : Value := .agg #[.int .i64 a,.int .i64 b,.int .i64 c,.int .i64 h]
theorem bel_keep {B : Nat} {W w1 : World} (hb : Below B W w1) : ∀ p : Addr,p.block < B → w1.cell? p = W.cell? p := fun p hp => hb.cell hp
theorem tag_any (a b c h : Int) (co : Bool) (w : World) : Calls Tryz.prog 170 #[occV a b c h,.bool co] w fun e w' => e = .returned (.int .i64 (Du.tag a b c h co)) ∧ Below w.heap.size w w' := by
 have q0 : (w.alloc (.cells #[.int .i64 a,.int .i64 b,.int .i64 c,.int .i64 h] 147)).cell? ⟨w.heap.size,0,none⟩ = some (.int .i64 a) := by rw [cell_of_row _ w.heap.size 0 _ _ _ (heap_alloc_new w _)];rfl
 have q1 : (w.alloc (.cells #[.int .i64 a,.int .i64 b,.int .i64 c,.int .i64 h] 147)).cell? ⟨w.heap.size,1,none⟩ = some (.int .i64 b) := by rw [cell_of_row _ w.heap.size 1 _ _ _ (heap_alloc_new w _)];rfl
 have q2 : (w.alloc (.cells #[.int .i64 a,.int .i64 b,.int .i64 c,.int .i64 h] 147)).cell? ⟨w.heap.size,2,none⟩ = some (.int .i64 c) := by rw [cell_of_row _ w.heap.size 2 _ _ _ (heap_alloc_new w _)];rfl
 have q3 : (w.alloc (.cells #[.int .i64 a,.int .i64 b,.int .i64 c,.int .i64 h] 147)).cell? ⟨w.heap.size,3,none⟩ = some (.int .i64 h) := by rw [cell_of_row _ w.heap.size 3 _ _ _ (heap_alloc_new w _)];rfl
 unfold occV;go_enter Tryz.func170,Tryz.ntmps170;go_wp2
 go_region_held3 (fun w' => w'.cell? ⟨w.heap.size,0,none⟩ = some (.int .i64 a) ∧ w'.cell? ⟨w.heap.size,1,none⟩ = some (.int .i64 b) ∧ w'.cell? ⟨w.heap.size,3,none⟩ = some (.int .i64 h))
  (first
   | (go_keep;done)
   | exact ⟨(hk ⟨w.heap.size,0,none⟩ (by simp;omega)).trans (cell_box2 w _ _ q0),(hk ⟨w.heap.size,1,none⟩ (by simp;omega)).trans (cell_box2 w _ _ q1),(hk ⟨w.heap.size,3,none⟩ (by simp;omega)).trans (cell_box2 w _ _ q3)⟩)
  ((first | (go_at_call 51;(with_reducible refine (mul_any _ _ _).mono ?_);rintro e w' ⟨rfl,rfl⟩) | (go_at_call 117;(refine (dsum_two (w.heap.size + 1) a (Fm.ml b h) _ (by go_cell) (by go_cell) (by simp)).mono ?_);rintro e w1 ⟨rfl,hb1⟩;have hk := bel_keep hb1)))
 have hB1 := ((((Below.refl w.heap.size w).alloc (Nat.le_refl _) _).alloc (by simp) _).drew).trans (hb1.mono (by simp;omega));have q2' : w1.cell? ⟨w.heap.size,2,none⟩ = some (.int .i64 c) := (hk ⟨w.heap.size,2,none⟩ (by simp;omega)).trans (cell_box2 w _ _ q2);clear hk hb1 q0 q1 q2 q3
 cases co with
 | false =>
  go_wp2;go_ret;exact ⟨rfl,hB1⟩
 | true =>
  go_wp2_with fail
  refine (dsum_new _ _ _).mono ?_;rintro e w2 ⟨rfl,hb2⟩;go_wp2;go_ret;exact ⟨rfl,(hB1.alloc hB1.size _).trans (hb2.mono (by have := hB1.size;omega))⟩
def Du.said (a b c h t : Int) : Bool × Bool := if t = Du.tag a b c h false then (false,true) else if t = Du.tag a b c h true then (true,true) else (false,false)
theorem read_occ (a b c h t : Int) (w : World) : Calls Tryz.prog 169 #[occV a b c h,.int .i64 t] w fun e w' => e = .returned (.tuple #[.bool (Du.said a b c h t).1,.bool (Du.said a b c h t).2]) ∧ Below w.heap.size w w' := by
 have ht := tag_any a b c h;unfold occV at ht ⊢;have htf := ht false;have htt := ht true;clear ht;obtain ⟨S,hS⟩ : ∃ S,Du.said a b c h t = S := ⟨_,rfl⟩;have hS1 := hS;unfold Du.said at hS1;rw [hS];clear hS;generalize Du.tag a b c h false = p at *;generalize Du.tag a b c h true = r at *
 by_cases h1 : t = p
 ·rw [if_pos h1] at hS1
  have H := Lib.hid hS1;have hb : (t == p) = true := by simpa using h1
  clear h1 hS1;go_enter Tryz.func169,Tryz.ntmps169
  go_wp2_with fail
  refine (htf _).mono ?_;rintro e w1 ⟨rfl,hb1⟩;go_wp2;go_ret2;exact ⟨by have h := H.out;subst h;rfl,((Below.refl w.heap.size w).alloc (Nat.le_refl _) _).trans (hb1.mono (by simp))⟩
 ·rw [if_neg h1] at hS1
  have hb : (t == p) = false := by simpa using h1
  have k0 : ∀ i,i < 4 → (w.alloc (.cells #[.int .i64 a,.int .i64 b,.int .i64 c,.int .i64 h] 147)).cell? ⟨w.heap.size,i,none⟩ = some (.int .i64 ([a,b,c,h].getD i 0)) := fun i hi => by
   rw [cell_of_row _ w.heap.size i _ _ _ (heap_alloc_new w _)]
   match i,hi with
   | 0,_ => rfl
   | 1,_ => rfl
   | 2,_ => rfl
   | 3,_ => rfl
  by_cases h2 : t = r
  all_goals
   first | rw [if_pos h2] at hS1 | rw [if_neg h2] at hS1
   have H := Lib.hid hS1;have hb2 : (t == r) = decide (t = r) := by by_cases h : t = r <;> simp [h]
   first | rw [decide_eq_true h2] at hb2 | rw [decide_eq_false h2] at hb2
   clear h1 h2 hS1;have K0 := Lib.hid k0;clear k0;go_enter Tryz.func169,Tryz.ntmps169
   go_wp2_with fail
   refine (htf _).mono ?_;rintro e w1 ⟨rfl,hb1⟩;have hB1 := ((Below.refl w.heap.size w).alloc (Nat.le_refl _) _).trans (hb1.mono (by simp));have p0 : w1.cell? ⟨w.heap.size,0,none⟩ = some (.int .i64 a) := (hb1.cell (p := ⟨w.heap.size,0,none⟩) (by simp)).trans (K0.out 0 (by omega));have p1 : w1.cell? ⟨w.heap.size,1,none⟩ = some (.int .i64 b) := (hb1.cell (p := ⟨w.heap.size,1,none⟩) (by simp)).trans (K0.out 1 (by omega));have p2 : w1.cell? ⟨w.heap.size,2,none⟩ = some (.int .i64 c) := (hb1.cell (p := ⟨w.heap.size,2,none⟩) (by simp)).trans (K0.out 2 (by omega));have p3 : w1.cell? ⟨w.heap.size,3,none⟩ = some (.int .i64 h) := (hb1.cell (p := ⟨w.heap.size,3,none⟩) (by simp)).trans (K0.out 3 (by omega));clear hb1
   go_wp2_with fail
   refine (htt _).mono ?_;rintro e w2 ⟨rfl,hb2⟩;go_wp2;go_ret2;exact ⟨by have h := H.out;subst h;rfl,hB1.trans (hb2.mono hB1.size)⟩
end Go.Proofs.YtifejdpffkeniaaGreatDoor
