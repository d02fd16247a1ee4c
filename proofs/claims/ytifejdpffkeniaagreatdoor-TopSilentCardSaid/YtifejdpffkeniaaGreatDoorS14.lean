import Derived.Test.YtifejdpffkeniaaGreatDoorS13
set_option linter.unusedVariables false
set_option maxRecDepth 100000
set_option maxHeartbeats 40000000
namespace Go.Proofs.YtifejdpffkeniaaGreatDoor
open Go.RowKit
attribute [local go_sem] Oper.semAt_some
theorem snan_any (x : Int) (w : World) : Calls Tryz.prog 100 #[.int .i64 x] w fun r w' => r = .returned (.bool false) ∧ w = w' := by
 go_enter Tryz.func100,Tryz.ntmps100;go_wp2;go_ret;exact ⟨by simp,rfl⟩
theorem bs1_any (b c : Nat) (x : Int)  (w : World) (q0 : w.cell? ⟨b,0,none⟩ = some (.int .i64 x))  :
  Calls Tryz.prog 43 #[.slice (some ⟨b,0,none⟩) 1 c,.int .i64 x] w fun r w' => r = .returned (.tuple #[.int .i64 0,.bool true]) ∧ w = w' := by
 go_enter Tryz.func43,Tryz.ntmps43
 go_wp2_with fail
 refine wp_loop_rounds 2 ?_;rw [rounds_succ]
 go_wp2_with (go_at_call 99;refine (less_any _ _ _).mono ?_;rintro r w1 ⟨rfl,rfl⟩)
 rw [rounds_succ]
 go_wp2_with (go_at_call 99;refine (less_any _ _ _).mono ?_;rintro r w1 ⟨rfl,rfl⟩)
 go_ret2;exact ⟨rfl,rfl⟩
theorem bs2_any (b c : Nat) (x : Int) (y : Int) (w : World) (q0 : w.cell? ⟨b,0,none⟩ = some (.int .i64 x)) (q1 : w.cell? ⟨b,1,none⟩ = some (.int .i64 y)) (hxy : x < y) :
  Calls Tryz.prog 43 #[.slice (some ⟨b,0,none⟩) 2 c,.int .i64 x] w fun r w' => r = .returned (.tuple #[.int .i64 0,.bool true]) ∧ w = w' := by
 go_enter Tryz.func43,Tryz.ntmps43
 go_wp2_with fail
 refine wp_loop_rounds 3 ?_;rw [rounds_succ]
 go_wp2_with (go_at_call 99;refine (less_any _ _ _).mono ?_;rintro r w1 ⟨rfl,rfl⟩)
 rw [rounds_succ]
 go_wp2_with (go_at_call 99;refine (less_any _ _ _).mono ?_;rintro r w1 ⟨rfl,rfl⟩)
 rw [rounds_succ]
 go_wp2_with (go_at_call 99;refine (less_any _ _ _).mono ?_;rintro r w1 ⟨rfl,rfl⟩)
 go_ret2;exact ⟨rfl,rfl⟩
theorem bs0_any (A : Option Addr) (c : Nat) (x : Int) (w : World) :
  Calls Tryz.prog 43 #[.slice A 0 c,.int .i64 x] w fun r w' => r = .returned (.tuple #[.int .i64 0,.bool false]) ∧ w = w' := by
 go_enter Tryz.func43,Tryz.ntmps43
 go_wp2_with fail
 refine wp_loop_rounds 1 ?_;rw [rounds_succ]
 go_wp2_with fail
 go_ret2;exact ⟨rfl,rfl⟩
theorem bsn_any (b c : Nat) (x y : Int) (w : World) (q0 : w.cell? ⟨b,0,none⟩ = some (.int .i64 y)) (hxy : x < y) :
  Calls Tryz.prog 43 #[.slice (some ⟨b,0,none⟩) 1 c,.int .i64 x] w fun r w' => r = .returned (.tuple #[.int .i64 0,.bool false]) ∧ w = w' := by
 have g1 : decide (y < x) = false := decide_eq_false (by omega);have g2 : (y == x) = false := by simpa using (by omega : y ≠ x)
 go_enter Tryz.func43,Tryz.ntmps43
 go_wp2_with fail
 refine wp_loop_rounds 2 ?_;rw [rounds_succ]
 go_wp2_with (go_at_call 99;refine (less_any _ _ _).mono ?_;rintro r w1 ⟨rfl,rfl⟩)
 rw [rounds_succ]
 go_wp2_with (go_at_call 100;refine (snan_any _ _).mono ?_;rintro r w1 ⟨rfl,rfl⟩)
 go_ret2;exact ⟨rfl,rfl⟩
theorem ta_is {P : Program} {t xT : TypeId} {d : TypeDesc} {v : Value} (w : World) (h : P.underlying t = some d) (hd : ∀ W,d ≠ .interface W) : (Instr.typeAssert (.iface t v) xT t true).run P w = .ok (.tuple #[v,.bool true]) w := by
 cases d <;> first | exact absurd rfl (hd _) | simp [Instr.typeAssert,run_underlying h,go_sem,Result.andThen]
theorem nneed_dies (e : Int) (w : World) : Calls Tryz.prog 37 #[.bool false,.int .i64 e] w fun r w' => r = .panicked [{ v := .iface 33 (.int .i64 e),recovered := false }] ∧ w = w' := by
 go_enter Tryz.func37,Tryz.ntmps37;go_wp2;exact ⟨rfl,rfl,rfl⟩
theorem ncaught_dies (p : Addr) (e x : Int) (w : World) (hc : w.cell? p = some (.int .i64 x)) (hz : w.frozen? p = false) :
  CallsD Tryz.prog 35 #[.pointer (some p)] (.panicking [{ v := .iface 33 (.int .i64 e),recovered := false }]) w fun r u' w' => r = .returned (.tuple #[]) ∧ u' = .panicking [{ v := .iface 33 (.int .i64 e),recovered := true }] ∧ w' = w.setCell p (.int .i64 e) := by
 refine callsD_of_wpS Tryz.func35 rfl fun c₀ cs hu => ?_;apply wpS_seq;apply wpS_region;simp [wpOpsS,go_sem,recoverD,hu,Tryz.ntmps35,Exit.thenS];apply wpS_seq;apply wpS_region;simp [wpOpsS,go_sem,Act.eval,Exit.thenS];refine wpS_cond (t := true) (by simp [Act.eval,Array.replicate]) ?_;simp only [if_true];have hta : ∀ W : World,(Instr.typeAssert (.iface 33 (.int .i64 e)) 20 33 true).run Tryz.prog W = .ok (.tuple #[.int .i64 e,.bool true]) W := fun W => ta_is W Tryz.underlying33 (fun W h => by cases h);apply wpS_seq;apply wpS_region;simp [wpOpsS,go_sem,Act.eval,Exit.thenS,hta,recoverD,Result.andThen];apply wpS_seq;apply wpS_seq;apply wpS_region;simp [wpOpsS,go_sem,Act.eval,Exit.thenS,recoverD,Result.andThen];refine wpS_cond (t := false) (by simp [Act.eval,Array.replicate]) ?_;simp only [Bool.false_eq_true,if_false];refine wpS_of_wp (wp_skip ?_);show Code.wpS _ _ _ _ _ _;apply wpS_region;simp [wpOpsS,go_sem,hc,hz,bodyPostS,results,Tryz.results35]
def TkR (K : Sh.Cst) (k sd nx no : Int) (tl : List Int) (w : World) (r : Ending) (w' : World) : Prop :=
 (∃ A c,r = .returned (.tuple #[.agg #[.int .i64 k,.int .i64 sd,.int .i64 nx,.slice A tl.length c],.int .i64 (nz K k sd no 0),.int .i64 (nz K k sd no 1),.int .i64 0]) ∧ Rd w' w'.heap.size 1 A tl.length (ivs tl) ∧ tl.length ≤ c ∧ c ≤ maxLen ∧ Fr w.heap.size tl.length A) ∧ Below w.heap.size w w'
theorem Row.drew {w : World} {g : Nat} {t : TypeId} {cs : List Value} (h : Row w g t cs) : Row w.drew g t cs := h
theorem own_row {w : World} {s n : Nat} {A : Option Addr} {c : Nat} {L : List Value} (h : w.ownsRow s 3 1 (.slice A n c) n L) (hn : 0 < n) : ∃ g rest,A = some ⟨g,0,none⟩ ∧ Row w g 3 (L ++ rest) ∧ n + rest.length = c ∧ c ≤ maxLen ∧ s ≤ g := by
 rcases h.2 with ⟨e1,e2⟩ | ⟨g,cap,cur,e1,e2,e3,e4,e5,e6,e7⟩
 ·omega
 ·injection e1 with e1 e8 e9
  subst e9;refine ⟨g,cur.toList.drop n,e1,?_,?_,e5,e2⟩
  ·show w.heap[g]? = _
   rw [e3,← e7,Nat.mul_one,List.take_append_drop]
  ·simp [e6];omega
theorem take1_any (K : Sh.Cst) (k sd nx no doc : Int) (A : Option Addr) (c : Nat) (w : World) (hk : 0 ≤ k ∧ k < 64) (hsd : 0 ≤ sd ∧ sd ≤ 1099511627776) (hno : 0 ≤ no ∧ no ≤ 4096) (hdoc : 0 ≤ doc ∧ doc < 4096) (hok : (⟨k,sd,nx,[no]⟩ : Bk).ok) (hL : Laid w) (hr : Rd w w.heap.size 1 A 1 (ivs [no])) (hnc : 1 ≤ c) (hcm : c ≤ maxLen) :
  Calls Tryz.prog 11 #[.agg #[.int .i64 k,.int .i64 sd,.int .i64 nx,.slice A 1 c],.int .i64 no,.int .i64 doc] w (TkR K k sd nx no [] w) := by
 obtain ⟨s,hs⟩ : ∃ s,w.heap.size = s := ⟨_,rfl⟩;have HOP : Hid (∀ W,Below s w W → Calls Tryz.prog 36 #[.agg #[.int .i64 k,.int .i64 sd,.int .i64 nx,.slice A 1 c]] W (Opn W ⟨k,sd,nx,[no]⟩ A)) := fun W hW => open_any ⟨k,sd,nx,[no]⟩ A 1 c W hok ((hr.below (by rw [hs];exact hW)).more (by have := hW.size;omega)) hnc hcm (by decide);obtain ⟨w3,hw3⟩ : ∃ w3,((w.alloc (.cells #[.int .i64 k,.int .i64 sd,.int .i64 nx,.slice A 1 c] 50)).alloc (.cells #[.int .i64 0,.int .i64 0,.int .i64 0,.slice none 0 0] 50)).alloc (.cells #[.int .i64 0] 33) = w3 := ⟨_,rfl⟩;have hb3 : Below s w w3 := by rw [← hw3,← hs];exact (((Below.refl _ w).alloc (Nat.le_refl _) _).alloc (by simp) _).alloc (by simp;omega) _
 have hr1 : Row w3 (s + 1) 50 [.int .i64 0,.int .i64 0,.int .i64 0,.slice none 0 0] := by rw [← hw3];exact (Row.fresh' _ _ _ (by simp [hs])).alloc _
 have hr2 : Row w3 (s + 1 + 1) 33 [.int .i64 0] := by rw [← hw3];exact Row.fresh' _ _ _ (by simp [hs])
 have hsz3 : w3.heap.size = s + 1 + 1 + 1 := by rw [← hw3];simp [hs]
 have HW3 := Lib.hid (And.intro hb3 (And.intro hr1 (And.intro hr2 hsz3)));have HE := Lib.hid hw3;have HS := Lib.hid hs;have HLW := Lib.hid hL;have HTK : Hid (∀ r w',(∃ A c,r = .returned (.tuple #[.agg #[.int .i64 k,.int .i64 sd,.int .i64 nx,.slice A 0 c],.int .i64 (nz K k sd no 0),.int .i64 (nz K k sd no 1),.int .i64 0]) ∧ Rd w' w'.heap.size 1 A 0 (ivs []) ∧ 0 ≤ c ∧ c ≤ maxLen ∧ Fr s 0 A) → Below s w w' → TkR K k sd nx no [] w r w') := fun r w' h1 h2 => ⟨by rw [hs];exact h1,by rw [hs];exact h2⟩;have HLS : Hid (2 ≤ s) := by show 2 ≤ s;have := hL.size;omega
 have d1 : decide (0 ≤ doc) = true := decide_eq_true hdoc.1;have d2 : decide (doc < 4096) = true := decide_eq_true hdoc.2;have HK := Lib.hid (And.intro hk (And.intro hsd hno));generalize hQQ : TkR K k sd nx no [] w = QQ at HTK ⊢;clear hQQ hok hb3 hr1 hr2 hsz3 hw3 hs hL hr hnc hcm hk hsd hno
 go_enter_defers Tryz.func11,Tryz.ntmps11
 go_wp2_with fail
 rw [HS.out,HE.out];refine (HOP.out w3 HW3.out.1).mono ?_;rintro r w4 ⟨⟨g,A',c',rfl,hr4,how,hg4,hown,_⟩,hb4⟩;dsimp only [List.length] at hr4 how hown;have HW4 := Lib.hid (And.intro (HW3.out.1.trans (hb4.mono (by have := HW3.out.2.2.2;omega))) (And.intro (HW3.out.2.1.below hb4 HW3.out.2.1.lt) (And.intro (HW3.out.2.2.1.below hb4 HW3.out.2.2.1.lt) hr4)));obtain ⟨h,rest,hA',hrh,hcap,hcm,hsh⟩ := own_row how (by decide);subst hA';have hgh : h < g := hown h rfl;have HG : Hid (s + 1 + 1 < h ∧ h < g ∧ g < w4.heap.size ∧ 1 + rest.length = c' ∧ c' ≤ maxLen) := ⟨by have := HW3.out.2.2.2;omega,hgh,hr4.lt,hcap,hcm⟩;have HRH := Lib.hid hrh;have q3 := hr4.cell (i := 3) rfl;have e0 := hrh.cell (i := 0) rfl;clear hr4 hb4 hg4 HW3 hrh hcap hcm hsh hgh how hown
 go_wp2_with (refine (nneed_any _ _).mono ?_;rintro r w5 ⟨rfl,rfl⟩)
 refine (bs1_any h c' no w4 e0).mono ?_;rintro r w5 ⟨rfl,rfl⟩
 go_wp2_with (refine (nneed_any _ _).mono ?_;rintro r w5 ⟨rfl,rfl⟩)
 refine (del1_any h c' no rest w4 HRH.out (by have := HG.out;omega) (by have := HG.out;unfold maxLen at this;omega)).mono ?_;rintro r w5 ⟨rfl,hr5,hg5⟩;have hG := HG.out;have HW5 := Lib.hid (And.intro (HW4.out.1.grown hg5 (by omega) (fun k e => by cases e;omega)) (And.intro (HW4.out.2.1.grown hg5 (by intro e;cases e;omega)) (And.intro (HW4.out.2.2.1.grown hg5 (by intro e;cases e;omega)) (HW4.out.2.2.2.grown hg5 (by intro e;cases e;omega)))));have HRH5 := Lib.hid hr5;clear hr5 hg5 e0 q3 HRH HOP HE HW4;have q3 := HW5.out.2.2.2.cell (i := 3) rfl;have f3 := HW5.out.2.2.2.fz 3;clear hG
 go_wp2_with fail
 clear q3 f3;have hG := HG.out;have hb6 : Below s w (w5.setCell ⟨g,3,none⟩ (.slice (some ⟨h,0,none⟩) 0 c')) := HW5.out.1.setCell (p := ⟨g,3,none⟩) (by show s ≤ g;omega) _;have hr6 := HW5.out.2.2.2.put 3 (.slice (some ⟨h,0,none⟩) 0 c');have hx6 := HW5.out.2.1.away (p := ⟨g,3,none⟩) (by show s + 1 ≠ g;omega) (.slice (some ⟨h,0,none⟩) 0 c');have he6 := HW5.out.2.2.1.away (p := ⟨g,3,none⟩) (by show s + 1 + 1 ≠ g;omega) (.slice (some ⟨h,0,none⟩) 0 c');have hh6 := HRH5.out.away (p := ⟨g,3,none⟩) (by show h ≠ g;omega) (.slice (some ⟨h,0,none⟩) 0 c');have hL6 := HLW.out.below hb6 HLS.out;clear HW5 HRH5;generalize w5.setCell ⟨g,3,none⟩ (.slice (some ⟨h,0,none⟩) 0 c') = w6 at hb6 hr6 hx6 he6 hh6 hL6 ⊢;refine (numbers_any K k sd no nx _ _ _ g w6 HK.out.1 HK.out.2.1 HK.out.2.2 hL6 hr6).mono ?_;rintro r w7 ⟨rfl,hb7⟩;have hb7' : Below s w w7 := hb6.trans (hb7.mono (by have := hx6.lt;omega));have HW7 := Lib.hid (And.intro hb7' (And.intro (hx6.below hb7 hx6.lt) (And.intro (he6.below hb7 he6.lt) (And.intro (hr6.below hb7 hr6.lt) (hh6.below hb7 hh6.lt)))));clear hb6 hr6 hx6 he6 hh6 hL6 hb7 hb7' hG;obtain ⟨X,hX⟩ : ∃ X,nz K k sd no 0 = X := ⟨_,rfl⟩;obtain ⟨Y,hY⟩ : ∃ Y,nz K k sd no 1 = Y := ⟨_,rfl⟩;have HXY := Lib.hid (And.intro hX hY);rw [hX,hY] at HTK ⊢;clear hX hY
 go_wp2_with fail
 obtain ⟨t,ht⟩ : ∃ t,w7.heap.size = t := ⟨_,rfl⟩;rw [ht];have hrt := Row.fresh' w7 113 [.int .i64 X,.int .i64 Y] ht
 have HW8 : Hid (Below s w (w7.alloc (.cells #[.int .i64 X,.int .i64 Y] 113)) ∧ Row (w7.alloc (.cells #[.int .i64 X,.int .i64 Y] 113)) (s + 1) 50 [.int .i64 0,.int .i64 0,.int .i64 0,.slice none 0 0] ∧ Row (w7.alloc (.cells #[.int .i64 X,.int .i64 Y] 113)) (s + 1 + 1) 33 [.int .i64 0] ∧ Row (w7.alloc (.cells #[.int .i64 X,.int .i64 Y] 113)) g 100 [.int .i64 k,.int .i64 sd,.int .i64 nx,.slice (some ⟨h,0,none⟩) 0 c'] ∧ Row (w7.alloc (.cells #[.int .i64 X,.int .i64 Y] 113)) h 3 (.int .i64 0 :: rest) ∧ Row (w7.alloc (.cells #[.int .i64 X,.int .i64 Y] 113)) t 113 [.int .i64 X,.int .i64 Y]) :=
  ⟨HW7.out.1.alloc (by have := HW7.out.2.1.lt;omega) _,HW7.out.2.1.alloc _,HW7.out.2.2.1.alloc _,HW7.out.2.2.2.1.alloc _,HW7.out.2.2.2.2.alloc _,hrt⟩
 have HT : Hid (g < t) := by have := HW7.out.2.2.2.1.lt;show g < t;omega
 clear hrt ht HW7;generalize w7.alloc (.cells #[.int .i64 X,.int .i64 Y] 113) = w8 at HW8 ⊢
 go_wp2_with fail
 rename_i Kz hKz;have x0 := HW8.out.2.1.cell (i := 0) rfl;have x1 := HW8.out.2.1.cell (i := 1) rfl;have x2 := HW8.out.2.1.cell (i := 2) rfl;have x3 := HW8.out.2.1.cell (i := 3) rfl;have y0 := HW8.out.2.1.fz 0;have y1 := HW8.out.2.1.fz 1;have y2 := HW8.out.2.1.fz 2;have y3 := HW8.out.2.1.fz 3;have z0 := HW8.out.2.2.1.cell (i := 0) rfl;have z1 := HW8.out.2.2.1.fz 0;have RG := Lib.hid ((((HW8.out.2.2.2.1.away (p := ⟨s + 1,0,none⟩) (by have := HG.out;have := HT.out;show g ≠ s + 1;omega) (.int .i64 k)).away (p := ⟨s + 1,1,none⟩) (by have := HG.out;have := HT.out;show g ≠ s + 1;omega) (.int .i64 sd)).away (p := ⟨s + 1,2,none⟩) (by have := HG.out;have := HT.out;show g ≠ s + 1;omega) (.int .i64 nx)).away (p := ⟨s + 1,3,none⟩) (by have := HG.out;have := HT.out;show g ≠ s + 1;omega) (.slice (some ⟨h,0,none⟩) 0 c'));have RT := Lib.hid ((((HW8.out.2.2.2.2.2.away (p := ⟨s + 1,0,none⟩) (by have := HG.out;have := HT.out;show t ≠ s + 1;omega) (.int .i64 k)).away (p := ⟨s + 1,1,none⟩) (by have := HG.out;have := HT.out;show t ≠ s + 1;omega) (.int .i64 sd)).away (p := ⟨s + 1,2,none⟩) (by have := HG.out;have := HT.out;show t ≠ s + 1;omega) (.int .i64 nx)).away (p := ⟨s + 1,3,none⟩) (by have := HG.out;have := HT.out;show t ≠ s + 1;omega) (.slice (some ⟨h,0,none⟩) 0 c'));have RH := Lib.hid ((((HW8.out.2.2.2.2.1.away (p := ⟨s + 1,0,none⟩) (by have := HG.out;have := HT.out;show h ≠ s + 1;omega) (.int .i64 k)).away (p := ⟨s + 1,1,none⟩) (by have := HG.out;have := HT.out;show h ≠ s + 1;omega) (.int .i64 sd)).away (p := ⟨s + 1,2,none⟩) (by have := HG.out;have := HT.out;show h ≠ s + 1;omega) (.int .i64 nx)).away (p := ⟨s + 1,3,none⟩) (by have := HG.out;have := HT.out;show h ≠ s + 1;omega) (.slice (some ⟨h,0,none⟩) 0 c'));have RE := Lib.hid ((((HW8.out.2.2.1.away (p := ⟨s + 1,0,none⟩) (by have := HG.out;have := HT.out;show s + 1 + 1 ≠ s + 1;omega) (.int .i64 k)).away (p := ⟨s + 1,1,none⟩) (by have := HG.out;have := HT.out;show s + 1 + 1 ≠ s + 1;omega) (.int .i64 sd)).away (p := ⟨s + 1,2,none⟩) (by have := HG.out;have := HT.out;show s + 1 + 1 ≠ s + 1;omega) (.int .i64 nx)).away (p := ⟨s + 1,3,none⟩) (by have := HG.out;have := HT.out;show s + 1 + 1 ≠ s + 1;omega) (.slice (some ⟨h,0,none⟩) 0 c'));have RB := Lib.hid ((((HW8.out.2.1.put 0 (.int .i64 k)).put 1 (.int .i64 sd)).put 2 (.int .i64 nx)).put 3 (.slice (some ⟨h,0,none⟩) 0 c'));have BB := Lib.hid ((((HW8.out.1.setCell (p := ⟨s + 1,0,none⟩) (by show s ≤ s + 1;omega) (.int .i64 k)).setCell (p := ⟨s + 1,1,none⟩) (by show s ≤ s + 1;omega) (.int .i64 sd)).setCell (p := ⟨s + 1,2,none⟩) (by show s ≤ s + 1;omega) (.int .i64 nx)).setCell (p := ⟨s + 1,3,none⟩) (by show s ≤ s + 1;omega) (.slice (some ⟨h,0,none⟩) 0 c'));refine wp_region_treeM (fun W => Row W g 100 [.int .i64 k,.int .i64 sd,.int .i64 nx,.slice (some ⟨h,0,none⟩) 0 c'] ∧ Row W t 113 [.int .i64 X,.int .i64 Y]) (.take 0 (.take 1 (.take 2 (.take 3 (.take 4 (.take 5 (.take 6 (.take 7 (.one 8 (.take 9 (.take 10 (.one 11 .done)))))))))))) (by kernel_rfl) (by kernel_rfl) (by kernel_rfl) (by kernel_rfl) ⟨HW8.out.2.2.2.1,HW8.out.2.2.2.2.2⟩ ?_
 iterate 8 (refine wpOT_take rfl _ (by rfl) (by intro w' hS;obtain ⟨hS1,hS2⟩ := hS;have o0 := hS1.cell (i := 0) rfl;have o1 := hS1.cell (i := 1) rfl;have o2 := hS1.cell (i := 2) rfl;have o3 := hS1.cell (i := 3) rfl;have o4 := hS2.cell (i := 0) rfl;have o5 := hS2.cell (i := 1) rfl;go_simp;try with_reducible rfl) fun KK hKK => ?_;go_simp;refine hKK _ ?_;clear hKK KK)
 refine wpOT_one rfl (by rfl) fun KK hKK => ?_;go_simp;refine hKK _ _ ⟨RG.out.drew,RT.out.drew⟩ ?_
 iterate 2 (clear hKK KK;refine wpOT_take rfl _ (by rfl) (by intro w' hS;obtain ⟨hS1,hS2⟩ := hS;have o0 := hS1.cell (i := 0) rfl;have o1 := hS1.cell (i := 1) rfl;have o2 := hS1.cell (i := 2) rfl;have o3 := hS1.cell (i := 3) rfl;have o4 := hS2.cell (i := 0) rfl;have o5 := hS2.cell (i := 1) rfl;go_simp;try with_reducible rfl) fun KK hKK => ?_;go_simp;refine hKK _ ?_)
 clear hKK KK;refine wpOT_one rfl (by rfl) fun KK hKK => ?_;go_simp;refine hKK _ _ ⟨(RG.out.away (p := ⟨s + 1 + 1,0,none⟩) (by have := HG.out;have := HT.out;show g ≠ s + 1 + 1;omega) (.int .i64 0)).drew,(RT.out.away (p := ⟨s + 1 + 1,0,none⟩) (by have := HG.out;have := HT.out;show t ≠ s + 1 + 1;omega) (.int .i64 0)).drew⟩ ?_;clear hKK KK;refine wpOT_done ?_;show Kz _ _;refine hKz _ _ ?_;go_simp;clear x0 x1 x2 x3 y0 y1 y2 y3 z0 z1;have hG := HG.out;have H9 := Lib.hid (And.intro (RB.out.away (p := ⟨s + 1 + 1,0,none⟩) (by show s + 1 ≠ s + 1 + 1;omega) (.int .i64 0)) (And.intro (RE.out.put 0 (.int .i64 0)) (And.intro (RH.out.away (p := ⟨s + 1 + 1,0,none⟩) (by show h ≠ s + 1 + 1;omega) (.int .i64 0)) (BB.out.setCell (p := ⟨s + 1 + 1,0,none⟩) (by show s ≤ s + 1 + 1;omega) (.int .i64 0)))));clear RG RT RH RE RB BB HW8
 replace H9 : Hid (Row ((((((w8.setCell ⟨s + 1,0,none⟩ (.int .i64 k)).setCell ⟨s + 1,1,none⟩ (.int .i64 sd)).setCell ⟨s + 1,2,none⟩ (.int .i64 nx)).setCell ⟨s + 1,3,none⟩ (.slice (some ⟨h,0,none⟩) 0 c')).setCell ⟨s + 1 + 1,0,none⟩ (.int .i64 0)).drew) (s + 1) 50 [.int .i64 k,.int .i64 sd,.int .i64 nx,.slice (some ⟨h,0,none⟩) 0 c'] ∧ Row ((((((w8.setCell ⟨s + 1,0,none⟩ (.int .i64 k)).setCell ⟨s + 1,1,none⟩ (.int .i64 sd)).setCell ⟨s + 1,2,none⟩ (.int .i64 nx)).setCell ⟨s + 1,3,none⟩ (.slice (some ⟨h,0,none⟩) 0 c')).setCell ⟨s + 1 + 1,0,none⟩ (.int .i64 0)).drew) (s + 1 + 1) 33 [.int .i64 0] ∧ Row ((((((w8.setCell ⟨s + 1,0,none⟩ (.int .i64 k)).setCell ⟨s + 1,1,none⟩ (.int .i64 sd)).setCell ⟨s + 1,2,none⟩ (.int .i64 nx)).setCell ⟨s + 1,3,none⟩ (.slice (some ⟨h,0,none⟩) 0 c')).setCell ⟨s + 1 + 1,0,none⟩ (.int .i64 0)).drew) h 3 (.int .i64 0 :: rest) ∧ Below s w ((((((w8.setCell ⟨s + 1,0,none⟩ (.int .i64 k)).setCell ⟨s + 1,1,none⟩ (.int .i64 sd)).setCell ⟨s + 1,2,none⟩ (.int .i64 nx)).setCell ⟨s + 1,3,none⟩ (.slice (some ⟨h,0,none⟩) 0 c')).setCell ⟨s + 1 + 1,0,none⟩ (.int .i64 0)).drew)) := ⟨H9.out.1.drew,H9.out.2.1.drew,H9.out.2.2.1.drew,H9.out.2.2.2.drew⟩
 generalize (((((w8.setCell ⟨s + 1,0,none⟩ (.int .i64 k)).setCell ⟨s + 1,1,none⟩ (.int .i64 sd)).setCell ⟨s + 1,2,none⟩ (.int .i64 nx)).setCell ⟨s + 1,3,none⟩ (.slice (some ⟨h,0,none⟩) 0 c')).setCell ⟨s + 1 + 1,0,none⟩ (.int .i64 0)).drew = w9 at H9 ⊢;have z0 := H9.out.2.1.cell (i := 0) rfl
 go_wp2_with fail
 refine leaves_cons (f := 35) (args := #[.pointer (some ⟨s + 1 + 1,0,none⟩)]) (by simp) (by simp [go_sem]) ?_;refine (ncaught_idle ⟨s + 1 + 1,0,none⟩ _).mono ?_;rintro e u' w10 ⟨rfl,rfl,rfl⟩;obtain ⟨hr9,he9,hh9,hb9⟩ := H9.out;refine ⟨_,results_rttc (p := 6) (q := 7) (q2 := 8) (r := 9) rfl _ _ (s + 1) (s + 1 + 1) (.int .i64 0) 50 _ (0,0) _ (by rfl) hr9 Tryz.underlying50 (by rfl) (by kernel_rfl) (by rfl) (he9.cell (i := 0) rfl) (isAgg_errno _),HTK.out _ _ ⟨some ⟨h,0,none⟩,c',rfl,rd_nil _ _ _ _,by omega,hG.2.2.2.2,fun _ => ⟨h,0,rfl,by omega⟩⟩ hb9⟩
theorem take2_any (K : Sh.Cst) (k sd nx no doc y : Int) (A : Option Addr) (c : Nat) (w : World) (hk : 0 ≤ k ∧ k < 64) (hsd : 0 ≤ sd ∧ sd ≤ 1099511627776) (hno : 0 ≤ no ∧ no ≤ 4096) (hdoc : 0 ≤ doc ∧ doc < 4096) (hok : (⟨k,sd,nx,[no,y]⟩ : Bk).ok) (hy : no < y) (hL : Laid w) (hr : Rd w w.heap.size 1 A 2 (ivs [no,y])) (hnc : 2 ≤ c) (hcm : c ≤ maxLen) :
  Calls Tryz.prog 11 #[.agg #[.int .i64 k,.int .i64 sd,.int .i64 nx,.slice A 2 c],.int .i64 no,.int .i64 doc] w (TkR K k sd nx no [y] w) := by
 obtain ⟨s,hs⟩ : ∃ s,w.heap.size = s := ⟨_,rfl⟩;have HOP : Hid (∀ W,Below s w W → Calls Tryz.prog 36 #[.agg #[.int .i64 k,.int .i64 sd,.int .i64 nx,.slice A 2 c]] W (Opn W ⟨k,sd,nx,[no,y]⟩ A)) := fun W hW => open_any ⟨k,sd,nx,[no,y]⟩ A 2 c W hok ((hr.below (by rw [hs];exact hW)).more (by have := hW.size;omega)) hnc hcm (by decide);obtain ⟨w3,hw3⟩ : ∃ w3,((w.alloc (.cells #[.int .i64 k,.int .i64 sd,.int .i64 nx,.slice A 2 c] 50)).alloc (.cells #[.int .i64 0,.int .i64 0,.int .i64 0,.slice none 0 0] 50)).alloc (.cells #[.int .i64 0] 33) = w3 := ⟨_,rfl⟩;have hb3 : Below s w w3 := by rw [← hw3,← hs];exact (((Below.refl _ w).alloc (Nat.le_refl _) _).alloc (by simp) _).alloc (by simp;omega) _
 have hr1 : Row w3 (s + 1) 50 [.int .i64 0,.int .i64 0,.int .i64 0,.slice none 0 0] := by rw [← hw3];exact (Row.fresh' _ _ _ (by simp [hs])).alloc _
 have hr2 : Row w3 (s + 1 + 1) 33 [.int .i64 0] := by rw [← hw3];exact Row.fresh' _ _ _ (by simp [hs])
 have hsz3 : w3.heap.size = s + 1 + 1 + 1 := by rw [← hw3];simp [hs]
 have HW3 := Lib.hid (And.intro hb3 (And.intro hr1 (And.intro hr2 hsz3)));have HE := Lib.hid hw3;have HS := Lib.hid hs;have HLW := Lib.hid hL;have HTK : Hid (∀ r w',(∃ A c,r = .returned (.tuple #[.agg #[.int .i64 k,.int .i64 sd,.int .i64 nx,.slice A 1 c],.int .i64 (nz K k sd no 0),.int .i64 (nz K k sd no 1),.int .i64 0]) ∧ Rd w' w'.heap.size 1 A 1 (ivs [y]) ∧ 1 ≤ c ∧ c ≤ maxLen ∧ Fr s 1 A) → Below s w w' → TkR K k sd nx no [y] w r w') := fun r w' h1 h2 => ⟨by rw [hs];exact h1,by rw [hs];exact h2⟩;have HLS : Hid (2 ≤ s) := by show 2 ≤ s;have := hL.size;omega
 have d1 : decide (0 ≤ doc) = true := decide_eq_true hdoc.1;have d2 : decide (doc < 4096) = true := decide_eq_true hdoc.2;have HK := Lib.hid (And.intro hk (And.intro hsd hno));generalize hQQ : TkR K k sd nx no [y] w = QQ at HTK ⊢;clear hQQ hok hb3 hr1 hr2 hsz3 hw3 hs hL hr hnc hcm hk hsd hno
 go_enter_defers Tryz.func11,Tryz.ntmps11
 go_wp2_with fail
 rw [HS.out,HE.out];refine (HOP.out w3 HW3.out.1).mono ?_;rintro r w4 ⟨⟨g,A',c',rfl,hr4,how,hg4,hown,_⟩,hb4⟩;dsimp only [List.length] at hr4 how hown;have HW4 := Lib.hid (And.intro (HW3.out.1.trans (hb4.mono (by have := HW3.out.2.2.2;omega))) (And.intro (HW3.out.2.1.below hb4 HW3.out.2.1.lt) (And.intro (HW3.out.2.2.1.below hb4 HW3.out.2.2.1.lt) hr4)));obtain ⟨h,rest,hA',hrh,hcap,hcm,hsh⟩ := own_row how (by decide);subst hA';have hgh : h < g := hown h rfl;have HG : Hid (s + 1 + 1 < h ∧ h < g ∧ g < w4.heap.size ∧ 2 + rest.length = c' ∧ c' ≤ maxLen) := ⟨by have := HW3.out.2.2.2;omega,hgh,hr4.lt,hcap,hcm⟩;have HRH := Lib.hid hrh;have q3 := hr4.cell (i := 3) rfl;have e0 := hrh.cell (i := 0) rfl;have e1 := hrh.cell (i := 1) rfl;clear hr4 hb4 hg4 HW3 hrh hcap hcm hsh hgh how hown
 go_wp2_with (refine (nneed_any _ _).mono ?_;rintro r w5 ⟨rfl,rfl⟩)
 refine (bs2_any h c' no y w4 e0 e1 hy).mono ?_;rintro r w5 ⟨rfl,rfl⟩
 go_wp2_with (refine (nneed_any _ _).mono ?_;rintro r w5 ⟨rfl,rfl⟩)
 refine (del2_any h c' no y rest w4 HRH.out (by have := HG.out;omega) (by have := HG.out;unfold maxLen at this;omega)).mono ?_;rintro r w5 ⟨rfl,hr5,hg5⟩;have hG := HG.out;have HW5 := Lib.hid (And.intro (HW4.out.1.grown hg5 (by omega) (fun k e => by cases e;omega)) (And.intro (HW4.out.2.1.grown hg5 (by intro e;cases e;omega)) (And.intro (HW4.out.2.2.1.grown hg5 (by intro e;cases e;omega)) (HW4.out.2.2.2.grown hg5 (by intro e;cases e;omega)))));have HRH5 := Lib.hid hr5;clear hr5 hg5 e0 q3 e1 HRH HOP HE HW4;have q3 := HW5.out.2.2.2.cell (i := 3) rfl;have f3 := HW5.out.2.2.2.fz 3;clear hG
 go_wp2_with fail
 clear q3 f3;have hG := HG.out;have hb6 : Below s w (w5.setCell ⟨g,3,none⟩ (.slice (some ⟨h,0,none⟩) 1 c')) := HW5.out.1.setCell (p := ⟨g,3,none⟩) (by show s ≤ g;omega) _;have hr6 := HW5.out.2.2.2.put 3 (.slice (some ⟨h,0,none⟩) 1 c');have hx6 := HW5.out.2.1.away (p := ⟨g,3,none⟩) (by show s + 1 ≠ g;omega) (.slice (some ⟨h,0,none⟩) 1 c');have he6 := HW5.out.2.2.1.away (p := ⟨g,3,none⟩) (by show s + 1 + 1 ≠ g;omega) (.slice (some ⟨h,0,none⟩) 1 c');have hh6 := HRH5.out.away (p := ⟨g,3,none⟩) (by show h ≠ g;omega) (.slice (some ⟨h,0,none⟩) 1 c');have hL6 := HLW.out.below hb6 HLS.out;clear HW5 HRH5;generalize w5.setCell ⟨g,3,none⟩ (.slice (some ⟨h,0,none⟩) 1 c') = w6 at hb6 hr6 hx6 he6 hh6 hL6 ⊢;refine (numbers_any K k sd no nx _ _ _ g w6 HK.out.1 HK.out.2.1 HK.out.2.2 hL6 hr6).mono ?_;rintro r w7 ⟨rfl,hb7⟩;have hb7' : Below s w w7 := hb6.trans (hb7.mono (by have := hx6.lt;omega));have HW7 := Lib.hid (And.intro hb7' (And.intro (hx6.below hb7 hx6.lt) (And.intro (he6.below hb7 he6.lt) (And.intro (hr6.below hb7 hr6.lt) (hh6.below hb7 hh6.lt)))));clear hb6 hr6 hx6 he6 hh6 hL6 hb7 hb7' hG;obtain ⟨X,hX⟩ : ∃ X,nz K k sd no 0 = X := ⟨_,rfl⟩;obtain ⟨Y,hY⟩ : ∃ Y,nz K k sd no 1 = Y := ⟨_,rfl⟩;have HXY := Lib.hid (And.intro hX hY);rw [hX,hY] at HTK ⊢;clear hX hY
 go_wp2_with fail
 obtain ⟨t,ht⟩ : ∃ t,w7.heap.size = t := ⟨_,rfl⟩;rw [ht];have hrt := Row.fresh' w7 113 [.int .i64 X,.int .i64 Y] ht
 have HW8 : Hid (Below s w (w7.alloc (.cells #[.int .i64 X,.int .i64 Y] 113)) ∧ Row (w7.alloc (.cells #[.int .i64 X,.int .i64 Y] 113)) (s + 1) 50 [.int .i64 0,.int .i64 0,.int .i64 0,.slice none 0 0] ∧ Row (w7.alloc (.cells #[.int .i64 X,.int .i64 Y] 113)) (s + 1 + 1) 33 [.int .i64 0] ∧ Row (w7.alloc (.cells #[.int .i64 X,.int .i64 Y] 113)) g 100 [.int .i64 k,.int .i64 sd,.int .i64 nx,.slice (some ⟨h,0,none⟩) 1 c'] ∧ Row (w7.alloc (.cells #[.int .i64 X,.int .i64 Y] 113)) h 3 (.int .i64 y :: .int .i64 0 :: rest) ∧ Row (w7.alloc (.cells #[.int .i64 X,.int .i64 Y] 113)) t 113 [.int .i64 X,.int .i64 Y]) :=
  ⟨HW7.out.1.alloc (by have := HW7.out.2.1.lt;omega) _,HW7.out.2.1.alloc _,HW7.out.2.2.1.alloc _,HW7.out.2.2.2.1.alloc _,HW7.out.2.2.2.2.alloc _,hrt⟩
 have HT : Hid (g < t) := by have := HW7.out.2.2.2.1.lt;show g < t;omega
 clear hrt ht HW7;generalize w7.alloc (.cells #[.int .i64 X,.int .i64 Y] 113) = w8 at HW8 ⊢
 go_wp2_with fail
 rename_i Kz hKz;have x0 := HW8.out.2.1.cell (i := 0) rfl;have x1 := HW8.out.2.1.cell (i := 1) rfl;have x2 := HW8.out.2.1.cell (i := 2) rfl;have x3 := HW8.out.2.1.cell (i := 3) rfl;have y0 := HW8.out.2.1.fz 0;have y1 := HW8.out.2.1.fz 1;have y2 := HW8.out.2.1.fz 2;have y3 := HW8.out.2.1.fz 3;have z0 := HW8.out.2.2.1.cell (i := 0) rfl;have z1 := HW8.out.2.2.1.fz 0;have RG := Lib.hid ((((HW8.out.2.2.2.1.away (p := ⟨s + 1,0,none⟩) (by have := HG.out;have := HT.out;show g ≠ s + 1;omega) (.int .i64 k)).away (p := ⟨s + 1,1,none⟩) (by have := HG.out;have := HT.out;show g ≠ s + 1;omega) (.int .i64 sd)).away (p := ⟨s + 1,2,none⟩) (by have := HG.out;have := HT.out;show g ≠ s + 1;omega) (.int .i64 nx)).away (p := ⟨s + 1,3,none⟩) (by have := HG.out;have := HT.out;show g ≠ s + 1;omega) (.slice (some ⟨h,0,none⟩) 1 c'));have RT := Lib.hid ((((HW8.out.2.2.2.2.2.away (p := ⟨s + 1,0,none⟩) (by have := HG.out;have := HT.out;show t ≠ s + 1;omega) (.int .i64 k)).away (p := ⟨s + 1,1,none⟩) (by have := HG.out;have := HT.out;show t ≠ s + 1;omega) (.int .i64 sd)).away (p := ⟨s + 1,2,none⟩) (by have := HG.out;have := HT.out;show t ≠ s + 1;omega) (.int .i64 nx)).away (p := ⟨s + 1,3,none⟩) (by have := HG.out;have := HT.out;show t ≠ s + 1;omega) (.slice (some ⟨h,0,none⟩) 1 c'));have RH := Lib.hid ((((HW8.out.2.2.2.2.1.away (p := ⟨s + 1,0,none⟩) (by have := HG.out;have := HT.out;show h ≠ s + 1;omega) (.int .i64 k)).away (p := ⟨s + 1,1,none⟩) (by have := HG.out;have := HT.out;show h ≠ s + 1;omega) (.int .i64 sd)).away (p := ⟨s + 1,2,none⟩) (by have := HG.out;have := HT.out;show h ≠ s + 1;omega) (.int .i64 nx)).away (p := ⟨s + 1,3,none⟩) (by have := HG.out;have := HT.out;show h ≠ s + 1;omega) (.slice (some ⟨h,0,none⟩) 1 c'));have RE := Lib.hid ((((HW8.out.2.2.1.away (p := ⟨s + 1,0,none⟩) (by have := HG.out;have := HT.out;show s + 1 + 1 ≠ s + 1;omega) (.int .i64 k)).away (p := ⟨s + 1,1,none⟩) (by have := HG.out;have := HT.out;show s + 1 + 1 ≠ s + 1;omega) (.int .i64 sd)).away (p := ⟨s + 1,2,none⟩) (by have := HG.out;have := HT.out;show s + 1 + 1 ≠ s + 1;omega) (.int .i64 nx)).away (p := ⟨s + 1,3,none⟩) (by have := HG.out;have := HT.out;show s + 1 + 1 ≠ s + 1;omega) (.slice (some ⟨h,0,none⟩) 1 c'));have RB := Lib.hid ((((HW8.out.2.1.put 0 (.int .i64 k)).put 1 (.int .i64 sd)).put 2 (.int .i64 nx)).put 3 (.slice (some ⟨h,0,none⟩) 1 c'));have BB := Lib.hid ((((HW8.out.1.setCell (p := ⟨s + 1,0,none⟩) (by show s ≤ s + 1;omega) (.int .i64 k)).setCell (p := ⟨s + 1,1,none⟩) (by show s ≤ s + 1;omega) (.int .i64 sd)).setCell (p := ⟨s + 1,2,none⟩) (by show s ≤ s + 1;omega) (.int .i64 nx)).setCell (p := ⟨s + 1,3,none⟩) (by show s ≤ s + 1;omega) (.slice (some ⟨h,0,none⟩) 1 c'));refine wp_region_treeM (fun W => Row W g 100 [.int .i64 k,.int .i64 sd,.int .i64 nx,.slice (some ⟨h,0,none⟩) 1 c'] ∧ Row W t 113 [.int .i64 X,.int .i64 Y]) (.take 0 (.take 1 (.take 2 (.take 3 (.take 4 (.take 5 (.take 6 (.take 7 (.one 8 (.take 9 (.take 10 (.one 11 .done)))))))))))) (by kernel_rfl) (by kernel_rfl) (by kernel_rfl) (by kernel_rfl) ⟨HW8.out.2.2.2.1,HW8.out.2.2.2.2.2⟩ ?_
 iterate 8 (refine wpOT_take rfl _ (by rfl) (by intro w' hS;obtain ⟨hS1,hS2⟩ := hS;have o0 := hS1.cell (i := 0) rfl;have o1 := hS1.cell (i := 1) rfl;have o2 := hS1.cell (i := 2) rfl;have o3 := hS1.cell (i := 3) rfl;have o4 := hS2.cell (i := 0) rfl;have o5 := hS2.cell (i := 1) rfl;go_simp;try with_reducible rfl) fun KK hKK => ?_;go_simp;refine hKK _ ?_;clear hKK KK)
 refine wpOT_one rfl (by rfl) fun KK hKK => ?_;go_simp;refine hKK _ _ ⟨RG.out.drew,RT.out.drew⟩ ?_
 iterate 2 (clear hKK KK;refine wpOT_take rfl _ (by rfl) (by intro w' hS;obtain ⟨hS1,hS2⟩ := hS;have o0 := hS1.cell (i := 0) rfl;have o1 := hS1.cell (i := 1) rfl;have o2 := hS1.cell (i := 2) rfl;have o3 := hS1.cell (i := 3) rfl;have o4 := hS2.cell (i := 0) rfl;have o5 := hS2.cell (i := 1) rfl;go_simp;try with_reducible rfl) fun KK hKK => ?_;go_simp;refine hKK _ ?_)
 clear hKK KK;refine wpOT_one rfl (by rfl) fun KK hKK => ?_;go_simp;refine hKK _ _ ⟨(RG.out.away (p := ⟨s + 1 + 1,0,none⟩) (by have := HG.out;have := HT.out;show g ≠ s + 1 + 1;omega) (.int .i64 0)).drew,(RT.out.away (p := ⟨s + 1 + 1,0,none⟩) (by have := HG.out;have := HT.out;show t ≠ s + 1 + 1;omega) (.int .i64 0)).drew⟩ ?_;clear hKK KK;refine wpOT_done ?_;show Kz _ _;refine hKz _ _ ?_;go_simp;clear x0 x1 x2 x3 y0 y1 y2 y3 z0 z1;have hG := HG.out;have H9 := Lib.hid (And.intro (RB.out.away (p := ⟨s + 1 + 1,0,none⟩) (by show s + 1 ≠ s + 1 + 1;omega) (.int .i64 0)) (And.intro (RE.out.put 0 (.int .i64 0)) (And.intro (RH.out.away (p := ⟨s + 1 + 1,0,none⟩) (by show h ≠ s + 1 + 1;omega) (.int .i64 0)) (BB.out.setCell (p := ⟨s + 1 + 1,0,none⟩) (by show s ≤ s + 1 + 1;omega) (.int .i64 0)))));clear RG RT RH RE RB BB HW8
 replace H9 : Hid (Row ((((((w8.setCell ⟨s + 1,0,none⟩ (.int .i64 k)).setCell ⟨s + 1,1,none⟩ (.int .i64 sd)).setCell ⟨s + 1,2,none⟩ (.int .i64 nx)).setCell ⟨s + 1,3,none⟩ (.slice (some ⟨h,0,none⟩) 1 c')).setCell ⟨s + 1 + 1,0,none⟩ (.int .i64 0)).drew) (s + 1) 50 [.int .i64 k,.int .i64 sd,.int .i64 nx,.slice (some ⟨h,0,none⟩) 1 c'] ∧ Row ((((((w8.setCell ⟨s + 1,0,none⟩ (.int .i64 k)).setCell ⟨s + 1,1,none⟩ (.int .i64 sd)).setCell ⟨s + 1,2,none⟩ (.int .i64 nx)).setCell ⟨s + 1,3,none⟩ (.slice (some ⟨h,0,none⟩) 1 c')).setCell ⟨s + 1 + 1,0,none⟩ (.int .i64 0)).drew) (s + 1 + 1) 33 [.int .i64 0] ∧ Row ((((((w8.setCell ⟨s + 1,0,none⟩ (.int .i64 k)).setCell ⟨s + 1,1,none⟩ (.int .i64 sd)).setCell ⟨s + 1,2,none⟩ (.int .i64 nx)).setCell ⟨s + 1,3,none⟩ (.slice (some ⟨h,0,none⟩) 1 c')).setCell ⟨s + 1 + 1,0,none⟩ (.int .i64 0)).drew) h 3 (.int .i64 y :: .int .i64 0 :: rest) ∧ Below s w ((((((w8.setCell ⟨s + 1,0,none⟩ (.int .i64 k)).setCell ⟨s + 1,1,none⟩ (.int .i64 sd)).setCell ⟨s + 1,2,none⟩ (.int .i64 nx)).setCell ⟨s + 1,3,none⟩ (.slice (some ⟨h,0,none⟩) 1 c')).setCell ⟨s + 1 + 1,0,none⟩ (.int .i64 0)).drew)) := ⟨H9.out.1.drew,H9.out.2.1.drew,H9.out.2.2.1.drew,H9.out.2.2.2.drew⟩
 generalize (((((w8.setCell ⟨s + 1,0,none⟩ (.int .i64 k)).setCell ⟨s + 1,1,none⟩ (.int .i64 sd)).setCell ⟨s + 1,2,none⟩ (.int .i64 nx)).setCell ⟨s + 1,3,none⟩ (.slice (some ⟨h,0,none⟩) 1 c')).setCell ⟨s + 1 + 1,0,none⟩ (.int .i64 0)).drew = w9 at H9 ⊢;have z0 := H9.out.2.1.cell (i := 0) rfl
 go_wp2_with fail
 refine leaves_cons (f := 35) (args := #[.pointer (some ⟨s + 1 + 1,0,none⟩)]) (by simp) (by simp [go_sem]) ?_;refine (ncaught_idle ⟨s + 1 + 1,0,none⟩ _).mono ?_;rintro e u' w10 ⟨rfl,rfl,rfl⟩;obtain ⟨hr9,he9,hh9,hb9⟩ := H9.out
 refine ⟨_,results_rttc (p := 6) (q := 7) (q2 := 8) (r := 9) rfl _ _ (s + 1) (s + 1 + 1) (.int .i64 0) 50 _ (0,0) _ (by rfl) hr9 Tryz.underlying50 (by rfl) (by kernel_rfl) (by rfl) (he9.cell (i := 0) rfl) (isAgg_errno _),HTK.out _ _ ⟨some ⟨h,0,none⟩,c',rfl,⟨rfl,fun _ => ⟨h,0,rfl,hh9.lt,fun j u hu => by match j,hu with
  | 0,hu => (exact (hh9.cell (i := 0) rfl).trans (by simpa using hu))
  | j + 1,hu => (simp at hu)⟩⟩,by omega,hG.2.2.2.2,fun _ => ⟨h,0,rfl,by omega⟩⟩ hb9⟩
def TkN (w : World) (r : Ending) (w' : World) : Prop := (∃ d f,r = .returned (.tuple #[.agg #[.int .i64 0,.int .i64 0,.int .i64 0,.slice none 0 0],d,f,.int .i64 411])) ∧ Below w.heap.size w w'
theorem take0n_any (k sd nx no doc : Int) (A : Option Addr) (c : Nat) (w : World) (hdoc : 0 ≤ doc ∧ doc < 4096) (hok : (⟨k,sd,nx,[]⟩ : Bk).ok) (hr : Rd w w.heap.size 1 A 0 (ivs [])) (hnc : 0 ≤ c) (hcm : c ≤ maxLen) :
  Calls Tryz.prog 11 #[.agg #[.int .i64 k,.int .i64 sd,.int .i64 nx,.slice A 0 c],.int .i64 no,.int .i64 doc] w (TkN w) := by
 obtain ⟨s,hs⟩ : ∃ s,w.heap.size = s := ⟨_,rfl⟩;have HOP : Hid (∀ W,Below s w W → Calls Tryz.prog 36 #[.agg #[.int .i64 k,.int .i64 sd,.int .i64 nx,.slice A 0 c]] W (Opn W ⟨k,sd,nx,[]⟩ A)) := fun W hW => open_any ⟨k,sd,nx,[]⟩ A 0 c W hok ((hr.below (by rw [hs];exact hW)).more (by have := hW.size;omega)) hnc hcm (by decide);obtain ⟨w3,hw3⟩ : ∃ w3,((w.alloc (.cells #[.int .i64 k,.int .i64 sd,.int .i64 nx,.slice A 0 c] 50)).alloc (.cells #[.int .i64 0,.int .i64 0,.int .i64 0,.slice none 0 0] 50)).alloc (.cells #[.int .i64 0] 33) = w3 := ⟨_,rfl⟩;have hb3 : Below s w w3 := by rw [← hw3,← hs];exact (((Below.refl _ w).alloc (Nat.le_refl _) _).alloc (by simp) _).alloc (by simp;omega) _
 have hr1 : Row w3 (s + 1) 50 [.int .i64 0,.int .i64 0,.int .i64 0,.slice none 0 0] := by rw [← hw3];exact (Row.fresh' _ _ _ (by simp [hs])).alloc _
 have hr2 : Row w3 (s + 1 + 1) 33 [.int .i64 0] := by rw [← hw3];exact Row.fresh' _ _ _ (by simp [hs])
 have hsz3 : w3.heap.size = s + 1 + 1 + 1 := by rw [← hw3];simp [hs]
 have HW3 := Lib.hid (And.intro hb3 (And.intro hr1 (And.intro hr2 hsz3)));have HE := Lib.hid hw3;have HS := Lib.hid hs;have HTK : Hid (∀ r w',(∃ d f,r = .returned (.tuple #[.agg #[.int .i64 0,.int .i64 0,.int .i64 0,.slice none 0 0],d,f,.int .i64 411])) → Below s w w' → TkN w r w') := fun r w' h1 h2 => ⟨h1,by rw [hs];exact h2⟩;have d1 : decide (0 ≤ doc) = true := decide_eq_true hdoc.1;have d2 : decide (doc < 4096) = true := decide_eq_true hdoc.2;generalize hQQ : TkN w = QQ at HTK ⊢;clear hQQ hok hb3 hr1 hr2 hsz3 hw3 hs hr hnc hcm
 go_enter_defers Tryz.func11,Tryz.ntmps11
 go_wp2_with fail
 rw [HS.out,HE.out];refine (HOP.out w3 HW3.out.1).mono ?_;rintro r w4 ⟨⟨g,A',c',rfl,hr4,how,hg4,hown,_⟩,hb4⟩;dsimp only [List.length] at hr4 how hown;have HW4 := Lib.hid (And.intro (HW3.out.1.trans (hb4.mono (by have := HW3.out.2.2.2;omega))) (And.intro (HW3.out.2.1.below hb4 HW3.out.2.1.lt) (And.intro (HW3.out.2.2.1.below hb4 HW3.out.2.2.1.lt) hr4)));have q3 := hr4.cell (i := 3) rfl;clear hr4 hb4 hg4 HW3 hown how
 go_wp2_with (refine (nneed_any _ _).mono ?_;rintro r w5 ⟨rfl,rfl⟩)
 refine (bs0_any A' c' no w4).mono ?_;rintro r w5 ⟨rfl,rfl⟩;clear q3
 go_wp2_with (refine (nneed_dies _ _).mono ?_;rintro r w5 ⟨rfl,rfl⟩)
 refine leaves_cons (f := 35) (args := #[.pointer (some ⟨s + 1 + 1,0,none⟩)]) (by simp) (by simp [go_sem]) ?_;refine (ncaught_dies ⟨s + 1 + 1,0,none⟩ 411 0 _ (HW4.out.2.2.1.cell (i := 0) rfl) (HW4.out.2.2.1.fz 0)).mono ?_;rintro e u' w9 ⟨rfl,rfl,rfl⟩;have hr9 := HW4.out.2.1.away (p := ⟨s + 1 + 1,0,none⟩) (by show s + 1 ≠ s + 1 + 1;omega) (.int .i64 411);have he9 := HW4.out.2.2.1.put 0 (.int .i64 411);show Leaves _ _ _ _ [] .returning _;refine ⟨_,results_rttc (p := 6) (q := 7) (q2 := 8) (r := 9) rfl _ _ (s + 1) (s + 1 + 1) (.int .i64 411) 50 _ (0,0) _ (by rfl) hr9 Tryz.underlying50 (by rfl) (by kernel_rfl) (by rfl) (he9.cell (i := 0) rfl) (isAgg_errno _),HTK.out _ _ ⟨_,_,rfl⟩ ?_⟩;exact HW4.out.1.setCell (p := ⟨s + 1 + 1,0,none⟩) (by show s ≤ s + 1 + 1;omega) _
theorem take1n_any (k sd nx no doc y : Int) (A : Option Addr) (c : Nat) (w : World) (hdoc : 0 ≤ doc ∧ doc < 4096) (hok : (⟨k,sd,nx,[y]⟩ : Bk).ok) (hy : no < y) (hr : Rd w w.heap.size 1 A 1 (ivs [y])) (hnc : 1 ≤ c) (hcm : c ≤ maxLen) :
  Calls Tryz.prog 11 #[.agg #[.int .i64 k,.int .i64 sd,.int .i64 nx,.slice A 1 c],.int .i64 no,.int .i64 doc] w (TkN w) := by
 obtain ⟨s,hs⟩ : ∃ s,w.heap.size = s := ⟨_,rfl⟩;have HOP : Hid (∀ W,Below s w W → Calls Tryz.prog 36 #[.agg #[.int .i64 k,.int .i64 sd,.int .i64 nx,.slice A 1 c]] W (Opn W ⟨k,sd,nx,[y]⟩ A)) := fun W hW => open_any ⟨k,sd,nx,[y]⟩ A 1 c W hok ((hr.below (by rw [hs];exact hW)).more (by have := hW.size;omega)) hnc hcm (by decide);obtain ⟨w3,hw3⟩ : ∃ w3,((w.alloc (.cells #[.int .i64 k,.int .i64 sd,.int .i64 nx,.slice A 1 c] 50)).alloc (.cells #[.int .i64 0,.int .i64 0,.int .i64 0,.slice none 0 0] 50)).alloc (.cells #[.int .i64 0] 33) = w3 := ⟨_,rfl⟩;have hb3 : Below s w w3 := by rw [← hw3,← hs];exact (((Below.refl _ w).alloc (Nat.le_refl _) _).alloc (by simp) _).alloc (by simp;omega) _
 have hr1 : Row w3 (s + 1) 50 [.int .i64 0,.int .i64 0,.int .i64 0,.slice none 0 0] := by rw [← hw3];exact (Row.fresh' _ _ _ (by simp [hs])).alloc _
 have hr2 : Row w3 (s + 1 + 1) 33 [.int .i64 0] := by rw [← hw3];exact Row.fresh' _ _ _ (by simp [hs])
 have hsz3 : w3.heap.size = s + 1 + 1 + 1 := by rw [← hw3];simp [hs]
 have HW3 := Lib.hid (And.intro hb3 (And.intro hr1 (And.intro hr2 hsz3)));have HE := Lib.hid hw3;have HS := Lib.hid hs;have HTK : Hid (∀ r w',(∃ d f,r = .returned (.tuple #[.agg #[.int .i64 0,.int .i64 0,.int .i64 0,.slice none 0 0],d,f,.int .i64 411])) → Below s w w' → TkN w r w') := fun r w' h1 h2 => ⟨h1,by rw [hs];exact h2⟩;have d1 : decide (0 ≤ doc) = true := decide_eq_true hdoc.1;have d2 : decide (doc < 4096) = true := decide_eq_true hdoc.2;generalize hQQ : TkN w = QQ at HTK ⊢;clear hQQ hok hb3 hr1 hr2 hsz3 hw3 hs hr hnc hcm
 go_enter_defers Tryz.func11,Tryz.ntmps11
 go_wp2_with fail
 rw [HS.out,HE.out];refine (HOP.out w3 HW3.out.1).mono ?_;rintro r w4 ⟨⟨g,A',c',rfl,hr4,how,hg4,hown,_⟩,hb4⟩;dsimp only [List.length] at hr4 how hown;have HW4 := Lib.hid (And.intro (HW3.out.1.trans (hb4.mono (by have := HW3.out.2.2.2;omega))) (And.intro (HW3.out.2.1.below hb4 HW3.out.2.1.lt) (And.intro (HW3.out.2.2.1.below hb4 HW3.out.2.2.1.lt) hr4)));obtain ⟨h,rest,hA',hrh,hcap,hcm,hsh⟩ := own_row how (by decide);subst hA';have e0 := hrh.cell (i := 0) rfl;have q3 := hr4.cell (i := 3) rfl;clear hr4 hb4 hg4 HW3 hown how
 go_wp2_with (refine (nneed_any _ _).mono ?_;rintro r w5 ⟨rfl,rfl⟩)
 refine (bsn_any h c' no y w4 e0 hy).mono ?_;rintro r w5 ⟨rfl,rfl⟩;clear q3
 go_wp2_with (refine (nneed_dies _ _).mono ?_;rintro r w5 ⟨rfl,rfl⟩)
 refine leaves_cons (f := 35) (args := #[.pointer (some ⟨s + 1 + 1,0,none⟩)]) (by simp) (by simp [go_sem]) ?_;refine (ncaught_dies ⟨s + 1 + 1,0,none⟩ 411 0 _ (HW4.out.2.2.1.cell (i := 0) rfl) (HW4.out.2.2.1.fz 0)).mono ?_;rintro e u' w9 ⟨rfl,rfl,rfl⟩;have hr9 := HW4.out.2.1.away (p := ⟨s + 1 + 1,0,none⟩) (by show s + 1 ≠ s + 1 + 1;omega) (.int .i64 411);have he9 := HW4.out.2.2.1.put 0 (.int .i64 411);show Leaves _ _ _ _ [] .returning _;refine ⟨_,results_rttc (p := 6) (q := 7) (q2 := 8) (r := 9) rfl _ _ (s + 1) (s + 1 + 1) (.int .i64 411) 50 _ (0,0) _ (by rfl) hr9 Tryz.underlying50 (by rfl) (by kernel_rfl) (by rfl) (he9.cell (i := 0) rfl) (isAgg_errno _),HTK.out _ _ ⟨_,_,rfl⟩ ?_⟩;exact HW4.out.1.setCell (p := ⟨s + 1 + 1,0,none⟩) (by show s ≤ s + 1 + 1;omega) _
section
variable {W : World} {B N : Nat} {P : List Int} {RA : Option Addr} {rc : Nat} {OA : Option Addr} {oc : Nat} {rs : List RI}
theorem Prg.row (h : Prg W B N P RA rc OA oc rs) (h0 : 0 < P.length) : ∃ b o,RA = some ⟨b,o,none⟩ ∧ b < B ∧ ∀ k,k < P.length → ∃ A c,∃ d : List Int,rs.getD k r0 = ⟨A,c,d⟩ ∧ d.length = N ∧ (∀ x ∈ d,0 ≤ x ∧ x < 1073741789) ∧ (⟨A,c,d⟩ : RI).ok W B ∧ ∀ V,Below B W V → V.cell? ⟨b,o + k,none⟩ = some (.slice A N c) := by
 obtain ⟨b,o,e1,hb,hc⟩ := h.rd.at (by rw [h.len];exact h0);refine ⟨b,o,e1,hb,fun k hk => ?_⟩;have hk' : k < rs.length := by rw [h.len];exact hk
 have hm := (getD_mem' hk').1;obtain ⟨R,hr⟩ : ∃ R,rs.getD k r0 = R := ⟨_,rfl⟩;obtain ⟨A,c,d⟩ := R;rw [hr] at hm;have hf := h.dat _ hm;have hl : d.length = N := hf.len;refine ⟨A,c,d,hr,hl,fun x hx => ⟨hf.lo x hx,hf.hi x hx⟩,h.rd.rows _ hm,fun V hV => ?_⟩;have := hc k hk' V hV;rw [hr,RI.cell_eq] at this;rw [this];show some (Value.slice A d.length c) = _;rw [hl]
end
theorem pcheck_any (N : Nat) (P : List Int) (RA : Option Addr) (rc : Nat) (OA : Option Addr) (oc : Nat) (rs : List RI) (w : World) (h : Prg w w.heap.size N P RA rc OA oc rs) (h0 : 0 < P.length) (hP : ∀ p ∈ P,0 ≤ p ∧ p < 64) (hN0 : 1 ≤ N) (hN : N ≤ 64) (hn : P.length ≤ 64) :
  Calls Tryz.prog 26 #[.agg #[.slice RA P.length rc,.slice OA P.length oc]] w fun r w' => r = .returned (.int .i64 0) ∧ w.alloc (.cells #[.slice RA P.length rc,.slice OA P.length oc] 25) = w' := by
 obtain ⟨s,hs⟩ : ∃ s,w.heap.size = s := ⟨_,rfl⟩;obtain ⟨n,hnn⟩ : ∃ n,P.length = n := ⟨_,rfl⟩;obtain ⟨b,o,hRA,hb,hrow⟩ := h.row h0;subst hRA;obtain ⟨_,b2,o2,hOA,hb2,hown⟩ := i64at h.own h0;subst hOA
 have HCR : Hid (∀ W,Below s w W → Calls Tryz.prog 75 #[.slice (some ⟨b,o,none⟩) n rc,.func (.func 74) #[] #[]] W fun r w' => r = .returned (.bool false) ∧ W = w') := fun W hW => by
  refine prC_any (some ⟨b,o,none⟩) n rc (by omega) (fun k => (rs.getD k r0).A) (fun k => N) (fun k => (rs.getD k r0).c) (fun _ V => W = V) W rfl (fun _ => ⟨b,o,rfl,fun k hk V hV => ?_⟩) (fun k hk V hV => ?_)
  ·subst hV
   obtain ⟨A,c,d,e,_,_,_,hc⟩ := hrow k (by omega);rw [e];exact hc W (by rw [hs];exact hW)
  ·subst hV
   exact pcheck1_any _ _ _ W hN
 have HCI : Hid (∀ k,k < n → ∃ A c,(∀ V,Below s w V → V.cell? ⟨b,o + k,none⟩ = some (.slice A N c)) ∧ ∀ W,Below s w W → Calls Tryz.prog 79 #[.slice A N c,.func (.func 76) #[] #[]] W fun r w' => r = .returned (.bool false) ∧ W = w') := fun k hk => by
  obtain ⟨A,c,d,e,hdl,hdm,hok,hc⟩ := hrow k (by omega);refine ⟨A,c,by rw [← hs];exact hc,fun W hW => ?_⟩;have hok2 := hok.below (w' := W) (by rw [hs];exact hW);obtain ⟨b3,o3,hA3,hb3,hc3⟩ := RI.at hok2 (by show 0 < d.length;rw [hdl];exact hN0);have hA3 : A = some ⟨b3,o3,none⟩ := hA3;refine poC_any A N c (by omega) (fun j => d.getD j 0) (fun _ V => W = V) W rfl (fun _ => ⟨b3,o3,hA3,fun j hj V hV => ?_⟩) (fun j hj V hV => ?_)
  ·subst hV
   exact hc3 j (by show j < d.length;rw [hdl];exact hj) W (Below.refl _ _)
  ·subst hV
   have hm : d.getD j 0 ∈ d := by
    rw [List.getD_eq_getElem?_getD,List.getElem?_eq_getElem (by rw [hdl];exact hj)];exact List.getElem_mem _
   exact pcheck2_any _ W (hdm _ hm).1 (hdm _ hm).2
 have HPE : Hid (∀ k,k < n → ∃ p : Int,(∀ V,Below s w V → V.cell? ⟨b2,o2 + k,none⟩ = some (.int .i64 p)) ∧ ∀ W,Calls Tryz.prog 78 #[.int .i64 p] W fun r w' => r = .returned (.bool true) ∧ W = w') := fun k hk => by
  refine ⟨P.getD k 0,by rw [← hs];exact hown k (by omega),fun W => ?_⟩
  have hm : P.getD k 0 ∈ P := by
   rw [List.getD_eq_getElem?_getD,List.getElem?_eq_getElem (by omega)];exact List.getElem_mem _
  exact isPerson_any _ W (hP _ hm).1 (hP _ hm).2
 rw [hnn] at hn h0 ⊢;obtain ⟨w1,hw1⟩ : ∃ x,w.alloc (.cells #[.slice (some ⟨b,o,none⟩) n rc,.slice (some ⟨b2,o2,none⟩) n oc] 25) = x := ⟨_,rfl⟩;have hB1 : Below s w w1 := by rw [← hw1,← hs];exact (Below.refl _ _).alloc (Nat.le_refl _) _
 have hR1 : Row w1 s 25 [.slice (some ⟨b,o,none⟩) n rc,.slice (some ⟨b2,o2,none⟩) n oc] := by rw [← hw1];exact Row.fresh' _ _ _ hs
 have HB1 := Lib.hid hB1;have HR1 := Lib.hid hR1;have HCR1 := Lib.hid (HCR.out w1 hB1);have HS := Lib.hid hs;have HW1 := Lib.hid hw1;clear hw1;have hn64 : ¬ (64 < (n : Int)) := by omega
 have hN1 : ((N : Int) == 0) = false := by simp;omega
 clear h hrow hown hP hnn hs hB1 hR1 hb hb2 HCR;go_enter Tryz.func26,Tryz.ntmps26
 go_wp2_with fail
 rw [HW1.out,HS.out];refine HCR1.out.mono ?_;rintro x w2 ⟨rfl,rfl⟩;have p0 := HR1.out.cell (i := 0) rfl;have p1 := HR1.out.cell (i := 1) rfl
 go_wp2_with fail
 go_loopw [27] (fun i wr => w1 = wr ∧ ∃ k : Nat,k ≤ n ∧ i = .int .i64 k) (fun i _ => n - (intOf i).toNat)
 case atStart => exact ⟨rfl,0,Nat.zero_le _,rfl⟩
 case round =>
  obtain ⟨rfl,k,hk,rfl⟩ := hrel
  by_cases hlt : k < n
  ·have k1 : (k : Int) < (n : Int) := by omega
   have k0 : (0 : Int) ≤ (k : Int) := by omega
   have k2 : (0 : Int) < (n : Int) := by omega
   obtain ⟨A,c,q0,hC⟩ := HCI.out k hlt;obtain ⟨A',c',q1,_⟩ := HCI.out 0 h0;obtain ⟨p,q2,hC2⟩ := HPE.out k hlt;have q0 := q0 w1 HB1.out;have q1 := q1 w1 HB1.out;have q2 := q2 w1 HB1.out;rw [Nat.add_zero] at q1;have HC := Lib.hid (hC w1 HB1.out);have HC2 := Lib.hid (hC2 w1);have nn : ((N : Int) != (N : Int)) = false := by simp
   clear hC hC2
   go_wp2_with (first | (go_at_call 78;refine HC2.out.mono ?_;rintro x w2 ⟨rfl,rfl⟩) | (go_at_call 79;refine HC.out.mono ?_;rintro x w2 ⟨rfl,rfl⟩))
   go_roundw
   case rel => exact ⟨trivial,k + 1,by omega,by go_num⟩
   case measure => simp [intOf];omega
  ·obtain rfl : k = n := by omega
   go_wp2_with fail
   go_ret;exact ⟨rfl,HW1.out⟩
theorem own_any (A0 : Option Addr) (n0 c0 : Nat) (A1 : Option Addr) (n1 c1 : Nat) (A : Option Addr) (n c : Nat) (w : World) : Calls Tryz.prog 86 #[.agg #[.slice A0 n0 c0,.slice A1 n1 c1],.slice A n c] w fun r w' =>
  r = .returned (.func (.func 128) #[] #[.pointer (some ⟨w.heap.size,0,none⟩),.pointer (some ⟨w.heap.size + 1,0,none⟩)]) ∧
  (w.alloc (.cells #[.slice A0 n0 c0,.slice A1 n1 c1] 25)).alloc (.cells #[.slice A n c] 23) = w' := by
 go_enter Tryz.func86,Tryz.ntmps86;go_wp2;go_ret;exact ⟨rfl,rfl⟩
def OwnT (P L : List Int) (rs : List RI) (s : Nat) (vs : Array Value) (s' : Nat) : Prop := ∃ i,s ≤ i ∧ i < P.length ∧ (∀ j,s ≤ j → j < i → ¬ P.getD j 0 ∈ L) ∧ P.getD i 0 ∈ L ∧ s' = i + 1 ∧ vs = #[.int .i64 (i : Int),(rs.getD i r0).cell]
def OwnS (P L : List Int) (s : Nat) : Prop := ∀ j,s ≤ j → j < P.length → ¬ P.getD j 0 ∈ L
theorem own1_hands (N : Nat) (P L : List Int) (RA : Option Addr) (rc : Nat) (OA : Option Addr) (oc : Nat) (rs : List RI) (WA : Option Addr) (wc sp sw B : Nat) (h0 : 0 < P.length) (hn : P.length ≤ 64) (hm : L.length ≤ 64) (hL : L.Pairwise (· < ·)) (w0 : World) (I : Nat → World → Prop)
  (hI : ∀ s W,I s W → Row W sp 25 [.slice RA P.length rc,.slice OA P.length oc] ∧ Row W sw 23 [.slice WA L.length wc] ∧ Prg W B N P RA rc OA oc rs ∧ Rd W B 1 WA L.length (ivs L) ∧ B ≤ W.heap.size) :
  Hands Fence.wide 8 Tryz.prog 128 #[.pointer (some ⟨sp,0,none⟩),.pointer (some ⟨sw,0,none⟩)] w0 I (fun s vs s' _ => OwnT P L rs s vs s') 0 (OwnS P L) := by
 intro l J Jx W hb hJI hJ hJx hY h0';obtain ⟨n,hnn⟩ : ∃ n,P.length = n := ⟨_,rfl⟩;obtain ⟨m,hmm⟩ : ∃ m,L.length = m := ⟨_,rfl⟩;have hI0 := hI _ _ (hJI _ _ h0');obtain ⟨b,o,hRA,_,_⟩ := hI0.2.2.1.row h0;obtain ⟨_,b2,o2,hOA,_,_⟩ := i64at hI0.2.2.1.own h0;subst hRA hOA;clear hI0
 have HI : Hid (∀ s V,J s V → Row V sp 25 [.slice (some ⟨b,o,none⟩) n rc,.slice (some ⟨b2,o2,none⟩) n oc] ∧ Row V sw 23 [.slice WA m wc] ∧ ∀ k,k < n → ∃ A c,(rs.getD k r0).cell = .slice A N c ∧ V.cell? ⟨b,o + k,none⟩ = some (.slice A N c) ∧ V.cell? ⟨b2,o2 + k,none⟩ = some (.int .i64 (P.getD k 0))) := fun s V h => by
  obtain ⟨q1,q2,q3,q4,q5⟩ := hI s V (hJI s V h);rw [hnn] at q1;rw [hmm] at q2;refine ⟨q1,q2,fun k hk => ?_⟩;obtain ⟨b',o',e,_,hrow⟩ := q3.row h0
  cases e
  obtain ⟨A,c,d,e1,hdl,_,_,hc⟩ := hrow k (by omega);obtain ⟨_,b2',o2',e,_,hown⟩ := i64at q3.own h0
  cases e
  refine ⟨A,c,?_,hc V (Below.refl _ _),hown k (by omega) V (Below.refl _ _)⟩;rw [e1,RI.cell_eq];show Value.slice A d.length c = _;rw [hdl]
 have HBS : Hid (∀ s V,J s V → ∀ (x : Int) V',(∀ B,Below B V V') → Calls Tryz.prog 43 #[.slice WA m wc,.int .i64 x] V' fun r w' => (∃ i,r = .returned (.tuple #[.int .i64 i,.bool (decide (x ∈ L))])) ∧ V' = w') := fun s V h x V' hV => by
  obtain ⟨q1,q2,q3,q4,q5⟩ := hI s V (hJI s V h);rw [hmm] at q4;exact bsearchp_any WA m wc B L x V' (q4.below (hV B)) (by omega) hL
 have HY := Lib.hid hY;have HJA := Lib.hid hJ;have H0 := Lib.hid h0';have HNN := Lib.hid hnn;rw [hnn] at h0 hn;refine callsIn_of_wp Tryz.func128 rfl trivial ?_ rfl;obtain ⟨c1,c2,_⟩ := HI.out _ _ h0';have p0 := c1.cell (i := 0) rfl;clear hI hJI hJ hJx hY h0' hb c1 c2 hnn hmm;simp only [Tryz.ntmps128,List.size_toArray,List.length_cons,List.length_nil,Nat.reduceAdd,Nat.reduceSub,Array.replicate_succ,Array.replicate_zero,List.push_toArray,List.append_toArray,List.nil_append,List.cons_append];gi_wp2;clear p0
 gi_loopw [11] (fun x wr => ∃ k s : Nat,s ≤ k ∧ k ≤ n ∧ x = .int .i64 k ∧ J s wr ∧ ∀ j,s ≤ j → j < k → ¬ P.getD j 0 ∈ L) (fun x _ => n - (intOf x).toNat)
 case atStart => exact ⟨0,0,Nat.le_refl _,by omega,rfl,H0.out,fun j h1 h2 => absurd h2 (by omega)⟩
 case round =>
  clear H0;obtain ⟨k,s,hsk,hk,rfl,hj,hno⟩ := hrel;have HNO := Lib.hid hno;obtain ⟨r1,r2,hcc⟩ := HI.out _ _ hj;have HJ := Lib.hid hj;clear hno
  by_cases hlt : k < n
  ·have k1 : (k : Int) < (n : Int) := by omega
   have k0 : (0 : Int) ≤ (k : Int) := by omega
   obtain ⟨A,c,e1,d1,d2⟩ := hcc k hlt;obtain ⟨p,hp⟩ : ∃ x,P.getD k 0 = x := ⟨_,rfl⟩;rw [hp] at d2;have HPP := Lib.hid hp;have HE1 := Lib.hid e1;have HBC := Lib.hid (HBS.out _ _ hj p wr.drew (fun B => (Below.refl _ _).drew));have HS4 : Hid (Row wr.drew sp 25 [.slice (some ⟨b,o,none⟩) n rc,.slice (some ⟨b2,o2,none⟩) n oc] ∧ Row wr.drew sw 23 [.slice WA m wc] ∧ wr.drew.cell? ⟨b2,o2 + k,none⟩ = some (.int .i64 p)) := ⟨r1.below (Below.refl _ _).drew r1.lt,r2.below (Below.refl _ _).drew r2.lt,d2⟩;have HKB : Hid ((0 : Int) ≤ (k : Int) ∧ (k : Int) < (n : Int)) := ⟨k0,k1⟩;clear hcc hp e1 hj r1 r2 d2
   gi_wp2_with fail
   rename_i Kz hKz;refine wpIn_region_treeC (fun (_ : Nat) (W : World) => Row W sp 25 [.slice (some ⟨b,o,none⟩) n rc,.slice (some ⟨b2,o2,none⟩) n oc] ∧ Row W sw 23 [.slice WA m wc] ∧ W.cell? ⟨b2,o2 + k,none⟩ = some (.int .i64 p)) (.take 0 (.take 1 (.take 2 (.take 3 (.take 4 (.take 5 (.one 6 (.take 7 (.take 8 (.take 9 (.take 10 (.take 11 .done)))))))))))) (by kernel_rfl) (by kernel_rfl) (by kernel_rfl) (by kernel_rfl) (by kernel_rfl) ?_
   iterate 6 (refine wpOTC_take rfl _ (by rfl) (fun _ => rfl) (by intro w' hS;have q0 := hS.1.cell (i := 0) rfl;have q1 := hS.1.cell (i := 1) rfl;have q2 := hS.2.1.cell (i := 0) rfl;have q3 := hS.2.2;obtain ⟨k0,k1⟩ := HKB.out;go_simp;try with_reducible rfl) HS4.out fun KK hKK => ?_;go_simp;refine hKK _ ?_;clear hKK KK)
   refine wpOTC_one _ rfl (by rfl) rfl fun KK hKK => ?_;go_simp;refine ⟨trivial,(callsIn_wide.2 HBC.out).mono ?_⟩;rintro e8 w8 ⟨⟨pos,rfl⟩,rfl⟩;refine hKK _ _ (fun _ _ => HS4.out) ?_
   iterate 5 (clear hKK KK;refine wpOTC_take rfl _ (by rfl) (fun _ => rfl) (by intro w' hS;go_simp;try with_reducible rfl) HS4.out fun KK hKK => ?_;go_simp;refine hKK _ ?_)
   clear hKK KK;refine wpOTC_done ?_;show Kz _ _;refine hKz _ _ ?_;go_simp;have hjd : J s wr.drew := HJA.out s wr wr.drew none HJ.out (grown_of_below (Below.refl _ _).drew) (fun r e => by cases e)
   by_cases hpL : p ∈ L
   ·have e2 : decide (p ∈ L) = true := decide_eq_true hpL
    have hy0 := HY.out s #[.int .i64 (k : Int),.slice A N c] (k + 1) wr.drew hjd ⟨k,hsk,by rw [HNN.out];exact hlt,HNO.out,by rw [HPP.out];exact hpL,rfl,by rw [HE1.out]⟩;obtain ⟨fn,tmps,assign,body,hy,hRR⟩ := hy0;have HRR := Lib.hid hRR;clear hRR hpL hjd
    gi_wp2_with fail
    refine HRR.out.mono ?_;rintro x W3 (⟨rfl,hJ3⟩ | ⟨rfl,hJ3⟩)
    ·have HJ3 := Lib.hid hJ3
     clear hJ3 hy
     gi_wp2_with fail
     go_roundw
     case rel => exact ⟨k + 1,k + 1,Nat.le_refl _,by omega,by go_num,HJ3.out,fun j h1 h2 => absurd h1 (by omega)⟩
     case measure => simp [intOf];omega
    ·have HJ3 := Lib.hid hJ3
     clear hJ3 hy
     gi_wp2_with fail
     refine bodyPost_ret (results_none' rfl _ _ _ rfl) rfl ?_;exact ⟨⟨_,rfl⟩,.inr ⟨_,HJ3.out⟩⟩
   ·have e2 : decide (p ∈ L) = false := decide_eq_false hpL
    have HNL : Hid (∀ j,s ≤ j → j < k + 1 → ¬ P.getD j 0 ∈ L) := fun j h1 h2 => by
     rcases Nat.lt_or_ge j k with h3 | h3
     ·exact HNO.out j h1 h3
     ·rw [show j = k by omega,HPP.out];exact hpL
    have HJD := Lib.hid hjd;clear hpL hjd
    gi_wp2_with fail
    refine ⟨fun _ _ => trivial,?_⟩
    gi_wp2_with fail
    go_roundw
    case rel => exact ⟨k + 1,s,by omega,by omega,by go_num,HJD.out,HNL.out⟩
    case measure => simp [intOf];omega
  ·obtain rfl : k = n := by omega
   gi_wp2_with fail
   refine bodyPost_end (results_none' rfl _ _ _ rfl) rfl ?_;exact ⟨⟨_,rfl⟩,.inl ⟨s,fun j h1 h2 => HNO.out j h1 (by rw [HNN.out] at h2;exact h2),HJ.out⟩⟩
end Go.Proofs.YtifejdpffkeniaaGreatDoor
