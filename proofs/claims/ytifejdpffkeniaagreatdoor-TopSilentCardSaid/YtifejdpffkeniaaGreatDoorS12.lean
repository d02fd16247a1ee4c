import Derived.StillTailTactics
import Derived.Test.YtifejdpffkeniaaGreatDoorS10
import Derived.Test.YtifejdpffkeniaaGreatDoorS11
set_option linter.unusedVariables false
set_option maxRecDepth 100000
set_option maxHeartbeats 40000000
namespace Go.Proofs.YtifejdpffkeniaaGreatDoor
open Go.RowKit
attribute [local go_sem] Oper.semAt_some
theorem new_any (k sd : Int) (w : World) (hk : 0 ≤ k ∧ k < 64) (hs : 0 ≤ sd ∧ sd ≤ 1099511627776) : Calls Tryz.prog 8 #[.int .i64 k,.int .i64 sd] w fun r w' => r = .returned (.tuple #[.agg #[.int .i64 k,.int .i64 sd,.int .i64 0,.slice none 0 0],.int .i64 0]) ∧ Below w.heap.size w w' := by
 obtain ⟨s,hsz⟩ : ∃ s,w.heap.size = s := ⟨_,rfl⟩;have hr0 : Row (w.alloc (.cells #[.int .i64 0,.int .i64 0,.int .i64 0,.slice none 0 0] 50)) s 50 [.int .i64 0,.int .i64 0,.int .i64 0,.slice none 0 0] := Row.fresh' _ _ _ hsz;have hb0 : Below s w (w.alloc (.cells #[.int .i64 0,.int .i64 0,.int .i64 0,.slice none 0 0] 50)) := by rw [← hsz];exact (Below.refl _ _).alloc (Nat.le_refl _) _
 have hok : (⟨k,sd,0,[]⟩ : Bk).ok := ⟨hk.1,hk.2,hs.1,hs.2,Int.le_refl 0,(by show (0 : Int) ≤ 4096;decide),List.Pairwise.nil,(fun x hx => by cases hx),(fun x hx => by cases hx)⟩
 have HRI : Hid (∀ W,Calls Tryz.prog 34 #[.agg #[.int .i64 k,.int .i64 sd,.int .i64 0,.slice none 0 0]] W fun r w' => r = .returned (.bool true) ∧ Below W.heap.size W w') := fun W => by
  refine (nright_any ⟨k,sd,0,[]⟩ none 0 0 W hok (rd_nil _ _ _ _) (by decide)).mono ?_;rintro r w' ⟨e,e2⟩;exact ⟨e,by rw [← e2];exact (Below.refl _ _).alloc (Nat.le_refl _) _⟩
 have HS := Lib.hid hsz;have o0 := hr0.cell (i := 0) rfl;have o1 := hr0.cell (i := 1) rfl;have o2 := hr0.cell (i := 2) rfl;have o3 := hr0.cell (i := 3) rfl;have f0 := hr0.fz 0;have f1 := hr0.fz 1;have f2 := hr0.fz 2;have f3 := hr0.fz 3;have HH := Lib.hid (And.intro hr0 hb0);clear hok hr0 hb0;rw [hsz];go_enter Tryz.func8,Tryz.ntmps8
 go_wp2_with fail
 have hr1 : Row (w.alloc (.cells #[.int .i64 k,.int .i64 sd,.int .i64 0,.slice none 0 0] 50)) s 50 [.int .i64 k,.int .i64 sd,.int .i64 0,.slice none 0 0] := Row.fresh' _ _ _ HS.out;have hb1 : Below s w (w.alloc (.cells #[.int .i64 k,.int .i64 sd,.int .i64 0,.slice none 0 0] 50)) := by rw [← HS.out];exact (Below.refl _ _).alloc (Nat.le_refl _) _
 generalize (w.alloc (.cells #[.int .i64 k,.int .i64 sd,.int .i64 0,.slice none 0 0] 50)) = w1 at hr1 hb1 ⊢;refine (HRI.out w1).mono ?_;rintro x w2 ⟨rfl,hb2⟩;have hr2 := hr1.below hb2 hr1.lt;have HB2 : Hid (Below s w w2) := hb1.trans (hb2.mono (by have := hr1.lt;omega));have o0 := hr2.cell (i := 0) rfl;have o1 := hr2.cell (i := 1) rfl;have o2 := hr2.cell (i := 2) rfl;have o3 := hr2.cell (i := 3) rfl;have f0 := hr2.fz 0;have f1 := hr2.fz 1;have f2 := hr2.fz 2;have f3 := hr2.fz 3;have HR2 := Lib.hid hr2;clear hr1 hb1 hb2 hr2
 go_wp2_with fail
 have hr9 := (((HR2.out.put 0 (.int .i64 k)).put 1 (.int .i64 sd)).put 2 (.int .i64 0)).put 3 (.slice none 0 0);refine bodyPost_ret (results_rt (p := 4) (q := 5) rfl _ _ s 50 _ (0,0) _ (by rfl) hr9 Tryz.underlying50 (by rfl) (by kernel_rfl)) rfl ?_;exact ⟨rfl,(((HB2.out.setCell (p := ⟨s,0,none⟩) (Nat.le_refl _) _).setCell (p := ⟨s,1,none⟩) (Nat.le_refl _) _).setCell (p := ⟨s,2,none⟩) (Nat.le_refl _) _).setCell (p := ⟨s,3,none⟩) (Nat.le_refl _) _⟩
theorem next_any (b : Bk) (g B : Nat) (A : Option Addr) (c : Nat) (w : World) (hg : Row w g 100 [.int .i64 b.k,.int .i64 b.sd,.int .i64 b.nx,.slice A b.L.length c]) (ho : w.ownsRow B 3 1 (.slice A b.L.length c) b.L.length (ivs b.L)) (hB : B ≤ w.heap.size)
  (hne : ∀ j,(Value.slice A b.L.length c).ownBlock = some j → j ≠ g) (hn : 0 ≤ b.nx ∧ b.nx ≤ 4096) (hl : b.L.length ≤ 4096) :
  Calls Tryz.prog 93 #[.pointer (some ⟨g,0,none⟩)] w fun r w' => r = .returned (.int .i64 b.nx) ∧ ∃ A' c',Row w' g 100 [.int .i64 b.k,.int .i64 b.sd,.int .i64 (b.nx + 1),.slice A' (b.L.length + 1) c'] ∧ w'.ownsRow B 3 1 (.slice A' (b.L.length + 1) c') (b.L.length + 1) (ivs (b.L ++ [b.nx])) ∧
   (∀ j,(Value.slice A' (b.L.length + 1) c').ownBlock = some j → j ≠ g ∧ ((Value.slice A b.L.length c).ownBlock = some j ∨ w.heap.size ≤ j)) ∧ Tch (fun j => j = g ∨ (Value.slice A b.L.length c).ownBlock = some j) w w' := by
 obtain ⟨s,hsz⟩ : ∃ s,w.heap.size = s := ⟨_,rfl⟩;obtain ⟨k,sd,nx,L⟩ := b;dsimp only at hg ho hne hn hl ⊢;obtain ⟨n,hnn⟩ : ∃ n,L.length = n := ⟨_,rfl⟩;rw [hnn] at hg ho hne hl ⊢;obtain ⟨D,hD⟩ : ∃ D,ivs L = D := ⟨_,rfl⟩;have HD : Hid (ivs (L ++ [nx]) = D ++ [.int .i64 nx]) := by show _ = _;rw [← hD];simp
 rw [hD] at ho;have HH := Lib.hid (And.intro hg (And.intro ho (And.intro hB hne)));have q2 := hg.cell (i := 2) rfl;have q3 := hg.cell (i := 3) rfl;have l1 := hg.lt;have HS := Lib.hid hsz;clear hg ho hB hne hnn hD hsz;refine (callsIn_wide (n := 9)).1 ?_;refine callsIn_of_wp Tryz.func93 rfl trivial ?_ rfl;simp only [Tryz.ntmps93,List.size_toArray,List.length_cons,List.length_nil,Nat.reduceAdd,Nat.reduceSub,Array.replicate_succ,Array.replicate_zero,List.push_toArray,List.append_toArray,List.nil_append,List.cons_append]
 gi_wp2_with fail
 rename_i Kz hKz;refine wpIn_region_treeC (fun (i : Nat) (W : World) => i ≤ 12 → Row W g 100 [.int .i64 k,.int .i64 sd,.int .i64 nx,.slice A n c]) (.take 0 (.take 1 (.take 2 (.take 3 (.take 4 (.take 5 (.take 6 (.take 7 (.take 8 (.take 9 (.take 10 (.one 11 (.one 12 (.take 13 (.take 14 (.take 15 (.one 16 .done))))))))))))))))) (by kernel_rfl) (by kernel_rfl) (by kernel_rfl) (by kernel_rfl) (by kernel_rfl) ?_;have HD2 : Hid (w.drew.heap.size = s) := HS.out;have hg2 : Row w.drew g 100 [.int .i64 k,.int .i64 sd,.int .i64 nx,.slice A n c] := HH.out.1;have ho2 : w.drew.ownsRow B 3 1 (.slice A n c) n D := HH.out.2.1.drew;have ht2 : Tch (fun j => j = g ∨ (Value.slice A n c).ownBlock = some j) w w.drew := (Tch.refl _ _).drew;have H2 := Lib.hid (And.intro hg2 (And.intro ho2 ht2));clear hg2 ho2 ht2 q2 q3;generalize w.drew = w1 at H2 HD2 ⊢
 iterate 11 (refine wpOTC_take rfl _ (by rfl) (fun _ => rfl) (by intro w' hS;have hS := hS (by decide);have c2 := hS.cell (i := 2) rfl;have c3 := hS.cell (i := 3) rfl;go_simp;try with_reducible rfl) (fun _ => H2.out.1) fun KK hKK => ?_;go_simp;refine hKK _ ?_;clear hKK KK)
 refine wpOTC_one _ rfl (by rfl) rfl fun KK hKK => ?_;go_simp;have hg3 : Row (w1.alloc (.cells #[.int .i64 nx] 3)) g 100 [.int .i64 k,.int .i64 sd,.int .i64 nx,.slice A n c] := H2.out.1.alloc _;refine hKK _ _ (fun _ _ _ => hg3) ?_;clear hKK KK;refine wpOTC_one _ rfl (by rfl) rfl fun KK hKK => ?_;refine wpInU_append_rd (.tmp 8) (.tmp 14) 23 rfl B 3 _ (.int .i64 0) 1 8 Tryz.underlying23 rfl rfl rfl rfl rfl (by decide) (.slice A n c) n D (by rfl) (H2.out.2.1.alloc _) (w1.heap.size + 1) (some ⟨w1.heap.size,0,none⟩) 1 1 [.int .i64 nx] (by rfl) (rd_newU w1 3 (.int .i64 nx)) (by intro u hu;simp at hu;rw [hu];rfl) (by unfold maxLen;omega) (by omega) (by have := HH.out.2.2.1;have := HD2.out;have := HS.out;simp;omega) ?_;intro v9 w9 hown9 hgrow9 hor9;obtain ⟨g9,c9,hv9,_,_⟩ := hown9.form (by omega);subst hv9;have hr9 : Row w9 g 100 [.int .i64 k,.int .i64 sd,.int .i64 nx,.slice A n c] := hg3.grown hgrow9 (fun e => HH.out.2.2.2 g e.symm rfl);refine hKK _ _ (fun _ _ _ => hr9) ?_
 iterate 3 (clear hKK KK;refine wpOTC_take rfl _ (by rfl) (fun _ => rfl) (by intro w' hS;skip;go_simp;try with_reducible rfl) (fun _ => hr9) fun KK hKK => ?_;go_simp;refine hKK _ ?_)
 clear hKK KK;refine wpOTC_one [14,13] rfl (by rfl) (by kernel_rfl) fun KK hKK => ?_;have s3 := hr9.cell (i := 3) rfl;have f3 := hr9.fz 3;go_simp;refine hKK _ _ (fun e he h => by simp at he;omega) ?_;clear hKK KK s3 f3;refine wpOTC_done ?_;show Kz _ _;refine hKz _ _ ?_;go_simp;have hr10 := hr9.put 3 (.slice (some ⟨g9,0,none⟩) (n + 1) c9)
 have hne9 : g9 ≠ g := by
  rcases hor9 with h | h
  ·exact HH.out.2.2.2 g9 (h ▸ rfl)
  ·have h' : g9 = (w1.alloc (.cells #[.int .i64 nx] 3)).heap.size := Option.some.inj h
   have := H2.out.1.lt;rw [World.size_alloc] at h';omega
 have hor : (Value.slice A n c).ownBlock = some g9 ∨ s ≤ g9 := by
  rcases hor9 with h | h
  ·exact .inl h.symm
  ·have h' : g9 = (w1.alloc (.cells #[.int .i64 nx] 3)).heap.size := Option.some.inj h
   have := HD2.out;rw [World.size_alloc] at h';exact .inr (by omega)
 have HOR := Lib.hid hor;have hS9 : ∀ (W : World) (i : Nat) (v : Value),W.ownsRow B 3 1 (.slice (some ⟨g9,0,none⟩) (n + 1) c9) (n + 1) (D ++ [.int .i64 nx]) → (W.setCell ⟨g,i,none⟩ v).ownsRow B 3 1 (.slice (some ⟨g9,0,none⟩) (n + 1) c9) (n + 1) (D ++ [.int .i64 nx]) := fun W i v ho => ho.kept (grown_setC W ⟨g,i,none⟩ v) (.inr fun e => hne9 (Option.some.inj e));have ho10 := hS9 _ 3 (.slice (some ⟨g9,0,none⟩) (n + 1) c9) hown9;have ht10 : Tch (fun j => j = g ∨ (Value.slice A n c).ownBlock = some j) w (w9.setCell ⟨g,3,none⟩ (.slice (some ⟨g9,0,none⟩) (n + 1) c9)) := (((H2.out.2.2.alloc _).grown hgrow9 (fun j hj => .inr (.inr hj))).set (p := ⟨g,3,none⟩) (.inr (.inl rfl)) _);have H10 := Lib.hid (And.intro hr10 (And.intro ho10 ht10));have HS9 := Lib.hid hS9;have HNE := Lib.hid hne9;generalize (w9.setCell ⟨g,3,none⟩ (.slice (some ⟨g9,0,none⟩) (n + 1) c9)) = w10 at H10 ⊢;clear hr9 hg3 hown9 hgrow9 hor9 hne9 hS9 hr10 ho10 ht10 H2 hor;have a2 := H10.out.1.cell (i := 2) rfl;have f2 := H10.out.1.fz 2
 gi_wp2_with fail
 refine bodyPost_ret (results_tmp_1 rfl _ _) rfl ?_;refine ⟨?_,some ⟨g9,0,none⟩,c9,H10.out.1.put 2 _,?_,?_,H10.out.2.2.set (p := ⟨g,2,none⟩) (.inr (.inl rfl)) _⟩
 ·show Ending.returned (.int .i64 nx) = _
  rfl
 ·rw [HD.out];exact HS9.out _ 2 _ H10.out.2.1
 ·intro j hj
  have : g9 = j := Option.some.inj hj;rw [← this];exact ⟨HNE.out,by rw [HS.out];exact HOR.out⟩
theorem pairs_any (g : Nat) (n : Int) (w : World) : Calls Tryz.prog 39 #[.pointer (some ⟨g,0,none⟩),.int .i64 n] w fun r w' =>
  r = .returned (.func (.func 94) #[] #[.pointer (some ⟨w.heap.size + 1,0,none⟩),.pointer (some ⟨w.heap.size,0,none⟩),.pointer (some ⟨w.heap.size + 1 + 1,0,none⟩)]) ∧
  ((w.alloc (.cells #[.pointer (some ⟨g,0,none⟩)] 96)).alloc (.cells #[.int .i64 n] 3)).alloc (.cells #[.func (.func 93) #[.pointer (some ⟨g,0,none⟩)] #[]] 168) = w' := by
 go_enter Tryz.func39,Tryz.ntmps39;go_wp2;go_ret;exact ⟨rfl,rfl⟩
def pairC (K : Sh.Cst) (k sd j : Int) : List Value := [.int .i64 k,.int .i64 j,.int .i64 (Gm.pw (nz K k sd j 0).toNat : Int),.int .i64 (Gm.pw (nz K k sd j 1).toNat : Int)]
structure PB (g base sn sb sx : Nat) (k sd m : Int) (W : World) (j : Nat) (A : Option Addr) (c : Nat) : Prop where
 rn : Row W sn 3 [.int .i64 m]
 rb : Row W sb 96 [.pointer (some ⟨g,0,none⟩)]
 rx : Row W sx 168 [.func (.func 93) #[.pointer (some ⟨g,0,none⟩)] #[]]
 rg : Row W g 100 [.int .i64 k,.int .i64 sd,.int .i64 (j : Int),.slice A j c]
 ow : W.ownsRow base 3 1 (.slice A j c) j (ivs ((List.range j).map fun i : Nat => (i : Int)))
 la : Laid W
 sz : base ≤ W.heap.size
structure PBc (g base sn sb sx : Nat) : Prop where
 bg : g < base
 bn : sn < base
 bb : sb < base
 bx : sx < base
 ng : sn ≠ g
 nb : sb ≠ g
 nx : sx ≠ g
 g2 : 2 ≤ g
theorem PB.lv {g base sn sb sx : Nat} {k sd m : Int} {W : World} {j : Nat} {A : Option Addr} {c : Nat} (h : PB g base sn sb sx k sd m W j A c) : ∀ b,(Value.slice A j c).ownBlock = some b → base ≤ b ∧ b < W.heap.size := h.ow.lt
theorem PB.next {g base sn sb sx : Nat} {k sd m : Int} {W W' : World} {j : Nat} {A : Option Addr} {c : Nat} (h : PB g base sn sb sx k sd m W j A c) (hb : Below W.heap.size W W') : PB g base sn sb sx k sd m W' j A c :=
 ⟨h.rn.below hb h.rn.lt,h.rb.below hb h.rb.lt,h.rx.below hb h.rx.lt,h.rg.below hb h.rg.lt,own_belowU h.ow hb (fun b e => (h.lv b e).2),h.la.below hb h.la.size,Nat.le_trans h.sz hb.size⟩
theorem PB.set {g base sn sb sx : Nat} {k sd m : Int} {W : World} {j : Nat} {A : Option Addr} {c z : Nat} (h : PB g base sn sb sx k sd m W j A c) (hc : PBc g base sn sb sx) (hz : base ≤ z) (hne : ∀ b,(Value.slice A j c).ownBlock = some b → b ≠ z) (i : Nat) (v : Value) : PB g base sn sb sx k sd m (W.setCell ⟨z,i,none⟩ v) j A c :=
 ⟨h.rn.away (p := ⟨z,i,none⟩) (by have := hc.bn;show sn ≠ z;omega) v,h.rb.away (p := ⟨z,i,none⟩) (by have := hc.bb;show sb ≠ z;omega) v,h.rx.away (p := ⟨z,i,none⟩) (by have := hc.bx;show sx ≠ z;omega) v,h.rg.away (p := ⟨z,i,none⟩) (by have := hc.bg;show g ≠ z;omega) v,
  h.ow.kept (grown_setC W ⟨z,i,none⟩ v) (by cases hv : (Value.slice A j c).ownBlock with | none => exact .inl rfl | some b => exact .inr fun e => hne b hv (Option.some.inj e)),
  h.la.grown (grown_setC W ⟨z,i,none⟩ v) (fun q e => by have h1 : z = q := Option.some.inj e;have := hc.bg;have := hc.g2;omega),by rw [World.size_setCell];exact h.sz⟩
structure PBm (g base sn sb sx : Nat) (k sd m : Int) (j : Nat) (X Y : World) : Prop where
 ex : ∃ A c A' c',PB g base sn sb sx k sd m X j A c ∧ PB g base sn sb sx k sd m Y (j + 1) A' c' ∧ Tch (fun i => i = g ∨ (Value.slice A j c).ownBlock = some i) X Y ∧ ∀ b,(Value.slice A' (j + 1) c').ownBlock = some b → (Value.slice A j c).ownBlock = some b ∨ X.heap.size ≤ b
theorem four_pow_any (n : Int) (w : World) (h0 : 0 ≤ n) (h1 : n < 1073741789) : Calls Tryz.prog 31 #[.int .i64 4,.int .i64 n] w fun r w' => r = .returned (.tuple #[.int .i64 (Gm.pw n.toNat : Int),.int .i64 0]) ∧ Below w.heap.size w w' := by
 have := pow_gany 1 n w (by omega) h1;rw [Gm.pw_one,Int.emod_eq_of_lt h0 h1,Nat.one_mul] at this;exact this
theorem range_snoc (j : Nat) : ((List.range (j + 1)).map fun i : Nat => (i : Int)) = ((List.range j).map fun i : Nat => (i : Int)) ++ [(j : Int)] := by rw [List.range_succ,List.map_append];rfl
theorem pairs1_hands (K : Sh.Cst) (g base sn sb sx : Nat) (k sd : Int) (m : Nat) (hc : PBc g base sn sb sx) (hm : m ≤ 2) (hk : 0 ≤ k ∧ k < 64) (hs : 0 ≤ sd ∧ sd ≤ 1099511627776) (w0 : World) (I : Nat × Bool → World → Prop)
  (hI : ∀ s W,I s W → s.2 = false → ∃ A c,PB g base sn sb sx k sd (m : Int) W s.1 A c) :
  HandsB Fence.wide 8 Tryz.prog 94 #[.pointer (some ⟨sn,0,none⟩),.pointer (some ⟨sb,0,none⟩),.pointer (some ⟨sx,0,none⟩)] w0 I (fun s vs s' _ => s.2 = true ∧ s.1 < m ∧ vs = #[.agg (pairC K k sd (s.1 : Int)).toArray] ∧ s' = (s.1 + 1,false)) (fun s => (s.1,true)) (fun s X Y => s.2 = false ∧ PBm g base sn sb sx k sd (m : Int) s.1 X Y) (0,false) (fun s => s = (m,false)) := by
 intro l J Jx W hb hJI hJ hJx hM hY h0;have HI : Hid (∀ j V,J (j,false) V → ∃ A c,PB g base sn sb sx k sd (m : Int) V j A c) := fun j V h => hI _ V (hJI _ V h) rfl;have HY := Lib.hid hY;have HM := Lib.hid hM;have H0 := Lib.hid h0;have HC := Lib.hid hc;refine callsIn_of_wp Tryz.func94 rfl trivial ?_ rfl;obtain ⟨A0,c0,hB0⟩ := HI.out _ _ h0;have c1 := hB0.rn.cell (i := 0) rfl;clear hI hJI hJ hJx hM hY h0 hb hc hB0;simp only [Tryz.ntmps94,List.size_toArray,List.length_cons,List.length_nil,Nat.reduceAdd,Nat.reduceSub,Array.replicate_succ,Array.replicate_zero,List.push_toArray,List.append_toArray,List.nil_append,List.cons_append];gi_wp2;clear c1
 gi_loopw [12] (fun x wr => ∃ j : Nat,j ≤ m ∧ x = .int .i64 j ∧ J (j,false) wr) (fun x _ => m - (intOf x).toNat)
 case atStart => exact ⟨0,Nat.zero_le _,rfl,H0.out⟩
 case round =>
  clear H0;obtain ⟨j,hj,rfl,hJ0⟩ := hrel;have HJ := Lib.hid hJ0;clear hJ0
  by_cases hlt : j < m
  ·have j1 : (j : Int) < (m : Int) := by omega
   have j0 : (0 : Int) ≤ (j : Int) := by omega
   obtain ⟨A,c,hpb⟩ := HI.out _ _ HJ.out;have HPB := Lib.hid hpb;clear hpb
   gi_wp2_with fail
   rename_i Kz hKz;refine wpIn_region_treeC (fun (i : Nat) (W : World) => i ≤ 5 → Row W sb 96 [.pointer (some ⟨g,0,none⟩)] ∧ Row W sx 168 [.func (.func 93) #[.pointer (some ⟨g,0,none⟩)] #[]] ∧ W.cell? ⟨g,0,none⟩ = some (.int .i64 k)) (.take 0 (.take 1 (.take 2 (.take 3 (.take 4 (.take 5 (.two 6 (.take 7 (.one 8 (.one 9 .done))) 8 (.one 6 (.take 7 (.one 9 .done)))))))))) (by kernel_rfl) (by kernel_rfl) (by kernel_rfl) (by kernel_rfl) (by kernel_rfl) ?_;have HD0 : Hid (PB g base sn sb sx k sd (m : Int) wr.drew j A c) := HPB.out.next (Below.refl _ _).drew;have HDB : Hid (Below wr.heap.size wr wr.drew) := (Below.refl _ _).drew;obtain ⟨wd,hwd⟩ : ∃ wd,wr.drew = wd := ⟨_,rfl⟩;rw [hwd] at HD0 HDB ⊢;clear hwd
   have HNX : Hid (∀ V,PB g base sn sb sx k sd (m : Int) V j A c → Calls Tryz.prog 93 #[.pointer (some ⟨g,0,none⟩)] V fun r w' => r = .returned (.int .i64 (j : Int)) ∧ ∃ A' c',PB g base sn sb sx k sd (m : Int) w' (j + 1) A' c' ∧ (∀ b,(Value.slice A' (j + 1) c').ownBlock = some b → (Value.slice A j c).ownBlock = some b ∨ V.heap.size ≤ b) ∧ Tch (fun i => i = g ∨ (Value.slice A j c).ownBlock = some i) V w') := fun V hV => by
    have hlen : ((List.range j).map fun i : Nat => (i : Int)).length = j := by simp
    have hcc := HC.out;have hg1 : Row V g 100 [.int .i64 k,.int .i64 sd,.int .i64 (j : Int),.slice A ((List.range j).map fun i : Nat => (i : Int)).length c] := by rw [hlen];exact hV.rg
    have ho1 : V.ownsRow base 3 1 (.slice A ((List.range j).map fun i : Nat => (i : Int)).length c) ((List.range j).map fun i : Nat => (i : Int)).length (ivs ((List.range j).map fun i : Nat => (i : Int))) := by rw [hlen];exact hV.ow
    have := next_any ⟨k,sd,(j : Int),(List.range j).map fun i : Nat => (i : Int)⟩ g base A c V hg1 ho1 hV.sz (by dsimp only;rw [hlen];intro q e;have := (hV.lv q e).1;have := hcc.bg;omega) ⟨by omega,by dsimp only;omega⟩ (by dsimp only;omega);refine this.mono ?_;rintro r w' ⟨e,A',c',q1,q2,q3,q4⟩;dsimp only at e q1 q2 q3 q4;rw [hlen] at q1 q2 q3 q4;rw [← range_snoc] at q2
    have hxb : ∀ i,i < base → i ≠ g → ¬ (i = g ∨ (Value.slice A j c).ownBlock = some i) := fun i h1 h2 h3 => by
     rcases h3 with h3 | h3
     ·exact h2 h3
     ·have := (hV.lv i h3).1;omega
    refine ⟨e,A',c',⟨q4.row hV.rn (hxb _ hcc.bn hcc.ng),q4.row hV.rb (hxb _ hcc.bb hcc.nb),q4.row hV.rx (hxb _ hcc.bx hcc.nx),by rw [show ((j + 1 : Nat) : Int) = (j : Int) + 1 by omega];exact q1,q2,?_,Nat.le_trans hV.sz q4.size⟩,fun b hb => (q3 b hb).2,q4⟩;exact hV.la.below (q4.below (B := 2) hV.la.size (fun i hi => hxb i (by have := hcc.g2;have := hcc.bg;omega) (by have := hcc.g2;omega))) (Nat.le_refl 2)
   have HDR : Hid (∀ V : World,Row V sb 96 [.pointer (some ⟨g,0,none⟩)] → True) := fun _ _ => trivial
   iterate 6 (refine wpOTC_take rfl _ (by rfl) (fun _ => rfl) (by intro w' hS;have hS := hS (by decide);have c0 := hS.1.cell (i := 0) rfl;have c1 := hS.2.1.cell (i := 0) rfl;have c2 := hS.2.2;go_simp;try with_reducible rfl) (fun _ => ⟨HD0.out.rb,HD0.out.rx,HD0.out.rg.cell (i := 0) rfl⟩) fun KK hKK => ?_;go_simp;refine hKK _ ?_;clear hKK KK)
   refine wpOTC_two _ _ rfl (by rfl) rfl rfl (by rfl) rfl (fun KK hKK => ?_) (fun KK hKK => ?_)
   ·go_simp
    refine ⟨trivial,(callsIn_wide.2 (HNX.out _ HD0.out)).mono ?_⟩;rintro r w2 ⟨rfl,A',c',hp2,hor2,ht2⟩;refine hKK _ _ (fun _ _ _ => ⟨hp2.rb,hp2.rx,hp2.rg.cell (i := 0) rfl⟩) ?_;clear hKK KK;refine wpOTC_take rfl _ (by rfl) (fun _ => rfl) (by intro w' hS;skip;go_simp;try with_reducible rfl) (fun h => by omega) fun KK hKK => ?_;go_simp;refine hKK _ ?_;clear hKK KK;refine wpOTC_one _ rfl (by rfl) rfl fun KK hKK => ?_;go_simp;have hp3 := hp2.next ((Below.refl w2.heap.size w2).alloc (Nat.le_refl _) (.cells #[.int .i64 0,.int .i64 0,.int .i64 0,.int .i64 0] 56));have hz3 : Row (w2.alloc (.cells #[.int .i64 0,.int .i64 0,.int .i64 0,.int .i64 0] 56)) w2.heap.size 56 [.int .i64 0,.int .i64 0,.int .i64 0,.int .i64 0] := Row.fresh _ _ _;have ht3 := ht2.alloc (.cells #[.int .i64 0,.int .i64 0,.int .i64 0,.int .i64 0] 56);have hzz : wd.heap.size ≤ w2.heap.size := ht2.size;have hlz : ∀ b,(Value.slice A' (j + 1) c').ownBlock = some b → b ≠ w2.heap.size := fun b hb => by have := (hp2.lv b hb).2;omega
    refine hKK _ _ (fun _ _ _ => ⟨hp3.rb,hp3.rx,hp3.rg.cell (i := 0) rfl⟩) ?_;clear hKK KK hp2 ht2;obtain ⟨z,hz⟩ : ∃ z,w2.heap.size = z := ⟨_,rfl⟩;rw [hz] at hz3 hzz hlz ⊢;generalize (w2.alloc (.cells #[.int .i64 0,.int .i64 0,.int .i64 0,.int .i64 0] 56)) = w3 at hp3 hz3 ht3 ⊢;clear hz;have HL3 := Lib.hid (And.intro hp3 (And.intro hz3 (And.intro ht3 (And.intro hzz (And.intro hlz hor2)))));clear hp3 ht3 hzz hlz hor2;refine wpOTC_one [] rfl (by rfl) (by kernel_rfl) fun KK hKK => ?_;have o0 := HL3.out.2.1.cell (i := 0) rfl;have o1 := HL3.out.2.1.cell (i := 1) rfl;have o2 := HL3.out.2.1.cell (i := 2) rfl;have o3 := HL3.out.2.1.cell (i := 3) rfl;have f0 := HL3.out.2.1.fz 0;have f1 := HL3.out.2.1.fz 1;have f2 := HL3.out.2.1.fz 2;have f3 := HL3.out.2.1.fz 3;go_simp;refine hKK _ _ (fun e he => absurd he (by simp)) ?_;clear hKK KK o0 o1 o2 o3 f0 f1 f2 f3;refine wpOTC_done ?_;show Kz _ _;refine hKz _ _ ?_;clear hKz Kz;go_simp;have hzb : base ≤ z := by have := HL3.out.2.2.2.1;have := HD0.out.sz;omega
    have hlz := HL3.out.2.2.2.2.1;have hp4 := (((HL3.out.1.set HC.out hzb hlz 0 (.int .i64 k)).set HC.out hzb hlz 1 (.int .i64 (j : Int))).set HC.out hzb hlz 2 (.int .i64 0)).set HC.out hzb hlz 3 (.int .i64 0);have hz4 := (((HL3.out.2.1.put 0 (.int .i64 k)).put 1 (.int .i64 (j : Int))).put 2 (.int .i64 0)).put 3 (.int .i64 0);have hzz := HL3.out.2.2.2.1;have ht4 := ((((HL3.out.2.2.1.set (p := ⟨z,0,none⟩) (.inl hzz) (.int .i64 k)).set (p := ⟨z,1,none⟩) (.inl hzz) (.int .i64 (j : Int))).set (p := ⟨z,2,none⟩) (.inl hzz) (.int .i64 0)).set (p := ⟨z,3,none⟩) (.inl hzz) (.int .i64 0));generalize ((((w3.setCell ⟨z,0,none⟩ (.int .i64 k)).setCell ⟨z,1,none⟩ (.int .i64 (j : Int))).setCell ⟨z,2,none⟩ (.int .i64 0)).setCell ⟨z,3,none⟩ (.int .i64 0)) = w4 at hp4 hz4 ht4 ⊢;change Row w4 z 56 [.int .i64 k,.int .i64 (j : Int),.int .i64 0,.int .i64 0] at hz4;have HZZ := Lib.hid (And.intro hzb (And.intro hzz (And.intro hlz HL3.out.2.2.2.2.2)));have HP4 := Lib.hid (And.intro hp4 (And.intro hz4 ht4));have q0 := hp4.rb.cell (i := 0) rfl;have q1 := hz4.cell (i := 1) rfl;clear hp4 hz4 ht4 hzb hlz hzz HL3
    gi_wp2_with fail
    refine ⟨trivial,(callsIn_wide.2 (numbers_any K k sd (j : Int) ((j + 1 : Nat) : Int) A' (j + 1) c' g w4 hk hs ⟨by omega,by omega⟩ HP4.out.1.la HP4.out.1.rg)).mono ?_⟩;rintro r w5 ⟨rfl,hb5⟩;have hx := nz_rng K k sd (j : Int) 0;have hy := nz_rng K k sd (j : Int) 1;obtain ⟨X,hX⟩ : ∃ X,nz K k sd (j : Int) 0 = X := ⟨_,rfl⟩;obtain ⟨Y,hYY⟩ : ∃ Y,nz K k sd (j : Int) 1 = Y := ⟨_,rfl⟩;rw [hX] at hx;rw [hYY] at hy;rw [hX,hYY];have HXY := Lib.hid (And.intro hX hYY);have HP5 := Lib.hid (And.intro (HP4.out.1.next hb5) (And.intro (HP4.out.2.1.below hb5 HP4.out.2.1.lt) (HP4.out.2.2.next hb5)));clear q0 q1 hX hYY hb5 HP4;have hi0 : ∀ V : World,(Instr.index 171 (.agg #[.pointer (some ⟨z,2,none⟩),.pointer (some ⟨z,3,none⟩)]) (.int .i64 0)).run Tryz.prog V = .ok (.pointer (some ⟨z,2,none⟩)) V := fun V => by kernel_rfl
    have hi1 : ∀ V : World,(Instr.index 171 (.agg #[.pointer (some ⟨z,2,none⟩),.pointer (some ⟨z,3,none⟩)]) (.int .i64 1)).run Tryz.prog V = .ok (.pointer (some ⟨z,3,none⟩)) V := fun V => by kernel_rfl
    gi_wp2_with fail
    refine wpIn_loop_rounds 3 ?_;rw [roundsIn_succ];obtain ⟨y,hy5⟩ : ∃ y,w5.heap.size = y := ⟨_,rfl⟩;have hp6 := HP5.out.1.next ((Below.refl w5.heap.size w5).alloc (Nat.le_refl _) (.cells #[.int .i64 X,.int .i64 Y] 113));have hz6 := HP5.out.2.1.alloc (.cells #[.int .i64 X,.int .i64 Y] 113);have ht6 := HP5.out.2.2.alloc (.cells #[.int .i64 X,.int .i64 Y] 113);have hy6 : Row (w5.alloc (.cells #[.int .i64 X,.int .i64 Y] 113)) y 113 [.int .i64 X,.int .i64 Y] := Row.fresh' _ _ _ hy5;have hzy : z < y := by have := HP5.out.2.1.lt;omega
    rw [hy5];generalize (w5.alloc (.cells #[.int .i64 X,.int .i64 Y] 113)) = w6 at hp6 hz6 ht6 hy6 ⊢;clear hy5 HP5;have HP6 := Lib.hid (And.intro hp6 (And.intro hz6 (And.intro ht6 hy6)));have q0 := hy6.cell (i := 0) rfl;clear hp6 hz6 ht6 hy6
    gi_wp2_with fail
    refine ⟨trivial,(callsIn_wide.2 (four_pow_any X _ (by omega) (by omega))).mono ?_⟩;rintro r w7 ⟨rfl,hb7⟩;obtain ⟨DD,hDD⟩ : ∃ DD : Int,(Gm.pw X.toNat : Int) = DD := ⟨_,rfl⟩;rw [hDD];have HDD := Lib.hid hDD;have hy7 := HP6.out.2.2.2.below hb7 HP6.out.2.2.2.lt;have hz7 := HP6.out.2.1.below hb7 HP6.out.2.1.lt;have hp7 := HP6.out.1.next hb7;have ht7 := HP6.out.2.2.1.next hb7;have HP7 := Lib.hid (And.intro hp7 (And.intro hz7 (And.intro ht7 hy7)));have o2 := hz7.cell (i := 2) rfl;have f2 := hz7.fz 2;clear hb7 hy7 hz7 hp7 ht7 hDD q0 HP6
    gi_wp2_with fail
    refine ⟨trivial,(callsIn_wide.2 (nneed_any _ _)).mono ?_⟩;rintro r w8 ⟨rfl,rfl⟩
    gi_wp2_with fail
    clear o2 f2;have hp9 := HP7.out.1.set HC.out HZZ.out.1 HZZ.out.2.2.1 2 (.int .i64 DD);have hz9 := HP7.out.2.1.put 2 (.int .i64 DD);have ht9 := HP7.out.2.2.1.set (p := ⟨z,2,none⟩) (.inl HZZ.out.2.1) (.int .i64 DD);have hy9 := HP7.out.2.2.2.away (p := ⟨z,2,none⟩) (by show y ≠ z;omega) (.int .i64 DD);generalize (w7.setCell ⟨z,2,none⟩ (.int .i64 DD)) = w9 at hp9 hz9 ht9 hy9 ⊢;have HP9 := Lib.hid (And.intro hp9 (And.intro hz9 (And.intro ht9 hy9)));clear HP7 hp9 hz9 ht9 hy9;rw [roundsIn_succ];have q0 := HP9.out.2.2.2.cell (i := 1) rfl
    gi_wp2_with fail
    refine ⟨trivial,(callsIn_wide.2 (four_pow_any Y _ (by omega) (by omega))).mono ?_⟩;rintro r w10 ⟨rfl,hb7⟩;obtain ⟨EE,hEE⟩ : ∃ EE : Int,(Gm.pw Y.toNat : Int) = EE := ⟨_,rfl⟩;rw [hEE];have HEE := Lib.hid hEE;have hy7 := HP9.out.2.2.2.below hb7 HP9.out.2.2.2.lt;have hz7 := HP9.out.2.1.below hb7 HP9.out.2.1.lt;have hp7 := HP9.out.1.next hb7;have ht7 := HP9.out.2.2.1.next hb7;have HP7 := Lib.hid (And.intro hp7 (And.intro hz7 (And.intro ht7 hy7)));have o2 := hz7.cell (i := 3) rfl;have f2 := hz7.fz 3;clear hb7 hy7 hz7 hp7 ht7 hEE q0 HP9
    gi_wp2_with fail
    refine ⟨trivial,(callsIn_wide.2 (nneed_any _ _)).mono ?_⟩;rintro r w8 ⟨rfl,rfl⟩
    gi_wp2_with fail
    clear o2 f2;have hp9 := HP7.out.1.set HC.out HZZ.out.1 HZZ.out.2.2.1 3 (.int .i64 EE);have hz9 := HP7.out.2.1.put 3 (.int .i64 EE);have ht9 := HP7.out.2.2.1.set (p := ⟨z,3,none⟩) (.inl HZZ.out.2.1) (.int .i64 EE);have hy9 := HP7.out.2.2.2.away (p := ⟨z,3,none⟩) (by show y ≠ z;omega) (.int .i64 EE);generalize (w10.setCell ⟨z,3,none⟩ (.int .i64 EE)) = w12 at hp9 hz9 ht9 hy9 ⊢;have HP12 := Lib.hid (And.intro hp9 (And.intro hz9 (And.intro ht9 hy9)));clear HP7 hp9 hz9 ht9 hy9;rw [roundsIn_succ];have hz12 : Row w12 z 56 [.int .i64 k,.int .i64 (j : Int),.int .i64 DD,.int .i64 EE] := HP12.out.2.1;have o0 := hz12.cell (i := 0) rfl;have o1 := hz12.cell (i := 1) rfl;have o2 := hz12.cell (i := 2) rfl;have o3 := hz12.cell (i := 3) rfl;have hw12 : Tch (fun i => i = g ∨ (Value.slice A j c).ownBlock = some i) wr w12 := (Tch.of_bel HDB.out).trans HP12.out.2.2.1
    have hJ1 := HM.out (j,false) wr w12 HJ.out ⟨rfl,A,c,A',c',HPB.out,HP12.out.1,hw12,fun b hb => by
     rcases HZZ.out.2.2.2 b hb with h | h
     ·exact .inl h
     ·exact .inr (Nat.le_trans HDB.out.size h)⟩
    have hpc : (#[.agg (pairC K k sd (j : Int)).toArray] : Array Value) = #[.agg #[.int .i64 k,.int .i64 (j : Int),.int .i64 DD,.int .i64 EE]] := by
     unfold pairC;rw [HXY.out.1,HXY.out.2,HDD.out,HEE.out]
    have hy0 := HY.out (j,true) #[.agg #[.int .i64 k,.int .i64 (j : Int),.int .i64 DD,.int .i64 EE]] (j + 1,false) w12 hJ1 ⟨rfl,hlt,hpc.symm,rfl⟩;obtain ⟨fn,tmps,assign,body,hyy,hRR⟩ := hy0;have HRR := Lib.hid hRR;clear hRR hpc hJ1 hw12 hz12 HP12 HXY HDD HEE HZZ HPB HDB HD0 HNX HDR hi0 hi1
    gi_wp2_with fail
    refine HRR.out.mono ?_;rintro x W3 (⟨rfl,hJ3⟩ | ⟨rfl,hJ3⟩)
    ·have HJ3 := Lib.hid hJ3
     clear hJ3 o0 o1 o2 o3 hyy
     gi_wp2_with fail
     go_roundw
     case rel => exact ⟨j + 1,by omega,by go_num,HJ3.out⟩
     case measure => simp [intOf];omega
    ·have HJ3 := Lib.hid hJ3
     clear hJ3 o0 o1 o2 o3 hyy
     gi_wp2_with fail
     refine bodyPost_ret (results_none' rfl _ _ _ rfl) rfl ?_;exact ⟨⟨_,rfl⟩,.inr ⟨_,HJ3.out⟩⟩
   ·go_simp
    obtain ⟨z,hz⟩ : ∃ z,wd.heap.size = z := ⟨_,rfl⟩;have hp2 := HD0.out.next ((Below.refl wd.heap.size wd).alloc (Nat.le_refl _) (.cells #[.int .i64 0,.int .i64 0,.int .i64 0,.int .i64 0] 56));have hz2 : Row (wd.alloc (.cells #[.int .i64 0,.int .i64 0,.int .i64 0,.int .i64 0] 56)) z 56 [.int .i64 0,.int .i64 0,.int .i64 0,.int .i64 0] := Row.fresh' _ _ _ hz;have hb2 : Below wd.heap.size wd (wd.alloc (.cells #[.int .i64 0,.int .i64 0,.int .i64 0,.int .i64 0] 56)) := (Below.refl _ _).alloc (Nat.le_refl _) _;have hs2 : (wd.alloc (.cells #[.int .i64 0,.int .i64 0,.int .i64 0,.int .i64 0] 56)).heap.size = z + 1 := by rw [World.size_alloc,hz]
    refine hKK _ _ (fun _ _ _ => ⟨hp2.rb,hp2.rx,hp2.rg.cell (i := 0) rfl⟩) ?_;clear hKK KK;rw [hz];generalize (wd.alloc (.cells #[.int .i64 0,.int .i64 0,.int .i64 0,.int .i64 0] 56)) = w2 at hp2 hz2 hb2 hs2 ⊢;refine wpOTC_one _ rfl (by rfl) rfl fun KK hKK => ?_;go_simp;refine ⟨trivial,(callsIn_wide.2 (HNX.out _ hp2)).mono ?_⟩;rintro r w3 ⟨rfl,A',c',hp3,hor3,ht3⟩;refine hKK _ _ (fun _ _ _ => ⟨hp3.rb,hp3.rx,hp3.rg.cell (i := 0) rfl⟩) ?_;clear hKK KK;have hlv0 : ∀ b,(Value.slice A j c).ownBlock = some b → b < z := fun b hb => by have := (HD0.out.lv b hb).2;omega
    have hzb : base ≤ z := by have := HD0.out.sz;omega
    have hz3 : Row w3 z 56 [.int .i64 0,.int .i64 0,.int .i64 0,.int .i64 0] := ht3.row hz2 (by have := HC.out.bg;rintro (h | h);omega;have := hlv0 z h;omega);have ht3' : Tch (fun i => i = g ∨ (Value.slice A j c).ownBlock = some i) wd w3 := (Tch.of_bel hb2).trans ht3;have hzz : wd.heap.size ≤ z := by omega
    have hlz : ∀ b,(Value.slice A' (j + 1) c').ownBlock = some b → b ≠ z := fun b hb => by
     rcases hor3 b hb with h | h
     ·have := hlv0 b h;omega
     ·omega
    have hor2 : ∀ b,(Value.slice A' (j + 1) c').ownBlock = some b → (Value.slice A j c).ownBlock = some b ∨ wd.heap.size ≤ b := fun b hb => by
     rcases hor3 b hb with h | h
     ·exact .inl h
     ·exact .inr (by omega)
    refine wpOTC_take rfl _ (by rfl) (fun _ => rfl) (by intro w' hS;skip;go_simp;try with_reducible rfl) (fun h => by omega) fun KK hKK => ?_;go_simp;refine hKK _ ?_;clear hKK KK;have HL3 := Lib.hid (And.intro hp3 (And.intro hz3 (And.intro ht3' (And.intro hzz (And.intro hlz hor2)))));clear hp3 ht3 ht3' hzz hlz hor2 hor3 hp2 hz2 hb2 hs2 hlv0 hzb hz;refine wpOTC_one [] rfl (by rfl) (by kernel_rfl) fun KK hKK => ?_;have o0 := HL3.out.2.1.cell (i := 0) rfl;have o1 := HL3.out.2.1.cell (i := 1) rfl;have o2 := HL3.out.2.1.cell (i := 2) rfl;have o3 := HL3.out.2.1.cell (i := 3) rfl;have f0 := HL3.out.2.1.fz 0;have f1 := HL3.out.2.1.fz 1;have f2 := HL3.out.2.1.fz 2;have f3 := HL3.out.2.1.fz 3;go_simp;refine hKK _ _ (fun e he => absurd he (by simp)) ?_;clear hKK KK o0 o1 o2 o3 f0 f1 f2 f3;refine wpOTC_done ?_;show Kz _ _;refine hKz _ _ ?_;clear hKz Kz;go_simp;have hzb : base ≤ z := by have := HL3.out.2.2.2.1;have := HD0.out.sz;omega
    have hlz := HL3.out.2.2.2.2.1;have hp4 := (((HL3.out.1.set HC.out hzb hlz 0 (.int .i64 k)).set HC.out hzb hlz 1 (.int .i64 (j : Int))).set HC.out hzb hlz 2 (.int .i64 0)).set HC.out hzb hlz 3 (.int .i64 0);have hz4 := (((HL3.out.2.1.put 0 (.int .i64 k)).put 1 (.int .i64 (j : Int))).put 2 (.int .i64 0)).put 3 (.int .i64 0);have hzz := HL3.out.2.2.2.1;have ht4 := ((((HL3.out.2.2.1.set (p := ⟨z,0,none⟩) (.inl hzz) (.int .i64 k)).set (p := ⟨z,1,none⟩) (.inl hzz) (.int .i64 (j : Int))).set (p := ⟨z,2,none⟩) (.inl hzz) (.int .i64 0)).set (p := ⟨z,3,none⟩) (.inl hzz) (.int .i64 0));generalize ((((w3.setCell ⟨z,0,none⟩ (.int .i64 k)).setCell ⟨z,1,none⟩ (.int .i64 (j : Int))).setCell ⟨z,2,none⟩ (.int .i64 0)).setCell ⟨z,3,none⟩ (.int .i64 0)) = w4 at hp4 hz4 ht4 ⊢;change Row w4 z 56 [.int .i64 k,.int .i64 (j : Int),.int .i64 0,.int .i64 0] at hz4;have HZZ := Lib.hid (And.intro hzb (And.intro hzz (And.intro hlz HL3.out.2.2.2.2.2)));have HP4 := Lib.hid (And.intro hp4 (And.intro hz4 ht4));have q0 := hp4.rb.cell (i := 0) rfl;have q1 := hz4.cell (i := 1) rfl;clear hp4 hz4 ht4 hzb hlz hzz HL3
    gi_wp2_with fail
    refine ⟨trivial,(callsIn_wide.2 (numbers_any K k sd (j : Int) ((j + 1 : Nat) : Int) A' (j + 1) c' g w4 hk hs ⟨by omega,by omega⟩ HP4.out.1.la HP4.out.1.rg)).mono ?_⟩;rintro r w5 ⟨rfl,hb5⟩;have hx := nz_rng K k sd (j : Int) 0;have hy := nz_rng K k sd (j : Int) 1;obtain ⟨X,hX⟩ : ∃ X,nz K k sd (j : Int) 0 = X := ⟨_,rfl⟩;obtain ⟨Y,hYY⟩ : ∃ Y,nz K k sd (j : Int) 1 = Y := ⟨_,rfl⟩;rw [hX] at hx;rw [hYY] at hy;rw [hX,hYY];have HXY := Lib.hid (And.intro hX hYY);have HP5 := Lib.hid (And.intro (HP4.out.1.next hb5) (And.intro (HP4.out.2.1.below hb5 HP4.out.2.1.lt) (HP4.out.2.2.next hb5)));clear q0 q1 hX hYY hb5 HP4;have hi0 : ∀ V : World,(Instr.index 171 (.agg #[.pointer (some ⟨z,2,none⟩),.pointer (some ⟨z,3,none⟩)]) (.int .i64 0)).run Tryz.prog V = .ok (.pointer (some ⟨z,2,none⟩)) V := fun V => by kernel_rfl
    have hi1 : ∀ V : World,(Instr.index 171 (.agg #[.pointer (some ⟨z,2,none⟩),.pointer (some ⟨z,3,none⟩)]) (.int .i64 1)).run Tryz.prog V = .ok (.pointer (some ⟨z,3,none⟩)) V := fun V => by kernel_rfl
    gi_wp2_with fail
    refine wpIn_loop_rounds 3 ?_;rw [roundsIn_succ];obtain ⟨y,hy5⟩ : ∃ y,w5.heap.size = y := ⟨_,rfl⟩;have hp6 := HP5.out.1.next ((Below.refl w5.heap.size w5).alloc (Nat.le_refl _) (.cells #[.int .i64 X,.int .i64 Y] 113));have hz6 := HP5.out.2.1.alloc (.cells #[.int .i64 X,.int .i64 Y] 113);have ht6 := HP5.out.2.2.alloc (.cells #[.int .i64 X,.int .i64 Y] 113);have hy6 : Row (w5.alloc (.cells #[.int .i64 X,.int .i64 Y] 113)) y 113 [.int .i64 X,.int .i64 Y] := Row.fresh' _ _ _ hy5;have hzy : z < y := by have := HP5.out.2.1.lt;omega
    rw [hy5];generalize (w5.alloc (.cells #[.int .i64 X,.int .i64 Y] 113)) = w6 at hp6 hz6 ht6 hy6 ⊢;clear hy5 HP5;have HP6 := Lib.hid (And.intro hp6 (And.intro hz6 (And.intro ht6 hy6)));have q0 := hy6.cell (i := 0) rfl;clear hp6 hz6 ht6 hy6
    gi_wp2_with fail
    refine ⟨trivial,(callsIn_wide.2 (four_pow_any X _ (by omega) (by omega))).mono ?_⟩;rintro r w7 ⟨rfl,hb7⟩;obtain ⟨DD,hDD⟩ : ∃ DD : Int,(Gm.pw X.toNat : Int) = DD := ⟨_,rfl⟩;rw [hDD];have HDD := Lib.hid hDD;have hy7 := HP6.out.2.2.2.below hb7 HP6.out.2.2.2.lt;have hz7 := HP6.out.2.1.below hb7 HP6.out.2.1.lt;have hp7 := HP6.out.1.next hb7;have ht7 := HP6.out.2.2.1.next hb7;have HP7 := Lib.hid (And.intro hp7 (And.intro hz7 (And.intro ht7 hy7)));have o2 := hz7.cell (i := 2) rfl;have f2 := hz7.fz 2;clear hb7 hy7 hz7 hp7 ht7 hDD q0 HP6
    gi_wp2_with fail
    refine ⟨trivial,(callsIn_wide.2 (nneed_any _ _)).mono ?_⟩;rintro r w8 ⟨rfl,rfl⟩
    gi_wp2_with fail
    clear o2 f2;have hp9 := HP7.out.1.set HC.out HZZ.out.1 HZZ.out.2.2.1 2 (.int .i64 DD);have hz9 := HP7.out.2.1.put 2 (.int .i64 DD);have ht9 := HP7.out.2.2.1.set (p := ⟨z,2,none⟩) (.inl HZZ.out.2.1) (.int .i64 DD);have hy9 := HP7.out.2.2.2.away (p := ⟨z,2,none⟩) (by show y ≠ z;omega) (.int .i64 DD);generalize (w7.setCell ⟨z,2,none⟩ (.int .i64 DD)) = w9 at hp9 hz9 ht9 hy9 ⊢;have HP9 := Lib.hid (And.intro hp9 (And.intro hz9 (And.intro ht9 hy9)));clear HP7 hp9 hz9 ht9 hy9;rw [roundsIn_succ];have q0 := HP9.out.2.2.2.cell (i := 1) rfl
    gi_wp2_with fail
    refine ⟨trivial,(callsIn_wide.2 (four_pow_any Y _ (by omega) (by omega))).mono ?_⟩;rintro r w10 ⟨rfl,hb7⟩;obtain ⟨EE,hEE⟩ : ∃ EE : Int,(Gm.pw Y.toNat : Int) = EE := ⟨_,rfl⟩;rw [hEE];have HEE := Lib.hid hEE;have hy7 := HP9.out.2.2.2.below hb7 HP9.out.2.2.2.lt;have hz7 := HP9.out.2.1.below hb7 HP9.out.2.1.lt;have hp7 := HP9.out.1.next hb7;have ht7 := HP9.out.2.2.1.next hb7;have HP7 := Lib.hid (And.intro hp7 (And.intro hz7 (And.intro ht7 hy7)));have o2 := hz7.cell (i := 3) rfl;have f2 := hz7.fz 3;clear hb7 hy7 hz7 hp7 ht7 hEE q0 HP9
    gi_wp2_with fail
    refine ⟨trivial,(callsIn_wide.2 (nneed_any _ _)).mono ?_⟩;rintro r w8 ⟨rfl,rfl⟩
    gi_wp2_with fail
    clear o2 f2;have hp9 := HP7.out.1.set HC.out HZZ.out.1 HZZ.out.2.2.1 3 (.int .i64 EE);have hz9 := HP7.out.2.1.put 3 (.int .i64 EE);have ht9 := HP7.out.2.2.1.set (p := ⟨z,3,none⟩) (.inl HZZ.out.2.1) (.int .i64 EE);have hy9 := HP7.out.2.2.2.away (p := ⟨z,3,none⟩) (by show y ≠ z;omega) (.int .i64 EE);generalize (w10.setCell ⟨z,3,none⟩ (.int .i64 EE)) = w12 at hp9 hz9 ht9 hy9 ⊢;have HP12 := Lib.hid (And.intro hp9 (And.intro hz9 (And.intro ht9 hy9)));clear HP7 hp9 hz9 ht9 hy9;rw [roundsIn_succ];have hz12 : Row w12 z 56 [.int .i64 k,.int .i64 (j : Int),.int .i64 DD,.int .i64 EE] := HP12.out.2.1;have o0 := hz12.cell (i := 0) rfl;have o1 := hz12.cell (i := 1) rfl;have o2 := hz12.cell (i := 2) rfl;have o3 := hz12.cell (i := 3) rfl;have hw12 : Tch (fun i => i = g ∨ (Value.slice A j c).ownBlock = some i) wr w12 := (Tch.of_bel HDB.out).trans HP12.out.2.2.1
    have hJ1 := HM.out (j,false) wr w12 HJ.out ⟨rfl,A,c,A',c',HPB.out,HP12.out.1,hw12,fun b hb => by
     rcases HZZ.out.2.2.2 b hb with h | h
     ·exact .inl h
     ·exact .inr (Nat.le_trans HDB.out.size h)⟩
    have hpc : (#[.agg (pairC K k sd (j : Int)).toArray] : Array Value) = #[.agg #[.int .i64 k,.int .i64 (j : Int),.int .i64 DD,.int .i64 EE]] := by
     unfold pairC;rw [HXY.out.1,HXY.out.2,HDD.out,HEE.out]
    have hy0 := HY.out (j,true) #[.agg #[.int .i64 k,.int .i64 (j : Int),.int .i64 DD,.int .i64 EE]] (j + 1,false) w12 hJ1 ⟨rfl,hlt,hpc.symm,rfl⟩;obtain ⟨fn,tmps,assign,body,hyy,hRR⟩ := hy0;have HRR := Lib.hid hRR;clear hRR hpc hJ1 hw12 hz12 HP12 HXY HDD HEE HZZ HPB HDB HD0 HNX HDR hi0 hi1
    gi_wp2_with fail
    refine HRR.out.mono ?_;rintro x W3 (⟨rfl,hJ3⟩ | ⟨rfl,hJ3⟩)
    ·have HJ3 := Lib.hid hJ3
     clear hJ3 o0 o1 o2 o3 hyy
     gi_wp2_with fail
     go_roundw
     case rel => exact ⟨j + 1,by omega,by go_num,HJ3.out⟩
     case measure => simp [intOf];omega
    ·have HJ3 := Lib.hid hJ3
     clear hJ3 o0 o1 o2 o3 hyy
     gi_wp2_with fail
     refine bodyPost_ret (results_none' rfl _ _ _ rfl) rfl ?_;exact ⟨⟨_,rfl⟩,.inr ⟨_,HJ3.out⟩⟩
  ·have hjm : j = m := by omega
   have HE := Lib.hid hjm;have j1 : ¬ (j : Int) < (m : Int) := by omega
   clear hlt hjm
   gi_wp2_with fail
   refine bodyPost_end (results_none' rfl _ _ _ rfl) rfl ?_;exact ⟨⟨_,rfl⟩,.inl (by have := HJ.out;rwa [HE.out] at this)⟩
theorem PB.cells {g base sn sb sx : Nat} {k sd m : Int} {W W' : World} {j : Nat} {A : Option Addr} {c : Nat} (h : PB g base sn sb sx k sd m W j A c) (hc : ∀ (k : Nat) (o : Obj),W.heap[k]? = some o → o.isCells = true → W'.heap[k]? = some o) (hb : Below 2 W W') (hs : W.heap.size ≤ W'.heap.size) : PB g base sn sb sx k sd m W' j A c :=
 ⟨hc _ _ h.rn rfl,hc _ _ h.rb rfl,hc _ _ h.rx rfl,hc _ _ h.rg rfl,(by
  refine ⟨h.ow.1,?_⟩
  rcases h.ow.2 with h2 | ⟨q,cap,cur,e1,e2,e3,e4⟩
  ·exact .inl h2
  ·exact .inr ⟨q,cap,cur,e1,e2,hc _ _ e3 rfl,e4⟩),h.la.below hb (Nat.le_refl 2),Nat.le_trans h.sz hs⟩
theorem Row.inj {w : World} {g : Nat} {t : TypeId} {cs ds : List Value} (h : Row w g t cs) (k : Row w g t ds) : cs = ds := by
 unfold Row at h k;rw [h] at k;have k := Option.some.inj k
 injection k with k1 k2 k3
 exact List.toArray_inj k1
theorem own_at {W W' : World} {b : Nat} {e : TypeId} {sz : Nat} {v : Value} {m : Nat} {xs : List Value} (ho : W.ownsRow b e sz v m xs) (hc : ∀ g,v.ownBlock = some g → W'.heap[g]? = W.heap[g]?) : W'.ownsRow b e sz v m xs := by
 refine ⟨ho.1,?_⟩
 rcases ho.2 with h2 | ⟨g,cap,cur,e1,e2,e3,e4⟩
 ·exact .inl h2
 ·exact .inr ⟨g,cap,cur,e1,e2,(hc g (by rw [e1];rfl)).trans e3,e4⟩
def prs (K : Sh.Cst) (k sd : Int) (j : Nat) : List Value := (List.range j).flatMap fun i : Nat => pairC K k sd (i : Int)
theorem prs_next (K : Sh.Cst) (k sd : Int) (j : Nat) : prs K k sd (j + 1) = prs K k sd j ++ pairC K k sd (j : Int) := by
 unfold prs;rw [List.range_succ,List.flatMap_append];simp
structure AQ (K : Sh.Cst) (g s sn sb sx : Nat) (k sd m : Int) (w4 W : World) (jb jp : Nat) (A : Option Addr) (c : Nat) (A2 : Option Addr) (c2 : Nat) : Prop where
 pb : PB g (s + 1) sn sb sx k sd m W jb A c
 rs : Row W s 47 [.slice A2 jp c2]
 ow : W.ownsRow (s + 1) 56 4 (.slice A2 jp c2) jp (prs K k sd jp)
 dj : ∀ b,(Value.slice A jb c).ownBlock = some b → (Value.slice A2 jp c2).ownBlock ≠ some b
 tc : Tch (fun i => i = g ∨ i = s) w4 W
theorem PB.base {g base B sn sb sx : Nat} {k sd m : Int} {W : World} (h : PB g base sn sb sx k sd m W 0 none 0) (hB : B ≤ W.heap.size) : PB g B sn sb sx k sd m W 0 none 0 := ⟨h.rn,h.rb,h.rx,h.rg,World.ownsRow_nil _ _ _ _,h.la,hB⟩
theorem PB.grown {g base sn sb sx : Nat} {k sd m : Int} {W W' : World} {j : Nat} {A : Option Addr} {c : Nat} (h : PB g base sn sb sx k sd m W j A c) (hc : PBc g base sn sb sx) {row : Option Nat} (hg : W.grownBy W' row) (hr : ∀ r,row = some r → base ≤ r ∧ ∃ o : Obj,W.heap[r]? = some o ∧ o.isCells = false) : PB g base sn sb sx k sd m W' j A c := by
 have hx : ∀ i,i < base → some i ≠ row := fun i hi e => by have := (hr i e.symm).1;omega
 refine ⟨h.rn.grown hg (hx _ hc.bn),h.rb.grown hg (hx _ hc.bb),h.rx.grown hg (hx _ hc.bx),h.rg.grown hg (hx _ hc.bg),own_at h.ow (fun b e => hg.block b (h.lv b e).2 (fun e2 => ?_)),h.la.grown hg (fun q e => by have := (hr q e).1;have := hc.bg;have := hc.g2;omega),Nat.le_trans h.sz hg.size⟩;obtain ⟨o,ho,hn⟩ := (hr b e2.symm).2;obtain ⟨o',ho',hn'⟩ := own_isc h.ow e;rw [ho] at ho';cases ho';rw [hn] at hn';cases hn'
section
variable {K : Sh.Cst} {g s sn sb sx : Nat} {k sd m : Int} {w4 W W' : World} {jb jp : Nat} {A : Option Addr} {c : Nat} {A2 : Option Addr} {c2 : Nat}
theorem AQ.grown (h : AQ K g s sn sb sx k sd m w4 W jb jp A c A2 c2) (hc : PBc g (s + 1) sn sb sx) (hw : s + 1 ≤ w4.heap.size) {row : Option Nat} (hg : W.grownBy W' row) (hr : ∀ r,row = some r → w4.heap.size ≤ r ∧ ∃ o : Obj,W.heap[r]? = some o ∧ o.isCells = false) : AQ K g s sn sb sx k sd m w4 W' jb jp A c A2 c2 := by
 refine ⟨h.pb.grown hc hg (fun r e => ⟨by have := (hr r e).1;omega,(hr r e).2⟩),h.rs.grown hg (fun e => by have := (hr s e.symm).1;omega),own_at h.ow (fun b e => hg.block b (h.ow.lt b e).2 (fun e2 => ?_)),h.dj,h.tc.grown hg (fun r e => .inl (hr r e).1)⟩;obtain ⟨o,ho,hn⟩ := (hr b e2.symm).2;obtain ⟨o',ho',hn'⟩ := own_isc h.ow e;rw [ho] at ho';cases ho';rw [hn] at hn';cases hn'
theorem AQ.next (h : AQ K g s sn sb sx k sd m w4 W jb jp A c A2 c2) (hb : Below W.heap.size W W') : AQ K g s sn sb sx k sd m w4 W' jb jp A c A2 c2 :=
 ⟨h.pb.next hb,h.rs.below hb h.rs.lt,own_belowU h.ow hb (fun b e => (h.ow.lt b e).2),h.dj,h.tc.next hb⟩
theorem AQ.app {W1 w9 : World} {g9 c9 : Nat} (h : AQ K g s sn sb sx k sd m w4 W jb jp A c A2 c2) (hc : PBc g s sn sb sx) (hw : w4.heap.size = s + 1) (hal : Below W.heap.size W W1) (ho : w9.ownsRow (s + 1) 56 4 (.slice (some ⟨g9,0,none⟩) (jp + 1) c9) (jp + 1) (prs K k sd (jp + 1)))
  (hg : W1.grownBy w9 (Value.slice A2 jp c2).ownBlock) (hor : (Value.slice (some ⟨g9,0,none⟩) (jp + 1) c9).ownBlock = (Value.slice A2 jp c2).ownBlock ∨ (Value.slice (some ⟨g9,0,none⟩) (jp + 1) c9).ownBlock = some W1.heap.size) :
  AQ K g s sn sb sx k sd m w4 (w9.setCell ⟨s,0,none⟩ (.slice (some ⟨g9,0,none⟩) (jp + 1) c9)) jb (jp + 1) A c (some ⟨g9,0,none⟩) c9 := by
 have h1 := h.next hal;have hob : ∀ b,(Value.slice A2 jp c2).ownBlock = some b → s + 1 ≤ b := fun b e => (h.ow.lt b e).1;have hx : ∀ i,i < s + 1 → some i ≠ (Value.slice A2 jp c2).ownBlock := fun i hi e => by have := hob i e.symm;omega
 have hbg := hc.bg;have hbn := hc.bn;have hbb := hc.bb;have hbx := hc.bx
 have hl9 : ∀ b,(Value.slice A jb c).ownBlock = some b → b ≠ g9 := fun b hb e => by
  rcases hor with h2 | h2
  ·exact h.dj b hb (by rw [← h2,e];rfl)
  ·have h3 : g9 = W1.heap.size := Option.some.inj h2
   have := (h1.pb.lv b hb).2;omega
 refine ⟨⟨(h1.pb.rn.grown hg (hx _ (by omega))).away (p := ⟨s,0,none⟩) (by show sn ≠ s;omega) _,(h1.pb.rb.grown hg (hx _ (by omega))).away (p := ⟨s,0,none⟩) (by show sb ≠ s;omega) _,(h1.pb.rx.grown hg (hx _ (by omega))).away (p := ⟨s,0,none⟩) (by show sx ≠ s;omega) _,(h1.pb.rg.grown hg (hx _ (by omega))).away (p := ⟨s,0,none⟩) (by show g ≠ s;omega) _,?_,?_,?_⟩,(h1.rs.grown hg (hx _ (by omega))).put 0 _,own_setC ho (by show s < s + 1;omega) _,?_,?_⟩
 ·refine own_setC (own_at h1.pb.ow fun b hb => hg.block b (h1.pb.lv b hb).2 (fun e => ?_)) (by show s < s + 1;omega) _
  exact h.dj b hb e.symm
 ·exact (h1.pb.la.grown hg (fun q e => by have := hob q e;have := hc.g2;omega)).grown (grown_setC w9 ⟨s,0,none⟩ _) (fun q e => by have h3 : s = q := Option.some.inj e;have := hc.g2;omega)
 ·rw [World.size_setCell];exact Nat.le_trans h1.pb.sz hg.size
 ·intro b hb h2
  exact hl9 b hb (Option.some.inj h2).symm
 ·exact (h1.tc.grown hg (fun r e => .inl (by have := hob r e;omega))).set (p := ⟨s,0,none⟩) (.inr (.inr rfl)) _
theorem AQ.move (h : AQ K g s sn sb sx k sd m w4 W jb jp A c A2 c2) (hc : PBc g (s + 1) sn sb sx) (hw : w4.heap.size = s + 1) (hgs : g < s) (hm : PBm g (s + 1) sn sb sx k sd m jb W W') : ∃ A' c',AQ K g s sn sb sx k sd m w4 W' (jb + 1) jp A' c' A2 c2 := by
 obtain ⟨A1,c1,A',c',q1,q2,q3,q4⟩ := hm.ex;have e := h.pb.rg.inj q1.rg
 have e4 : Value.slice A jb c = Value.slice A1 jb c1 := by
  have := congrArg (fun l => l[3]?) e
  simpa using this
 injection e4 with e5 _ e6
 subst e5 e6;have hbg := hc.bg;refine ⟨A',c',q2,q3.row h.rs (fun h1 => ?_),own_at h.ow (fun b hb => q3.block b (h.ow.lt b hb).2 (fun h1 => ?_)),fun b hb h1 => ?_,h.tc.over q3 (fun i hi => ?_)⟩
 ·rcases h1 with h1 | h1
  ·omega
  ·have := (h.pb.lv s h1).1;omega
 ·rcases h1 with h1 | h1
  ·have := (h.ow.lt b hb).1;omega
  ·exact h.dj b h1 hb
 ·rcases q4 b hb with h2 | h2
  ·exact h.dj b h2 h1
  ·have := (h.ow.lt b h1).2;omega
 ·rcases hi with h1 | h1
  ·exact .inr (.inl h1)
  ·rcases Nat.lt_or_ge i w4.heap.size with h2 | h2
   ·exact absurd (h.pb.lv i h1).1 (by omega)
   ·exact .inl h2
end
def ASQ (K : Sh.Cst) (g sn sb sx : Nat) (k sd : Int) (m : Nat) (w : World) (r : Ending) (w' : World) : Prop :=
 ∃ A c A2 c2,r = .returned (.slice A2 m c2) ∧ PB g (w.heap.size + 1) sn sb sx k sd (m : Int) w' m A c ∧ w'.ownsRow (w.heap.size + 1) 56 4 (.slice A2 m c2) m (prs K k sd m) ∧ Tch (fun i => i = g) w w'
theorem appseq_any (K : Sh.Cst) (g B0 sn sb sx : Nat) (k sd : Int) (m : Nat) (w : World) (hm : m ≤ 2) (hk : 0 ≤ k ∧ k < 64) (hsd : 0 ≤ sd ∧ sd ≤ 1099511627776) (h : PB g B0 sn sb sx k sd (m : Int) w 0 none 0) (hc : PBc g w.heap.size sn sb sx) :
  Calls Tryz.prog 92 #[.slice none 0 0,.func (.func 94) #[] #[.pointer (some ⟨sn,0,none⟩),.pointer (some ⟨sb,0,none⟩),.pointer (some ⟨sx,0,none⟩)]] w (ASQ K g sn sb sx k sd m w) := by
 obtain ⟨s,hs⟩ : ∃ s,w.heap.size = s := ⟨_,rfl⟩;have HASQ : Hid (∀ r w',(∃ A c A2 c2,r = .returned (.slice A2 m c2) ∧ PB g (s + 1) sn sb sx k sd (m : Int) w' m A c ∧ w'.ownsRow (s + 1) 56 4 (.slice A2 m c2) m (prs K k sd m) ∧ Tch (fun i => i = g) w w') → ASQ K g sn sb sx k sd m w r w') := fun r w' h => by rw [← hs] at h;exact h
 obtain ⟨w4,hw4⟩ : ∃ w4,w.alloc (.cells #[.slice none 0 0] 47) = w4 := ⟨_,rfl⟩;have hb4 : Below w.heap.size w w4 := by rw [← hw4];exact (Below.refl _ _).alloc (Nat.le_refl _) _
 have hz4 : w4.heap.size = s + 1 := by rw [← hw4,World.size_alloc,hs]
 have hr4 : Row w4 s 47 [.slice none 0 0] := by rw [← hw4];exact Row.fresh' _ _ _ hs
 have hp4 : PB g (s + 1) sn sb sx k sd (m : Int) w4 0 none 0 := (h.next hb4).base (by omega);rw [hs] at hc;have hc1 : PBc g (s + 1) sn sb sx := ⟨by have := hc.bg;omega,by have := hc.bn;omega,by have := hc.bb;omega,by have := hc.bx;omega,hc.ng,hc.nb,hc.nx,hc.g2⟩;have hgs : g < s := hc.bg;have hq4 : AQ K g s sn sb sx k sd (m : Int) w4 w4 0 0 none 0 none 0 := ⟨hp4,hr4,World.ownsRow_nil _ _ _ _,(fun b hb => by cases hb),Tch.refl _ _⟩;have HQ4 := Lib.hid hq4;have HW4 := Lib.hid (And.intro hb4 hw4);have HS := Lib.hid hs;generalize hQQ : ASQ K g sn sb sx k sd m w = QQ at HASQ ⊢;have HC0 := Lib.hid hc;clear h hp4 hr4 hq4 hb4 hc hw4 hs;refine (callsIn_wide (n := 9)).1 ?_;refine callsIn_of_wp_marks Tryz.func92 rfl trivial ?_ rfl;simp only [Tryz.ntmps92,List.size_toArray,List.length_cons,List.length_nil,Nat.reduceAdd,Nat.reduceSub,Array.replicate_succ,Array.replicate_zero,List.push_toArray,List.append_toArray,List.nil_append,List.cons_append]
 gi_wp2_with fail
 rw [HS.out,HW4.out.2]
 refine wpIn_range_handsB (F := Fence.wide) (σ := Nat × Bool) rfl (by omega) (gf := 94) (lb := #[.pointer (some ⟨sn,0,none⟩),.pointer (some ⟨sb,0,none⟩),.pointer (some ⟨sx,0,none⟩)]) rfl trivial (enters_of Tryz.func94 (by kernel_rfl) rfl)
  (fun (q : Nat × Bool) W => ∃ A c A2 c2,AQ K g s sn sb sx k sd (m : Int) w4 W (if q.2 then q.1 + 1 else q.1) q.1 A c A2 c2)
  (fun _ _ _ => False)
  (fun (q : Nat × Bool) vs q' _ => q.2 = true ∧ q.1 < m ∧ vs = #[.agg (pairC K k sd (q.1 : Int)).toArray] ∧ q' = (q.1 + 1,false)) (fun q => (q.1,true)) (fun q X Y => q.2 = false ∧ PBm g (s + 1) sn sb sx k sd (m : Int) q.1 X Y) ?mI ?mK (0,false) (fun q => q = (m,false)) w4 (Below.refl _ _)
  (pairs1_hands K g (s + 1) sn sb sx k sd m hc1 hm hk hsd w4 _ ?hI)
  ?oi ?ox ⟨_,_,_,_,HQ4.out⟩ (fun q vs q' _ h => by rw [h.2.2.1];rfl)
  (fun (q : Nat × Bool) a' W => (∃ j A c A2 c2 zb,q = (j + 1,false) ∧ j < m ∧ AQ K g s sn sb sx k sd (m : Int) w4 W (j + 1) j A c A2 c2 ∧ Row W zb 56 (pairC K k sd (j : Int)) ∧ w4.heap.size ≤ zb ∧ (∀ b,(Value.slice A2 j c2).ownBlock = some b → b ≠ zb) ∧ a'.tmps.getD 5 undef = .pointer (some ⟨zb,0,none⟩)) ∧ a'.tmps.size = 13 ∧ a'.tmps.getD 2 undef = .pointer (some ⟨s,0,none⟩) ∧ a'.defers = []) ?oa ?assign ?body ?done ?stop
 case mI =>
  rintro ⟨j,b⟩ X Y ⟨A,c,A2,c2,h1⟩ ⟨h2,h3⟩;change b = false at h2;subst h2;obtain ⟨A',c',h4⟩ := AQ.move h1 hc1 hz4 hgs h3;exact ⟨A',c',A2,c2,h4⟩
 case mK =>
  rintro q X Y ⟨_,hm⟩;obtain ⟨A,c,A',c',q1,q2,q3,q4⟩ := hm.ex;refine q3.keepsFrom ?_;rintro i (rfl | hi) o ho
  ·exact q1.rg.isc ho
  ·obtain ⟨o',ho',hn'⟩ := own_isc q1.ow hi
   rw [ho] at ho';cases ho';exact hn'
 case hI =>
  rintro ⟨j,b⟩ W ⟨A,c,A2,c2,h1⟩ hb;change b = false at hb;subst hb;exact ⟨A,c,h1.pb⟩
 case oi =>
  rintro q W W' row ⟨A,c,A2,c2,h1⟩ hg hr;exact ⟨A,c,A2,c2,h1.grown hc1 (by omega) hg hr⟩
 case ox =>
  rintro c q W W' row h;exact h.elim
 case oa =>
  rintro q a' _ W W' row ⟨⟨j,A,c,A2,c2,zb,q0,q1,q2,q3,q4,q5⟩,q6⟩ hg hr;refine ⟨⟨j,A,c,A2,c2,zb,q0,q1,q2.grown hc1 (by omega) hg hr,q3.grown hg (fun e => ?_),q4,q5⟩,q6⟩;obtain ⟨o,ho,hn⟩ := (hr zb e.symm).2;have := q3.isc ho;rw [hn] at this;cases this
 case assign =>
  rintro l ⟨j,b⟩ vs k' W K' ⟨A,c,A2,c2,h1⟩ ⟨hb,hjm,rfl,rfl⟩ hK;change b = true at hb;subst hb;change AQ K g s sn sb sx k sd (m : Int) w4 W (j + 1) j A c A2 c2 at h1;change j < m at hjm;have HH1 := Lib.hid h1;obtain ⟨P0,P1,P2,P3,hP⟩ : ∃ P0 P1 P2 P3,pairC K k sd (j : Int) = [.int .i64 P0,.int .i64 P1,.int .i64 P2,.int .i64 P3] := ⟨_,_,_,_,rfl⟩;have HK := Lib.hid hK;show Code.wpIn _ _ _ _ _ { tmps := ((#[7] : Array Tmp).zip #[Value.agg (pairC K k sd (j : Int)).toArray]).foldl _ _,defers := [] } W;rw [hP];have HPP := Lib.hid hP;rw [show (#[7] : Array Tmp).zip #[Value.agg [.int .i64 P0,.int .i64 P1,.int .i64 P2,.int .i64 P3].toArray] = #[(7,Value.agg #[.int .i64 P0,.int .i64 P1,.int .i64 P2,.int .i64 P3])] by simp];clear h1 hK hP;obtain ⟨z,hz⟩ : ∃ z,W.heap.size = z := ⟨_,rfl⟩;have hr0 : Row (W.alloc (.cells #[.int .i64 0,.int .i64 0,.int .i64 0,.int .i64 0] 56)) z 56 [.int .i64 0,.int .i64 0,.int .i64 0,.int .i64 0] := Row.fresh' _ _ _ hz;have o0 := hr0.cell (i := 0) rfl;have o1 := hr0.cell (i := 1) rfl;have o2 := hr0.cell (i := 2) rfl;have o3 := hr0.cell (i := 3) rfl;have f0 := hr0.fz 0;have f1 := hr0.fz 1;have f2 := hr0.fz 2;have f3 := hr0.fz 3;have HZ := Lib.hid hz;clear hr0;gi_wp2;clear o0 o1 o2 o3 f0 f1 f2 f3;have hbe : Below W.heap.size W (W.alloc (.cells #[.int .i64 P0,.int .i64 P1,.int .i64 P2,.int .i64 P3] 56)) := (Below.refl _ _).alloc (Nat.le_refl _) _;refine HK.out _ _ ((Tch.of_bel (ex := fun _ => False) hbe).keepsFrom (fun _ h => h.elim)) ⟨⟨j,A,c,A2,c2,z,rfl,hjm,HH1.out.next hbe,by rw [HPP.out];exact Row.fresh' _ _ _ HZ.out,?_,fun b hb => ?_,?_⟩,by rfl,by rfl,by rfl⟩
  ·have := HH1.out.tc.size;have := HZ.out;omega
  ·have := (HH1.out.ow.lt b hb).2;have := HZ.out;omega
  ·first | rfl | (rw [← HZ.out];rfl)
 case body =>
  rintro l q a' W hl ⟨⟨j,A,c,A2,c2,zb,rfl,hjm,h1,hzr,hzb,hzo,e5⟩,h13,e2,hdf⟩;obtain ⟨T2,ds2⟩ := a';dsimp only at h13 e2 e5 hdf;subst hdf;obtain ⟨v2,hT,hv⟩ := arr_fun T2 13 h13;have e' : ((List.range 13).map v2).toArray = #[v2 0,v2 1,v2 2,v2 3,v2 4,v2 5,v2 6,v2 7,v2 8,v2 9,v2 10,v2 11,v2 12] := rfl;rw [show v2 2 = _ from (hv 2).symm.trans e2,show v2 5 = _ from (hv 5).symm.trans e5] at e';rw [hT,e'];obtain ⟨P0,P1,P2,P3,hP⟩ : ∃ P0 P1 P2 P3,pairC K k sd (j : Int) = [.int .i64 P0,.int .i64 P1,.int .i64 P2,.int .i64 P3] := ⟨_,_,_,_,rfl⟩;have hpn := prs_next K k sd j;rw [hP] at hzr hpn;have o0 := hzr.cell (i := 0) rfl;have o1 := hzr.cell (i := 1) rfl;have o2 := hzr.cell (i := 2) rfl;have o3 := hzr.cell (i := 3) rfl;have l0 := hzr.lt;have q0 := h1.rs.cell (i := 0) rfl;have f0 := h1.rs.fz 0;have lS := h1.rs.lt;have HH1 := Lib.hid h1;have HPN := Lib.hid hpn;obtain ⟨D,hD⟩ : ∃ D,prs K k sd j = D := ⟨_,rfl⟩;have how := h1.ow;rw [hD] at how;have hdne : ∀ b,(Value.slice A2 j c2).ownBlock = some b → s + 1 ≤ b := fun b e => (h1.ow.lt b e).1;have HX := Lib.hid (And.intro how (And.intro hdne hD));have hsz1 := h1.pb.sz;have hj2 : j ≤ 2 := by omega
  clear hT hv e' e2 e5 h13 h1 hP hpn how hdne hD hzr hzb hzo
  gi_wp2_with (refine wpListInU_append_rd rfl (.tmp 8) (.tmp 10) 47 rfl (s + 1) 56 _ (.agg #[.int .i64 0,.int .i64 0,.int .i64 0,.int .i64 0]) 4 32 Tryz.underlying47 rfl rfl rfl rfl rfl (by decide) (.slice A2 j c2) j D (by rfl) (HX.out.1.alloc _) (W.heap.size + 1) (some ⟨W.heap.size,0,none⟩) 1 1 [.int .i64 P0,.int .i64 P1,.int .i64 P2,.int .i64 P3] (by rfl) (rd_new W 56 [.int .i64 P0,.int .i64 P1,.int .i64 P2,.int .i64 P3] 1 4 rfl) (by intro u hu;simp at hu;rcases hu with rfl | rfl | rfl | rfl <;> rfl) (by unfold maxLen;omega) (by omega) (by simp;omega) ?_;intro v9 w9 hown9 hgrow9 hor9;obtain ⟨g9,c9,hv9,_,_⟩ := hown9.form (by omega);subst hv9;have hal : Below W.heap.size W (W.alloc (.cells #[.int .i64 P0,.int .i64 P1,.int .i64 P2,.int .i64 P3] 56)) := (Below.refl _ _).alloc (Nat.le_refl _) _;have hrw := (HH1.out.rs.below hal lS).grown hgrow9 (fun e => by have h9 := HX.out.2.1 s e.symm;omega);have s3 := hrw.cell (i := 0) rfl;have f9 := hrw.fz 0;have H9 := Lib.hid (And.intro hal (And.intro hown9 (And.intro hgrow9 (And.intro hor9 hrw))));clear hal hown9 hgrow9 hor9 hrw)
  obtain ⟨hal,hown9,hgrow9,hor9,hrw⟩ := H9.out;have hown9' : w9.ownsRow (s + 1) 56 4 (.slice (some ⟨g9,0,none⟩) (j + 1) c9) (j + 1) (prs K k sd (j + 1)) := by rw [HPN.out,HX.out.2.2];exact hown9
  refine ⟨?_,A,c,some ⟨g9,0,none⟩,c9,HH1.out.app HC0.out hz4 hal hown9' hgrow9 hor9⟩;refine (((Tch.of_bel (ex := fun i => i = s ∨ (Value.slice A2 j c2).ownBlock = some i) hal).grown hgrow9 (fun b e => .inr (.inr e))).set (p := ⟨s,0,none⟩) (.inr (.inl rfl)) _).keepsFrom ?_;rintro i (rfl | hi) o ho
  ·exact HH1.out.rs.isc ho
  ·obtain ⟨o',ho',hn'⟩ := own_isc HX.out.1 hi
   rw [ho] at ho';cases ho';exact hn'
 case done =>
  rintro D q W hD rfl ⟨A,c,A2,c2,h1⟩ hd;change AQ K g s sn sb sx k sd (m : Int) w4 W m m A c A2 c2 at h1;have q0 := h1.rs.cell (i := 0) rfl;have HH1 := Lib.hid h1;have HD := Lib.hid (And.intro hD hd);clear h1 hD hd
  gi_wp2_with fail
  have hD := HD.out.1;have hm : Marks (s + 1) W.heap.size [{ target := .collected D,args := #[] }] W := (Marks.nil (s + 1) (s + 1) W).cons (by omega) (by omega) (heap_lt HD.out.2) HD.out.2;refine leaves_marksU (C := W.heap.size) _ _ hm fun w' hb' hc' => ?_;have hsz : W.heap.size ≤ w'.heap.size := hb'.size;refine ⟨_,results_tmp_1 rfl _ _,HASQ.out _ _ ⟨A,c,A2,c2,rfl,HH1.out.pb.cells hc' (hb'.mono (by omega)) hsz,own_at HH1.out.ow (fun b hb => ?_),?_⟩⟩
  ·obtain ⟨o',ho',hn'⟩ := own_isc HH1.out.ow hb
   rw [ho'];exact hc' b o' ho' hn'
  ·have h4 := HW4.out.1
   have t := HH1.out.tc;have hs := HS.out;refine ⟨hb'.os.trans (t.os.trans h4.os),hb'.tape.trans (t.tape.trans h4.tape),hb'.output.trans (t.output.trans h4.output),Nat.le_trans h4.size (Nat.le_trans t.size hb'.size),fun k hk hx => ?_⟩;exact (hb'.block k (by omega)).trans ((t.block k (by omega) (fun h => by rcases h with h | h;exact hx h;omega)).trans (h4.block k (by omega)))
 case stop =>
  rintro D c q W hD h hd;exact h.elim
end Go.Proofs.YtifejdpffkeniaaGreatDoor
