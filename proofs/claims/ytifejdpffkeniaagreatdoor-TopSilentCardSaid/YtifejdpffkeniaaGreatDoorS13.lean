import Derived.Test.YtifejdpffkeniaaGreatDoorS12
import Derived.Test.YtifejdpffkeniaaGreatDoorS11
set_option linter.unusedVariables false
set_option maxRecDepth 100000
set_option maxHeartbeats 40000000
namespace Go.Proofs.YtifejdpffkeniaaGreatDoor
open Go.RowKit
attribute [local go_sem] Oper.semAt_some
theorem ncaught_idle (p : Addr) (w : World) :
  CallsD Tryz.prog 35 #[.pointer (some p)] .returning w fun e u' w' => e = .returned (.tuple #[]) ∧ u' = .returning ∧ w' = w := by
 refine callsD_of_wpS Tryz.func35 rfl fun c₀ cs hu => ?_;apply wpS_seq;apply wpS_region;simp [wpOpsS,go_sem,recoverD,hu,Tryz.ntmps35,Exit.thenS];apply wpS_seq;apply wpS_region;simp [wpOpsS,go_sem,Act.eval,Exit.thenS];refine wpS_cond (t := false) (by simp [Act.eval,Array.replicate]) ?_;simp only [Bool.false_eq_true,if_false];refine wpS_of_wp (wp_skip ?_)
 cases c₀
 simp_all [bodyPostS,results,Tryz.results35]
theorem collect_any (K : Sh.Cst) (g B0 sn sb sx : Nat) (k sd : Int) (m : Nat) (w : World) (hm : m ≤ 2) (hk : 0 ≤ k ∧ k < 64) (hsd : 0 ≤ sd ∧ sd ≤ 1099511627776) (h : PB g B0 sn sb sx k sd (m : Int) w 0 none 0) (hc : PBc g w.heap.size sn sb sx) :
  Calls Tryz.prog 38 #[.func (.func 94) #[] #[.pointer (some ⟨sn,0,none⟩),.pointer (some ⟨sb,0,none⟩),.pointer (some ⟨sx,0,none⟩)]] w (ASQ K g sn sb sx k sd m w) := by
 have HA := Lib.hid (appseq_any K g B0 sn sb sx k sd m w hm hk hsd h hc);clear h hc;generalize hQQ : ASQ K g sn sb sx k sd m w = QQ at HA ⊢;have HQ := Lib.hid hQQ;clear hQQ;go_enter Tryz.func38,Tryz.ntmps38
 go_wp2_with fail
 have H2 := HA.out;rw [← HQ.out] at H2;refine H2.mono ?_;rintro r w' ⟨A,c,A2,c2,rfl,q1,q2,q3⟩;have H3 := Lib.hid (And.intro q1 (And.intro q2 q3));clear q1 q2 q3 H2
 go_wp2_with fail
 rw [← HQ.out];exact ⟨A,c,A2,c2,rfl,H3.out⟩
def Fr (s n : Nat) (A : Option Addr) : Prop := 0 < n → ∃ b o,A = some ⟨b,o,none⟩ ∧ s ≤ b
theorem fr_own {W : World} {B s : Nat} {e : TypeId} {z n c : Nat} {A : Option Addr} {xs : List Value} (h : W.ownsRow B e z (.slice A n c) n xs) (hB : s ≤ B) : Fr s n A := fun hn => by
 rcases h.2 with ⟨_,e2⟩ | ⟨g,cap,cur,e1,h2,_⟩
 ·omega
 ·injection e1 with e1 _ _
  exact ⟨g,0,e1,Nat.le_trans hB h2⟩
def MkR (K : Sh.Cst) (k sd : Int) (w : World) (r : Ending) (w' : World) : Prop :=
 (∃ A c A2 c2,r = .returned (.tuple #[.agg #[.int .i64 k,.int .i64 sd,.int .i64 2,.slice A 2 c],.slice A2 2 c2,.int .i64 0]) ∧ Rd w' w'.heap.size 1 A 2 (ivs [0,1]) ∧ Fr w.heap.size 2 A ∧ 2 ≤ c ∧ c ≤ maxLen ∧ Rd w' w'.heap.size 4 A2 2 (prs K k sd 2) ∧ Fr w.heap.size 2 A2) ∧ Below w.heap.size w w'
theorem make_any (K : Sh.Cst) (k sd : Int) (w : World) (hk : 0 ≤ k ∧ k < 64) (hsd : 0 ≤ sd ∧ sd ≤ 1099511627776) (hL : Laid w) :
  Calls Tryz.prog 9 #[.agg #[.int .i64 k,.int .i64 sd,.int .i64 0,.slice none 0 0],.int .i64 2] w (MkR K k sd w) := by
 obtain ⟨s,hs⟩ : ∃ s,w.heap.size = s := ⟨_,rfl⟩;have hok : (⟨k,sd,0,[]⟩ : Bk).ok := ⟨hk.1,hk.2,hsd.1,hsd.2,Int.le_refl 0,(by show (0 : Int) ≤ 4096;decide),List.Pairwise.nil,(fun x hx => by cases hx),(fun x hx => by cases hx)⟩
 have HOP : Hid (∀ W,Calls Tryz.prog 36 #[.agg #[.int .i64 k,.int .i64 sd,.int .i64 0,.slice none 0 0]] W fun r w' => ∃ g,r = .returned (.pointer (some ⟨g,0,none⟩)) ∧ Row w' g 100 [.int .i64 k,.int .i64 sd,.int .i64 0,.slice none 0 0] ∧ W.heap.size ≤ g ∧ Below W.heap.size W w') := fun W => by
  refine (open_any ⟨k,sd,0,[]⟩ none 0 0 W hok (rd_nil _ _ _ _) (Nat.le_refl _) (Nat.zero_le _) (by decide)).mono ?_;rintro r w' ⟨⟨g,A',c',e,hr,ho,hg,_,h0⟩,hb⟩;obtain ⟨rfl,rfl⟩ := h0 rfl rfl;exact ⟨g,e,hr,hg,hb⟩
 have HMK : Hid (∀ r w',(∃ A c A2 c2,r = .returned (.tuple #[.agg #[.int .i64 k,.int .i64 sd,.int .i64 2,.slice A 2 c],.slice A2 2 c2,.int .i64 0]) ∧ Rd w' w'.heap.size 1 A 2 (ivs [0,1]) ∧ Fr s 2 A ∧ 2 ≤ c ∧ c ≤ maxLen ∧ Rd w' w'.heap.size 4 A2 2 (prs K k sd 2) ∧ Fr s 2 A2) → Below s w w' → MkR K k sd w r w') := fun r w' h1 h2 => ⟨by rw [hs];exact h1,by rw [hs];exact h2⟩;obtain ⟨w3,hw3⟩ : ∃ w3,((w.alloc (.cells #[.int .i64 k,.int .i64 sd,.int .i64 0,.slice none 0 0] 50)).alloc (.cells #[.int .i64 0,.int .i64 0,.int .i64 0,.slice none 0 0] 50)).alloc (.cells #[.int .i64 0] 33) = w3 := ⟨_,rfl⟩;have hb3 : Below s w w3 := by rw [← hw3,← hs];exact (((Below.refl _ w).alloc (Nat.le_refl _) _).alloc (by simp) _).alloc (by simp;omega) _
 have hr1 : Row w3 (s + 1) 50 [.int .i64 0,.int .i64 0,.int .i64 0,.slice none 0 0] := by rw [← hw3];exact (Row.fresh' _ _ _ (by simp [hs])).alloc _
 have hr2 : Row w3 (s + 1 + 1) 33 [.int .i64 0] := by rw [← hw3];exact Row.fresh' _ _ _ (by simp [hs])
 have hsz3 : w3.heap.size = s + 1 + 1 + 1 := by rw [← hw3];simp [hs]
 have HW3 := Lib.hid (And.intro hb3 (And.intro hr1 (And.intro hr2 hsz3)));have HL3 : Hid (Laid w3) := hL.below hb3 (by have := hL.size;omega);have HE := Lib.hid hw3;have HS := Lib.hid hs;have HLS : Hid (2 ≤ s) := by show 2 ≤ s;have := hL.size;omega
 generalize hQQ : MkR K k sd w = QQ at HMK ⊢;clear hQQ hok hb3 hr1 hr2 hsz3 hw3 hs hL
 go_enter_defers Tryz.func9,Tryz.ntmps9
 go_wp2_with fail
 rw [HS.out,HE.out];refine (HOP.out w3).mono ?_;rintro r w4 ⟨g,rfl,hr4,hg4,hb4⟩;have HW4 := Lib.hid (And.intro (HW3.out.1.trans (hb4.mono (by have := HW3.out.2.2.2;omega))) (And.intro (HW3.out.2.1.below hb4 HW3.out.2.1.lt) (And.intro (HW3.out.2.2.1.below hb4 HW3.out.2.2.1.lt) hr4)));have HL4 : Hid (Laid w4) := HL3.out.below hb4 HL3.out.size;have HG : Hid (s + 1 + 1 < g ∧ g < w4.heap.size) := ⟨by have := HW3.out.2.2.2;omega,hr4.lt⟩;have q2 := hr4.cell (i := 2) rfl;clear hr4 hb4 hg4 HW3 HL3
 go_wp2_with (refine (nneed_any _ _).mono ?_;rintro r w5 ⟨rfl,rfl⟩)
 clear q2;refine (pairs_any g 2 w4).mono ?_;rintro r w5 ⟨rfl,hw5⟩;obtain ⟨t,ht⟩ : ∃ t,w4.heap.size = t := ⟨_,rfl⟩;rw [ht];have hb5 : Below w4.heap.size w4 w5 := by rw [← hw5];exact (((Below.refl _ _).alloc (Nat.le_refl _) _).alloc (by simp) _).alloc (by simp;omega) _
 have hz5 : w5.heap.size = t + 1 + 1 + 1 := by rw [← hw5];simp [ht]
 have hrb : Row w5 t 96 [.pointer (some ⟨g,0,none⟩)] := by rw [← hw5];exact ((Row.fresh' _ _ _ ht).alloc _).alloc _
 have hrn : Row w5 (t + 1) 3 [.int .i64 2] := by rw [← hw5];exact (Row.fresh' _ _ _ (by simp [ht])).alloc _
 have hrx : Row w5 (t + 1 + 1) 168 [.func (.func 93) #[.pointer (some ⟨g,0,none⟩)] #[]] := by rw [← hw5];exact Row.fresh' _ _ _ (by simp [ht])
 have hg5 := HW4.out.2.2.2.below hb5 HW4.out.2.2.2.lt;have hpb : PB g (t + 1 + 1 + 1) (t + 1) t (t + 1 + 1) k sd ((2 : Nat) : Int) w5 0 none 0 := ⟨hrn,hrb,hrx,hg5,World.ownsRow_nil _ _ _ _,HL4.out.below hb5 HL4.out.size,Nat.le_of_eq hz5.symm⟩;have hgt := HG.out;have hls := HLS.out;have hpc : PBc g w5.heap.size (t + 1) t (t + 1 + 1) := ⟨by omega,by omega,by omega,by omega,by omega,by omega,by omega,by omega⟩;have HCO := Lib.hid (collect_any K g _ _ _ _ k sd 2 w5 (by decide) hk hsd hpb hpc);have HW5 := Lib.hid (And.intro (HW4.out.1.trans (hb5.mono (by omega))) (And.intro (HW4.out.2.1.below hb5 HW4.out.2.1.lt) (And.intro (HW4.out.2.2.1.below hb5 HW4.out.2.2.1.lt) (And.intro hz5 ht))));clear hw5 hb5 hz5 hrb hrn hrx hg5 hpb hpc hgt hls HW4 ht
 go_wp2_with fail
 refine HCO.out.mono ?_;rintro r w6 ⟨A,c,A2,c2,rfl,hpb,how,htc⟩;have hgt := HG.out;have hz5 := HW5.out.2.2.2;have HW6 := Lib.hid (And.intro (HW5.out.1.trans (htc.below (by omega) (by intro i hi e;omega))) (And.intro (htc.row HW5.out.2.1 (by omega)) (htc.row HW5.out.2.2.1 (by omega))));have HPB := Lib.hid (And.intro hpb how);have g0 := hpb.rg.cell (i := 0) rfl;have g1 := hpb.rg.cell (i := 1) rfl;have g2 : w6.cell? ⟨g,2,none⟩ = some (.int .i64 2) := hpb.rg.cell (i := 2) rfl;have g3 := hpb.rg.cell (i := 3) rfl;have x0 := HW6.out.2.1.cell (i := 0) rfl;have x1 := HW6.out.2.1.cell (i := 1) rfl;have x2 := HW6.out.2.1.cell (i := 2) rfl;have x3 := HW6.out.2.1.cell (i := 3) rfl;have y0 := HW6.out.2.1.fz 0;have y1 := HW6.out.2.1.fz 1;have y2 := HW6.out.2.1.fz 2;have y3 := HW6.out.2.1.fz 3;have e0 := HW6.out.2.2.cell (i := 0) rfl;have e1 := HW6.out.2.2.fz 0;clear hpb how htc hgt hz5 HCO
 go_wp2_with fail
 refine leaves_cons (f := 35) (args := #[.pointer (some ⟨s + 1 + 1,0,none⟩)]) (by simp) (by simp [go_sem]) ?_;refine (ncaught_idle ⟨s + 1 + 1,0,none⟩ _).mono ?_;rintro e u' w9 ⟨rfl,rfl,rfl⟩;have hr9 := (((((HW6.out.2.1.put 0 (.int .i64 k)).put 1 (.int .i64 sd)).put 2 (.int .i64 2)).put 3 (.slice A 2 c)).away (p := ⟨s + 1 + 1,0,none⟩) (by show s + 1 ≠ s + 1 + 1;omega) (.int .i64 0));have he9 := ((((HW6.out.2.2.away (p := ⟨s + 1,0,none⟩) (by show s + 1 + 1 ≠ s + 1;omega) (.int .i64 k)).away (p := ⟨s + 1,1,none⟩) (by show s + 1 + 1 ≠ s + 1;omega) (.int .i64 sd)).away (p := ⟨s + 1,2,none⟩) (by show s + 1 + 1 ≠ s + 1;omega) (.int .i64 2)).away (p := ⟨s + 1,3,none⟩) (by show s + 1 + 1 ≠ s + 1;omega) (.slice A 2 c)).put 0 (.int .i64 0);have hgt := HG.out;have hz5 := HW5.out.2.2.2
 have hown : ∀ (W : World) (e : TypeId) (z : Nat) (v : Value) (n : Nat) (xs : List Value),W.ownsRow (w5.heap.size + 1) e z v n xs → (((((W.setCell ⟨s + 1,0,none⟩ (.int .i64 k)).setCell ⟨s + 1,1,none⟩ (.int .i64 sd)).setCell ⟨s + 1,2,none⟩ (.int .i64 2)).setCell ⟨s + 1,3,none⟩ (.slice A 2 c)).setCell ⟨s + 1 + 1,0,none⟩ (.int .i64 0)).ownsRow (w5.heap.size + 1) e z v n xs := fun W e z v n xs ho =>
  own_setC (own_setC (own_setC (own_setC (own_setC ho (p := ⟨s + 1,0,none⟩) (by show s + 1 < w5.heap.size + 1;omega) _) (p := ⟨s + 1,1,none⟩) (by show s + 1 < w5.heap.size + 1;omega) _) (p := ⟨s + 1,2,none⟩) (by show s + 1 < w5.heap.size + 1;omega) _) (p := ⟨s + 1,3,none⟩) (by show s + 1 < w5.heap.size + 1;omega) _) (p := ⟨s + 1 + 1,0,none⟩) (by show s + 1 + 1 < w5.heap.size + 1;omega) _
 have ho1 := hown _ _ _ _ _ _ HPB.out.1.ow;have ho2 := hown _ _ _ _ _ _ HPB.out.2
 have hcap : 2 ≤ c ∧ c ≤ maxLen := by
  rcases HPB.out.1.ow.2 with ⟨e1,e2⟩ | ⟨q,cap,cur,e1,_,_,h3,h4,_⟩
  ·exact absurd e2 (by decide)
  ·injection e1 with _ _ e1;subst e1;exact ⟨h3,h4⟩
 refine ⟨_,results_rtc (p := 4) (q := 5) (r := 6) rfl _ _ (s + 1) (s + 1 + 1) (.int .i64 0) 50 _ (0,0) _ (by rfl) hr9 Tryz.underlying50 (by rfl) (by kernel_rfl) (by rfl) (he9.cell (i := 0) rfl) (isAgg_errno _),HMK.out _ _ ⟨A,c,A2,c2,rfl,Rd.of_own ho1,fr_own ho1 (by omega),hcap.1,hcap.2,Rd.of_own ho2,fr_own ho2 (by omega)⟩ ?_⟩;exact ((((HW6.out.1.setCell (p := ⟨s + 1,0,none⟩) (by show s ≤ s + 1;omega) _).setCell (p := ⟨s + 1,1,none⟩) (by show s ≤ s + 1;omega) _).setCell (p := ⟨s + 1,2,none⟩) (by show s ≤ s + 1;omega) _).setCell (p := ⟨s + 1,3,none⟩) (by show s ≤ s + 1;omega) _).setCell (p := ⟨s + 1 + 1,0,none⟩) (by show s ≤ s + 1 + 1;omega) _
theorem wp_append_run {P : Program} {o : Oper} {a : Act} {w : World} {K : Act → World → Prop} {Q : Exit → Act → World → Prop} (s x : Operand) (t : TypeId) (ho : o.op = .call { callee := .builtin .append,args := #[s,x],argTypes := #[t,t] }) (vs vx v' : Value) (hs : a.eval s = vs) (hx : a.eval x = vx) (w' : World)
  (hr : (Builtin.append_ #[t,t] o.type #[vs,vx]).run P w = .ok v' w') (h : K (a.put o.dst v') w') : o.wp P a w K Q := by
 unfold Oper.wp execOp;simp only [ho,resolve,invoke,builtin,Sem.run_bind,Sem.run_pure,Result.andThen_ok,List.map_toArray,List.map_cons,List.map_nil,hs,hx,hr];exact h
theorem zeroIntN (w : World) : (zeroValue 3).run Tryz.prog w = .ok (.int .i64 0) w := by kernel_rfl
theorem grown_setN {a b : World} {g : Nat} (h : a.grownBy b (some g)) (i : Nat) (v : Value) : a.grownBy (b.setCell ⟨g,i,none⟩ v) (some g) :=
 ⟨h.os,h.tape,h.output,by rw [World.size_setCell];exact h.size,fun k hk hne => (Below.heap_setCell b ⟨g,i,none⟩ v k (fun e => hne (by rw [e]))).trans (h.block k hk hne)⟩
theorem infoInt : (Tryz.prog.info? 3).map (fun i => (i.zero,i.size,i.bytes)) = some (some (.int .i64 0),1,8) := by kernel_rfl
theorem append_first {g c m : Nat} {A : Addr} {cur news : List Value} (W : World) (hW : Row W g 3 cur) (hl : news.length = m) (hcell : ∀ j u,news[j]? = some u → W.cell? (A.add j) = some u) (h1 : ∀ u ∈ news,u.oneCell' = true) (hmc : m ≤ c) (hfit : m ≤ cur.length) :
  ∃ W',(Builtin.append_ #[23,23] 23 #[.slice (some ⟨g,0,none⟩) 0 c,.slice (some A) m (c - 1)]).run Tryz.prog W = .ok (.slice (some ⟨g,0,none⟩) m c) W' ∧ Row W' g 3 (news ++ cur.drop m) ∧ W.grownBy W' (some g) := by
 obtain ⟨i0,hi0,hz0,hz1,hz2⟩ := info_parts infoInt;have := run_append_room W 23 23 3 i0 Tryz.underlying23 hi0 g 0 c _ hW A m (c - 1) news (by rw [hz1,hl,Nat.mul_one]) hcell h1 (by omega) (by rw [Nat.zero_mul,Nat.zero_add,hl];simpa using hfit);rw [Nat.zero_add] at this;refine ⟨_,this,?_,grown_row _⟩;have h2 : Row (W.setRow g (cur.toArray.toList.take (0 * i0.size) ++ news ++ cur.toArray.toList.drop (0 * i0.size + news.length)).toArray) g 3 (cur.toArray.toList.take (0 * i0.size) ++ news ++ cur.toArray.toList.drop (0 * i0.size + news.length)) := setRow_heap W g _ _ _ _ hW;rw [show cur.toArray.toList.take (0 * i0.size) ++ news ++ cur.toArray.toList.drop (0 * i0.size + news.length) = news ++ cur.drop m by simp [hl]] at h2
 have e : W.setRow g (cur.toArray.toList.take (0 * i0.size) ++ news ++ cur.toArray.toList.drop (0 * i0.size + news.length)).toArray = W.setRow g (news ++ cur.drop m).toArray := by
  rw [show cur.toArray.toList.take (0 * i0.size) ++ news ++ cur.toArray.toList.drop (0 * i0.size + news.length) = news ++ cur.drop m by simp [hl]]
 rw [e];exact h2
theorem del1_any (g c : Nat) (x : Int) (rest : List Value) (w : World) (hr : Row w g 3 (.int .i64 x :: rest)) (hc : rest.length + 1 = c) (hm : c ≤ 9223372036854775807) :
  Calls Tryz.prog 44 #[.slice (some ⟨g,0,none⟩) 1 c,.int .i64 0,.int .i64 1] w fun r w' => r = .returned (.slice (some ⟨g,0,none⟩) 0 c) ∧ Row w' g 3 (.int .i64 0 :: rest) ∧ w.grownBy w' (some g) := by
 have hc1 : 1 ≤ c := by omega
 have hcn : 1 ≤ c := by omega
 obtain ⟨A,hA⟩ : ∃ A : Addr,(if c = 1 then some (⟨g,0,none⟩ : Addr) else some ⟨g,1,none⟩) = some A := by split <;> exact ⟨_,rfl⟩
 have HAP : Hid (∃ W',(Builtin.append_ #[23,23] 23 #[.slice (some ⟨g,0,none⟩) 0 c,.slice (some A) 0 (c - 1)]).run Tryz.prog w.drew = .ok (.slice (some ⟨g,0,none⟩) 0 c) W' ∧ Row W' g 3 (.int .i64 x :: rest) ∧ w.drew.grownBy W' (some g)) :=
  append_first (news := []) w.drew hr rfl (fun j u h => by cases h) (by intro u hu;simp at hu;try (subst hu;rfl)) (by omega) (by simp)
 have hg := hr.lt;have HR := Lib.hid hr;have hcr := hc;clear hr;go_enter Tryz.func44,Tryz.ntmps44;go_wp2;rename_i Kz hKz;refine wp_region_ord (fun _ => True) [(0,true),(1,true),(2,true),(3,true),(4,true),(5,true),(6,false),(7,true)] (by kernel_rfl) (by kernel_rfl) rfl (by kernel_rfl) (fun x _ _ _ _ h => by cases x <;> exact h) trivial ?_
 iterate 6 (refine wpOrd_take rfl _ (by rfl) (by intro w' hS;have q := hA;go_simp;try with_reducible rfl) fun KK hKK => ?_;go_simp;refine hKK _ ?_;clear hKK KK)
 refine wpOrd_force rfl (by rfl) fun KK hKK => ?_;obtain ⟨W',hrun,hr2,hg2⟩ := HAP.out;refine wp_append_run (.tmp 22) (.tmp 25) 23 rfl (.slice (some ⟨g,0,none⟩) 0 c) (.slice (some A) 0 (c - 1)) (.slice (some ⟨g,0,none⟩) 0 c) (by rfl) (by rfl) W' hrun ?_;refine hKK _ _ trivial ?_;clear hKK KK;refine wpOrd_take rfl _ (by rfl) (by intro w' hS;go_simp;try with_reducible rfl) fun KK hKK => ?_;go_simp;refine hKK _ ?_;clear hKK KK;refine wpOrd_nil ?_;show Kz _ _;refine hKz _ _ ?_;go_simp;clear hKz Kz hrun HAP;have hgw : w.grownBy W' (some g) := ⟨hg2.os,hg2.tape,hg2.output,hg2.size,hg2.block⟩;have HH := Lib.hid (And.intro hr2 hgw);have q0 := hr2.cell (i := 0) rfl;have f0 := hr2.fz 0
 have qa : ∀ j,j < 1 → (W'.cell? ⟨g,0 + j,none⟩).isSome = true := fun j hj => by
  have : j = 0 := by omega
  subst this;rw [Nat.add_zero,q0];rfl
 have qb : ∀ j,j < 1 → W'.frozen? ⟨g,0 + j,none⟩ = false := fun j hj => by
  have : j = 0 := by omega
  subst this;exact f0
 have hcl : ∀ ty,(Builtin.clear_ #[23] ty #[.slice (some ⟨g,0,none⟩) 1 (c - 0)]).run Tryz.prog W' = .ok (.tuple #[]) (W'.setCells g 0 (List.replicate 1 (.int .i64 0))) := fun ty =>
  Lib.run_clear_slice W' _ _ ty _ Tryz.underlying23 zeroIntN rfl rfl g 0 1 (c - 0) (by omega) qa qb
 rw [show W'.setCells g 0 (List.replicate 1 (.int .i64 0)) = W'.setCell ⟨g,0,none⟩ (.int .i64 0) from rfl] at hcl
 try rw [Nat.sub_zero] at hcl
 clear hr2 hg2 hgw qa qb;go_wp2;go_ret;exact ⟨rfl,HH.out.1.put 0 _,grown_setN HH.out.2 _ _⟩
theorem del2_any (g c : Nat) (x y : Int) (rest : List Value) (w : World) (hr : Row w g 3 (.int .i64 x :: .int .i64 y :: rest)) (hc : rest.length + 2 = c) (hm : c ≤ 9223372036854775807) :
  Calls Tryz.prog 44 #[.slice (some ⟨g,0,none⟩) 2 c,.int .i64 0,.int .i64 1] w fun r w' => r = .returned (.slice (some ⟨g,0,none⟩) 1 c) ∧ Row w' g 3 (.int .i64 y :: .int .i64 0 :: rest) ∧ w.grownBy w' (some g) := by
 have hc1 : 1 ≤ c := by omega
 have hcn : 2 ≤ c := by omega
 obtain ⟨A,hA⟩ : ∃ A : Addr,(if c = 1 then some (⟨g,0,none⟩ : Addr) else some ⟨g,1,none⟩) = some A := by split <;> exact ⟨_,rfl⟩
 have hA1 : A = ⟨g,1,none⟩ := by rw [if_neg (by omega)] at hA;exact (Option.some.inj hA).symm
 have hcell : ∀ j u,([.int .i64 y] : List Value)[j]? = some u → w.drew.cell? (A.add j) = some u := fun j u hu => by
  match j,hu with
  | 0,hu =>
   have : Value.int .i64 y = u := by simpa using hu
   rw [hA1,Addr.add_lit,← this];exact hr.cell (i := 1) rfl
  | j + 1,hu => simp at hu
 have HAP : Hid (∃ W',(Builtin.append_ #[23,23] 23 #[.slice (some ⟨g,0,none⟩) 0 c,.slice (some A) 1 (c - 1)]).run Tryz.prog w.drew = .ok (.slice (some ⟨g,0,none⟩) 1 c) W' ∧ Row W' g 3 (.int .i64 y :: .int .i64 y :: rest) ∧ w.drew.grownBy W' (some g)) :=
  append_first (news := [.int .i64 y]) w.drew hr rfl hcell (by intro u hu;simp at hu;try (subst hu;rfl)) (by omega) (by simp)
 subst hA1;have hg := hr.lt;have HR := Lib.hid hr;have hcr := hc;clear hr;go_enter Tryz.func44,Tryz.ntmps44;go_wp2;rename_i Kz hKz;refine wp_region_ord (fun _ => True) [(0,true),(1,true),(2,true),(3,true),(4,true),(5,true),(6,false),(7,true)] (by kernel_rfl) (by kernel_rfl) rfl (by kernel_rfl) (fun x _ _ _ _ h => by cases x <;> exact h) trivial ?_
 iterate 6 (refine wpOrd_take rfl _ (by rfl) (by intro w' hS;have q := hA;go_simp;try with_reducible rfl) fun KK hKK => ?_;go_simp;refine hKK _ ?_;clear hKK KK)
 refine wpOrd_force rfl (by rfl) fun KK hKK => ?_;obtain ⟨W',hrun,hr2,hg2⟩ := HAP.out;refine wp_append_run (.tmp 22) (.tmp 25) 23 rfl (.slice (some ⟨g,0,none⟩) 0 c) (.slice (some ⟨g,1,none⟩) 1 (c - 1)) (.slice (some ⟨g,0,none⟩) 1 c) (by rfl) (by rfl) W' hrun ?_;refine hKK _ _ trivial ?_;clear hKK KK;refine wpOrd_take rfl _ (by rfl) (by intro w' hS;go_simp;try with_reducible rfl) fun KK hKK => ?_;go_simp;refine hKK _ ?_;clear hKK KK;refine wpOrd_nil ?_;show Kz _ _;refine hKz _ _ ?_;go_simp;clear hKz Kz hrun HAP;have hgw : w.grownBy W' (some g) := ⟨hg2.os,hg2.tape,hg2.output,hg2.size,hg2.block⟩;have HH := Lib.hid (And.intro hr2 hgw);have q0 := hr2.cell (i := 1) rfl;have f0 := hr2.fz 1
 have qa : ∀ j,j < 1 → (W'.cell? ⟨g,1 + j,none⟩).isSome = true := fun j hj => by
  have : j = 0 := by omega
  subst this;rw [Nat.add_zero,q0];rfl
 have qb : ∀ j,j < 1 → W'.frozen? ⟨g,1 + j,none⟩ = false := fun j hj => by
  have : j = 0 := by omega
  subst this;exact f0
 have hcl : ∀ ty,(Builtin.clear_ #[23] ty #[.slice (some ⟨g,1,none⟩) 1 (c - 1)]).run Tryz.prog W' = .ok (.tuple #[]) (W'.setCells g 1 (List.replicate 1 (.int .i64 0))) := fun ty =>
  Lib.run_clear_slice W' _ _ ty _ Tryz.underlying23 zeroIntN rfl rfl g 1 1 (c - 1) (by omega) qa qb
 rw [show W'.setCells g 1 (List.replicate 1 (.int .i64 0)) = W'.setCell ⟨g,1,none⟩ (.int .i64 0) from rfl] at hcl
 try rw [Nat.sub_zero] at hcl
 clear hr2 hg2 hgw qa qb;go_wp2;go_ret;exact ⟨rfl,HH.out.1.put 1 _,grown_setN HH.out.2 _ _⟩
theorem results_tmp_2 {P : Program} {fn : Func} {t u : Tmp} (h : fn.results = #[.tmp t,.tmp u]) (tmps : Array Value) (w : World) : (results fn tmps).run P w = .ok (.tuple #[tmps.getD t undef,tmps.getD u undef]) w := by simp [results,h]
theorem results_tmp_3 {P : Program} {fn : Func} {t u v : Tmp} (h : fn.results = #[.tmp t,.tmp u,.tmp v]) (tmps : Array Value) (w : World) : (results fn tmps).run P w = .ok (.tuple #[tmps.getD t undef,tmps.getD u undef,tmps.getD v undef]) w := by simp [results,h]
theorem nanA_any (x : Int) (w : World) : Calls Tryz.prog 140 #[.int .i64 x] w fun r w' => r = .returned (.bool false) ∧ w = w' := by
 have h : (x != x) = false := by simp
 go_enter Tryz.func140,Tryz.ntmps140;go_wp2;go_ret;exact ⟨rfl,rfl⟩
theorem nanB_any (x : Int) (w : World) : Calls Tryz.prog 100 #[.int .i64 x] w fun r w' => r = .returned (.bool false) ∧ w = w' := by
 have h : (x != x) = false := by simp
 go_enter Tryz.func100,Tryz.ntmps100;go_wp2;go_ret;exact ⟨rfl,rfl⟩
theorem less_any (x y : Int) (w : World) : Calls Tryz.prog 99 #[.int .i64 x,.int .i64 y] w fun r w' => r = .returned (.bool (decide (x < y))) ∧ w = w' := by
 go_enter Tryz.func99,Tryz.ntmps99
 go_wp2_with (go_at_call 140;refine (nanA_any _ _).mono ?_;rintro e w1 ⟨rfl,rfl⟩)
 go_ret;exact ⟨rfl,rfl⟩
theorem bsearchp_any (A : Option Addr) (n c B : Nat) (L : List Int) (x : Int) (w : World) (h : Rd w B 1 A n (ivs L)) (hn : n ≤ 4096) (hs : L.Pairwise (· < ·)) :
  Calls Tryz.prog 43 #[.slice A n c,.int .i64 x] w fun r w' => (∃ i,r = .returned (.tuple #[.int .i64 i,.bool (decide (x ∈ L))])) ∧ w = w' := by
 have hll : L.length = n := by have := h.1;simpa using this
 have HA : Hid (∀ k,k < n → ∃ b o,A = some ⟨b,o,none⟩ ∧ w.cell? ⟨b,o + k,none⟩ = some (.int .i64 (L.getD k 0))) := fun k hk => by
  obtain ⟨_,b,o,e1,_,hc⟩ := i64at h hk;exact ⟨b,o,e1,hc k hk w (Below.refl _ _)⟩
 have HO : Hid (∀ i j,i < j → j < n → L.getD i 0 < L.getD j 0) := fun i j hij hj => by
  rw [List.getD_eq_getElem?_getD,List.getElem?_eq_getElem (by omega),List.getD_eq_getElem?_getD,List.getElem?_eq_getElem (by omega)];exact List.pairwise_iff_getElem.1 hs i j (by omega) (by omega) hij
 have HM : Hid (∀ k,k < n → L.getD k 0 ∈ L) := fun k hk => by
  rw [List.getD_eq_getElem?_getD,List.getElem?_eq_getElem (by omega)];exact List.getElem_mem _
 have HI : Hid (x ∈ L → ∃ k,k < n ∧ L.getD k 0 = x) := fun hx => by
  obtain ⟨k,hk,e⟩ := List.mem_iff_getElem.1 hx;exact ⟨k,by omega,by rw [List.getD_eq_getElem?_getD,List.getElem?_eq_getElem hk];exact e⟩
 clear h hs hll;go_enter Tryz.func43,Tryz.ntmps43;go_wp2
 go_loopw [7,8] (fun i j wr => w = wr ∧ ∃ a b : Nat,a ≤ b ∧ b ≤ n ∧ i = .int .i64 a ∧ j = .int .i64 b ∧ (∀ k,k < a → L.getD k 0 < x) ∧ ∀ k,b ≤ k → k < n → x ≤ L.getD k 0) (fun i j _ => (intOf j).toNat - (intOf i).toNat)
 case atStart => exact ⟨rfl,0,n,Nat.zero_le _,Nat.le_refl _,rfl,rfl,fun k hk => absurd hk (by omega),fun k h1 h2 => absurd h1 (by omega)⟩
 case round =>
  obtain ⟨rfl,a,b,hab,hbn,rfl,rfl,hlo,hhi⟩ := hrel;have HLO := Lib.hid hlo;have HHI := Lib.hid hhi;clear hlo hhi
  by_cases hlt : a < b
  ·have k1 : (a : Int) < (b : Int) := by omega
   obtain ⟨m,hm⟩ : ∃ m,(a + b) / 2 = m := ⟨_,rfl⟩;have hm1 : a ≤ m := by omega
   have hm2 : m < b := by omega
   have k0 : (0 : Int) ≤ (m : Int) := by omega
   have k2 : (m : Int) < (n : Int) := by omega
   obtain ⟨bb,o,hA1,hc⟩ := HA.out m (by omega);subst hA1;have hX : ∃ X,L.getD m 0 = X := ⟨_,rfl⟩;obtain ⟨X,hX⟩ := hX;rw [hX] at hc;have HX := Lib.hid hX;clear hX
   by_cases hl : X < x
   ·have HLE : Hid (∀ W,Calls Tryz.prog 99 #[.int .i64 X,.int .i64 x] W fun r w' => r = .returned (.bool true) ∧ W = w') := fun W => by have := less_any X x W;rwa [decide_eq_true hl] at this
    have HL := Lib.hid hl;clear hl
    go_wp2_with (go_at_call 99;refine (HLE.out _).mono ?_;rintro e w1 ⟨rfl,rfl⟩)
    go_roundw
    case rel =>
     refine ⟨trivial,m + 1,b,by omega,hbn,congrArg (Value.int .i64) (by omega),rfl,fun k hk => ?_,HHI.out⟩
     rcases Nat.lt_or_ge k m with h1 | h1
     ·have := HO.out k m h1 (by omega);rw [HX.out] at this;have := HL.out;omega
     ·rw [show k = m by omega,HX.out];exact HL.out
    case measure => simp [intOf];omega
   ·have HLE : Hid (∀ W,Calls Tryz.prog 99 #[.int .i64 X,.int .i64 x] W fun r w' => r = .returned (.bool false) ∧ W = w') := fun W => by have := less_any X x W;rwa [decide_eq_false hl] at this
    have HL : Hid (x ≤ X) := by show x ≤ X;omega
    clear hl
    go_wp2_with (go_at_call 99;refine (HLE.out _).mono ?_;rintro e w1 ⟨rfl,rfl⟩)
    go_roundw
    case rel =>
     refine ⟨trivial,a,m,by omega,by omega,rfl,congrArg (Value.int .i64) (by omega),HLO.out,fun k hk1 hk2 => ?_⟩
     rcases Nat.lt_or_ge m k with h1 | h1
     ·have := HO.out m k h1 hk2;rw [HX.out] at this;have := HL.out;omega
     ·rw [show k = m by omega,HX.out];exact HL.out
    case measure => simp [intOf];omega
  ·obtain rfl : a = b := by omega
   by_cases han : a < n
   ·have k1 : (a : Int) < (n : Int) := by omega
    have k0 : (0 : Int) ≤ (a : Int) := by omega
    obtain ⟨bb,o,hA1,hc⟩ := HA.out a han;subst hA1;obtain ⟨X,hX⟩ : ∃ X,L.getD a 0 = X := ⟨_,rfl⟩;rw [hX] at hc;have HX := Lib.hid hX;have HMX := HM.out a han;rw [hX] at HMX
    by_cases hxe : X = x
    ·have e1 : (X == x) = true := by simp [hxe]
     have HE : Hid (x ∈ L) := hxe ▸ HMX;clear hX hxe HMX
     go_wp2_with (go_at_call 100;refine (nanB_any _ _).mono ?_;rintro e w1 ⟨rfl,rfl⟩)
     refine bodyPost_ret (results_tmp_2 rfl _ _) rfl ?_;exact ⟨⟨_,by rw [decide_eq_true HE.out];rfl⟩,rfl⟩
    ·have e1 : (X == x) = false := by simp [hxe]
     have HE : Hid (¬ x ∈ L) := fun hx => by
      obtain ⟨k,hk,e⟩ := HI.out hx
      rcases Nat.lt_trichotomy k a with h1 | h1 | h1
      ·have := HLO.out k h1;omega
      ·rw [h1,hX] at e;exact hxe e
      ·have h2 := HO.out a k h1 hk;have h3 := HHI.out a (Nat.le_refl _) han;omega
     clear hX hxe HMX
     go_wp2_with (go_at_call 100;refine (nanB_any _ _).mono ?_;rintro e w1 ⟨rfl,rfl⟩)
     refine bodyPost_ret (results_tmp_2 rfl _ _) rfl ?_;exact ⟨⟨_,by rw [decide_eq_false HE.out];rfl⟩,rfl⟩
   ·have HE : Hid (¬ x ∈ L) := fun hx => by
     obtain ⟨k,hk,e⟩ := HI.out hx;have := HLO.out k (by omega);omega
    have kk : ¬ ((a : Int) < (n : Int)) := by omega
    go_wp2_with fail
    refine bodyPost_ret (results_tmp_2 rfl _ _) rfl ?_;exact ⟨⟨_,by rw [decide_eq_false HE.out];rfl⟩,rfl⟩
theorem within_any (x a b : Int) (w : World) (h0 : a ≤ x) (h1 : x ≤ b) : Calls Tryz.prog 77 #[.int .i64 x,.int .i64 a,.int .i64 b] w fun r w' => r = .returned (.bool true) ∧ w = w' := by
 go_enter Tryz.func77,Tryz.ntmps77;go_wp2;go_ret;exact ⟨rfl,rfl⟩
theorem isPerson_any (x : Int) (w : World) (h0 : 0 ≤ x) (h1 : x < 64) : Calls Tryz.prog 78 #[.int .i64 x] w fun r w' => r = .returned (.bool true) ∧ w = w' := by
 have hW : ∀ W,Calls Tryz.prog 77 #[.int .i64 x,.int .i64 0,.int .i64 63] W fun r w' => r = .returned (.bool true) ∧ W = w' := fun W => within_any x 0 63 W h0 (by omega);have HW := Lib.hid hW;clear hW;go_enter Tryz.func78,Tryz.ntmps78
 go_wp2_with (go_at_call 77;refine (HW.out _).mono ?_;rintro e w1 ⟨rfl,rfl⟩)
 go_ret;exact ⟨rfl,rfl⟩
theorem pcheck2_any (x : Int) (w : World) (h0 : 0 ≤ x) (h1 : x < 1073741789) : Calls Tryz.prog 76 #[.int .i64 x] w fun r w' => r = .returned (.bool false) ∧ w = w' := by
 have hW : ∀ W,Calls Tryz.prog 77 #[.int .i64 x,.int .i64 0,.int .i64 1073741788] W fun r w' => r = .returned (.bool true) ∧ W = w' := fun W => within_any x 0 1073741788 W h0 (by omega);have HW := Lib.hid hW;clear hW;go_enter Tryz.func76,Tryz.ntmps76
 go_wp2_with (go_at_call 77;refine (HW.out _).mono ?_;rintro e w1 ⟨rfl,rfl⟩)
 go_ret;exact ⟨rfl,rfl⟩
theorem pcheck1_any (A : Option Addr) (n c : Nat) (w : World) (h1 : n ≤ 64) : Calls Tryz.prog 74 #[.slice A n c] w fun r w' => r = .returned (.bool false) ∧ w = w' := by
 have k : ¬ (64 < (n : Int)) := by omega
 go_enter Tryz.func74,Tryz.ntmps74;go_wp2;go_ret;exact ⟨rfl,rfl⟩
theorem prI_any  (A : Option Addr) (n c : Nat) (hn : n ≤ 4096) (pA : Nat → Option Addr) (pn : Nat → Nat) (pc : Nat → Nat) (I : Nat → World → Prop) (w : World) (h0 : I 0 w)
  (hA : 0 < n → ∃ b o,A = some ⟨b,o,none⟩ ∧ ∀ k,k < n → ∀ W,I k W → W.cell? ⟨b,o + k,none⟩ = some (.slice (pA k) (pn k) (pc k)))
  (hcall : ∀ k,k < n → ∀ W,I k W → Calls Tryz.prog 74 #[.slice (pA k) (pn k) (pc k)] W fun r w' => r = .returned (.bool false) ∧ I (k + 1) w') :
  Calls Tryz.prog 125 #[.slice A n c,(.func (.func 74) #[] #[])] w fun r w' => r = .returned (.int .i64 (-1)) ∧ I n w' := by
 have HA := Lib.hid hA;have HC := Lib.hid hcall;have H0 := Lib.hid h0;clear hA hcall h0;go_enter Tryz.func125,Tryz.ntmps125;go_wp2
 go_loopw [8] (fun i wr => ∃ k : Nat,k ≤ n ∧ i = .int .i64 k ∧ I k wr) (fun i _ => n - (intOf i).toNat)
 case atStart => exact ⟨0,Nat.zero_le _,rfl,H0.out⟩
 case round =>
  clear H0;obtain ⟨k,hk,rfl,hi⟩ := hrel;have HI := Lib.hid hi;clear hi
  by_cases hlt : k < n
  ·have k1 : (k : Int) < (n : Int) := by omega
   have k0 : (0 : Int) ≤ (k : Int) := by omega
   obtain ⟨b,o,hA1,hcc⟩ := HA.out (by omega);subst hA1;have hcc := hcc k hlt wr HI.out;have hC := HC.out k hlt wr HI.out;obtain ⟨P0,hP0⟩ : ∃ P,pA k = P := ⟨_,rfl⟩;rw [hP0] at hC hcc;obtain ⟨P1,hP1⟩ : ∃ P,pn k = P := ⟨_,rfl⟩;rw [hP1] at hC hcc;obtain ⟨P2,hP2⟩ : ∃ P,pc k = P := ⟨_,rfl⟩;rw [hP2] at hC hcc;have HC2 := Lib.hid hC;clear hC hP0 hP1 hP2 HA HC;obtain x0 := hcc
   go_wp2_with fail
   refine HC2.out.mono ?_;rintro x w1 ⟨rfl,hi1⟩;have HI1 := Lib.hid hi1;clear hi1;go_wp2;go_roundw
   case rel => exact ⟨k + 1,by omega,by go_num,HI1.out⟩
   case measure => simp [intOf];omega
  ·obtain rfl : k = n := by omega
   go_wp2;go_ret;exact ⟨rfl,HI.out⟩
theorem prC_any  (A : Option Addr) (n c : Nat) (hn : n ≤ 4096) (pA : Nat → Option Addr) (pn : Nat → Nat) (pc : Nat → Nat) (I : Nat → World → Prop) (w : World) (h0 : I 0 w)
  (hA : 0 < n → ∃ b o,A = some ⟨b,o,none⟩ ∧ ∀ k,k < n → ∀ W,I k W → W.cell? ⟨b,o + k,none⟩ = some (.slice (pA k) (pn k) (pc k)))
  (hcall : ∀ k,k < n → ∀ W,I k W → Calls Tryz.prog 74 #[.slice (pA k) (pn k) (pc k)] W fun r w' => r = .returned (.bool false) ∧ I (k + 1) w') :
  Calls Tryz.prog 75 #[.slice A n c,(.func (.func 74) #[] #[])] w fun r w' => r = .returned (.bool false) ∧ I n w' := by
 have HI := Lib.hid (prI_any  A n c hn pA pn pc I w h0 hA hcall);clear hA hcall h0;go_enter Tryz.func75,Tryz.ntmps75
 go_wp2_with fail
 refine HI.out.mono ?_;rintro x w1 ⟨rfl,hi⟩;have HI1 := Lib.hid hi;clear hi;go_wp2;go_ret;exact ⟨rfl,HI1.out⟩
theorem poI_any  (A : Option Addr) (n c : Nat) (hn : n ≤ 4096) (p : Nat → Int) (I : Nat → World → Prop) (w : World) (h0 : I 0 w)
  (hA : 0 < n → ∃ b o,A = some ⟨b,o,none⟩ ∧ ∀ k,k < n → ∀ W,I k W → W.cell? ⟨b,o + k,none⟩ = some (.int .i64 (p k)))
  (hcall : ∀ k,k < n → ∀ W,I k W → Calls Tryz.prog 76 #[.int .i64 (p k)] W fun r w' => r = .returned (.bool false) ∧ I (k + 1) w') :
  Calls Tryz.prog 126 #[.slice A n c,(.func (.func 76) #[] #[])] w fun r w' => r = .returned (.int .i64 (-1)) ∧ I n w' := by
 have HA := Lib.hid hA;have HC := Lib.hid hcall;have H0 := Lib.hid h0;clear hA hcall h0;go_enter Tryz.func126,Tryz.ntmps126;go_wp2
 go_loopw [8] (fun i wr => ∃ k : Nat,k ≤ n ∧ i = .int .i64 k ∧ I k wr) (fun i _ => n - (intOf i).toNat)
 case atStart => exact ⟨0,Nat.zero_le _,rfl,H0.out⟩
 case round =>
  clear H0;obtain ⟨k,hk,rfl,hi⟩ := hrel;have HI := Lib.hid hi;clear hi
  by_cases hlt : k < n
  ·have k1 : (k : Int) < (n : Int) := by omega
   have k0 : (0 : Int) ≤ (k : Int) := by omega
   obtain ⟨b,o,hA1,hcc⟩ := HA.out (by omega);subst hA1;have hcc := hcc k hlt wr HI.out;have hC := HC.out k hlt wr HI.out;obtain ⟨P0,hP0⟩ : ∃ P,p k = P := ⟨_,rfl⟩;rw [hP0] at hC hcc;have HC2 := Lib.hid hC;clear hC hP0 HA HC;obtain x0 := hcc
   go_wp2_with fail
   refine HC2.out.mono ?_;rintro x w1 ⟨rfl,hi1⟩;have HI1 := Lib.hid hi1;clear hi1;go_wp2;go_roundw
   case rel => exact ⟨k + 1,by omega,by go_num,HI1.out⟩
   case measure => simp [intOf];omega
  ·obtain rfl : k = n := by omega
   go_wp2;go_ret;exact ⟨rfl,HI.out⟩
theorem poC_any  (A : Option Addr) (n c : Nat) (hn : n ≤ 4096) (p : Nat → Int) (I : Nat → World → Prop) (w : World) (h0 : I 0 w)
  (hA : 0 < n → ∃ b o,A = some ⟨b,o,none⟩ ∧ ∀ k,k < n → ∀ W,I k W → W.cell? ⟨b,o + k,none⟩ = some (.int .i64 (p k)))
  (hcall : ∀ k,k < n → ∀ W,I k W → Calls Tryz.prog 76 #[.int .i64 (p k)] W fun r w' => r = .returned (.bool false) ∧ I (k + 1) w') :
  Calls Tryz.prog 79 #[.slice A n c,(.func (.func 76) #[] #[])] w fun r w' => r = .returned (.bool false) ∧ I n w' := by
 have HI := Lib.hid (poI_any  A n c hn p I w h0 hA hcall);clear hA hcall h0;go_enter Tryz.func79,Tryz.ntmps79
 go_wp2_with fail
 refine HI.out.mono ?_;rintro x w1 ⟨rfl,hi⟩;have HI1 := Lib.hid hi;clear hi;go_wp2;go_ret;exact ⟨rfl,HI1.out⟩
end Go.Proofs.YtifejdpffkeniaaGreatDoor
