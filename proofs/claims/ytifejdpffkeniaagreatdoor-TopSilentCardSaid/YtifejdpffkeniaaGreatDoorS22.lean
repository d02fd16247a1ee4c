import Derived.Test.YtifejdpffkeniaaGreatDoorS21
import Derived.Test.YtifejdpffkeniaaGreatDoorS18
set_option linter.unusedVariables false
set_option maxRecDepth 100000
set_option maxHeartbeats 40000000
namespace Go.Proofs.YtifejdpffkeniaaGreatDoor
open Go.RowKit
attribute [local go_sem] Oper.semAt_some
theorem Tch.trans' {ex ex' : Nat → Prop} {a b c : World} (h : Tch ex a b) (k : Tch ex' b c) (hx : ∀ i,i < a.heap.size → ex' i → ex i) : Tch ex a c :=
 ⟨k.os.trans h.os,k.tape.trans h.tape,k.output.trans h.output,Nat.le_trans h.size k.size,fun i hi he => (k.block i (Nat.lt_of_lt_of_le hi h.size) (fun e => he (hx i hi e))).trans (h.block i hi he)⟩
structure AI (s : Nat) (w4 W : World) (L : List Value) (A : Option Addr) (c : Nat) : Prop where
 rs : Row W s 23 [.slice A L.length c]
 ow : W.ownsRow (s + 1) 3 1 (.slice A L.length c) L.length L
 tc : Tch (fun i => i = s) w4 W
theorem AI.grown {s : Nat} {w4 W W' : World} {L : List Value} {A : Option Addr} {c : Nat} (h : AI s w4 W L A c) (hs : s < w4.heap.size) {row : Option Nat} (hg : W.grownBy W' row) (hr : ∀ r,row = some r → w4.heap.size ≤ r ∧ ∃ o : Obj,W.heap[r]? = some o ∧ o.isCells = false) : AI s w4 W' L A c :=
 ⟨h.rs.grown hg (fun e => by have := (hr s e.symm).1;omega),own_at h.ow (fun b hb => hg.block b (h.ow.lt b hb).2 (fun e => by
  obtain ⟨o,ho,hn⟩ := (hr b e.symm).2;obtain ⟨o',ho',hn'⟩ := own_isc h.ow hb
  rw [ho] at ho';cases ho';rw [hn] at hn';cases hn')),h.tc.grown hg (fun g e => .inl (hr g e).1)⟩
structure RwB (e : We) (kp : Int) (g sp sk : Nat) (W : World) (B : Nat) : Prop where
 ex : ∃ wv AA n ac pt ch,Row W g 127 (e.cells wv AA n ac pt ch)
 gb : g < B
 r1 : Row W sp 115 [.pointer (some ⟨g,0,none⟩)]
 r2 : Row W sk 3 [.int .i64 kp]
 l1 : sp < B
 l2 : sk < B
 oa : Rd W B 1 e.ky.OA e.ky.P.length (ivs e.ky.P)
theorem RwB.below {e : We} {kp : Int} {g sp sk : Nat} {W W' : World} {B : Nat} (h : RwB e kp g sp sk W B) (hb : Below B W W') : RwB e kp g sp sk W' B := by
 obtain ⟨wv,AA,n,ac,pt,ch,hr⟩ := h.ex;exact ⟨⟨wv,AA,n,ac,pt,ch,hr.below hb h.gb⟩,h.gb,h.r1.below hb h.l1,h.r2.below hb h.l2,h.l1,h.l2,h.oa.below hb⟩
def RwQ (L : List Value) (w : World) (r : Ending) (w' : World) : Prop := ∃ A c,r = .returned (.slice A L.length c) ∧ Rd w' w'.heap.size 1 A L.length L ∧ L.length ≤ c ∧ c ≤ maxLen ∧ Below w.heap.size w w'
theorem appseqI_any (e : We) (kp : Int) (g sp sk : Nat) (w : World) (h : RwB e kp g sp sk w w.heap.size) (h0 : 0 < e.ky.P.length) (hn : e.ky.P.length ≤ 64) :
  Calls Tryz.prog 143 #[.slice none 0 0,.func (.func 110) #[] #[.pointer (some ⟨sp,0,none⟩),.pointer (some ⟨sk,0,none⟩)]] w (RwQ ((sel e.ky.P [kp] e.ky.P.length).map fun i : Nat => Value.int .i64 (i : Int)) w) := by
 obtain ⟨s,hs⟩ : ∃ s,w.heap.size = s := ⟨_,rfl⟩;obtain ⟨w4,hw4⟩ : ∃ w4,w.alloc (.cells #[.slice none 0 0] 23) = w4 := ⟨_,rfl⟩;have hb4 : Below s w w4 := by rw [← hw4,← hs];exact (Below.refl _ _).alloc (Nat.le_refl _) _
 have hz4 : w4.heap.size = s + 1 := by rw [← hw4,World.size_alloc,hs]
 have hr4 : Row w4 s 23 [.slice none 0 0] := by rw [← hw4];exact Row.fresh' _ _ _ hs
 have hs4 : s < w4.heap.size := by omega
 rw [hs] at h;have hB := h.below hb4;have hq4 : AI s w4 w4 ((sel e.ky.P [kp] 0).map fun i : Nat => Value.int .i64 (i : Int)) none 0 := ⟨hr4,World.ownsRow_nil _ _ _ _,Tch.refl _ _⟩;have HQ4 := Lib.hid (And.intro hq4 hB);have HW4 := Lib.hid (And.intro hb4 hw4);have HS := Lib.hid hs;have HRW : Hid (∀ W A c L,AI s w4 W L A c → ∃ W0,Below s W0 W ∧ RwB e kp g sp sk W s) := fun W A c L hi => ⟨w4,hi.tc.below (by omega) (by intro i hi e9;omega),hB.below (hi.tc.below (by omega) (by intro i hi e9;omega))⟩;clear h hr4 hq4 hb4 hw4 hs hB;refine (callsIn_wide (n := 9)).1 ?_;refine callsIn_of_wp_marks Tryz.func143 rfl trivial ?_ rfl;simp only [Tryz.ntmps143,List.size_toArray,List.length_cons,List.length_nil,Nat.reduceAdd,Nat.reduceSub,Array.replicate_succ,Array.replicate_zero,List.push_toArray,List.append_toArray,List.nil_append,List.cons_append]
 gi_wp2_with fail
 rw [HS.out,HW4.out.2];obtain ⟨wv,AA,an,ac,pt,ch,_⟩ := HQ4.out.2.ex
 refine wpIn_range_hands (F := Fence.wide) (σ := Nat) rfl (by omega) (gf := 110) (lb := #[.pointer (some ⟨sp,0,none⟩),.pointer (some ⟨sk,0,none⟩)]) (by rfl) trivial (enters_of Tryz.func110 (by kernel_rfl) rfl)
  (fun (q : Nat) V => q ≤ e.ky.P.length ∧ ∃ A c,AI s w4 V ((sel e.ky.P [kp] q).map fun i : Nat => Value.int .i64 (i : Int)) A c) (fun _ (_ : Nat) W => False)
  (fun (q : Nat) vs q' _ => RwT e.ky.P kp q vs q') 0 (OwnS e.ky.P [kp]) w4 (Below.refl _ _) ?hsq
  ?oi (fun _ _ _ _ _ h _ _ => h) ⟨Nat.zero_le _,none,0,HQ4.out.1⟩ (fun _ _ _ _ h => by obtain ⟨i,_,_,_,_,_,e⟩ := h;rw [e];rfl)
  (fun (q : Nat) a' V => (∃ q0 r A c,q = r + 1 ∧ r < e.ky.P.length ∧ sel e.ky.P [kp] (r + 1) = sel e.ky.P [kp] q0 ++ [r] ∧ (sel e.ky.P [kp] q0).length ≤ 64 ∧ AI s w4 V ((sel e.ky.P [kp] q0).map fun i : Nat => Value.int .i64 (i : Int)) A c ∧ a'.tmps.getD 5 undef = .int .i64 (r : Int)) ∧ a'.tmps.size = 13 ∧ a'.tmps.getD 2 undef = .pointer (some ⟨s,0,none⟩) ∧ a'.defers = []) ?oa ?assign ?body ?done ?stop
 case hsq =>
  obtain ⟨wv,AA,an,ac,pt,ch,hrg⟩ := HQ4.out.2.ex;refine rows1_hands e kp g sp sk s wv AA an ac pt ch h0 hn w4 _ ?_;rintro q V ⟨_,A,c,hi⟩;have hb : Below s w4 V := hi.tc.below (by omega) (by intro i hi e9;omega);have hB := HQ4.out.2.below hb;exact ⟨hB.r1,hB.r2,hrg.below hb HQ4.out.2.gb,hB.oa⟩
 case oi =>
  rintro q W W' row ⟨hq,A,c,h1⟩ hg hr;exact ⟨hq,A,c,h1.grown hs4 hg hr⟩
 case oa =>
  rintro q a' _ W W' row ⟨⟨q0,r,A,c,p1,p2,p3,p4,p5,p6⟩,p7⟩ hg hr;exact ⟨⟨q0,r,A,c,p1,p2,p3,p4,p5.grown hs4 hg hr,p6⟩,p7⟩
 case assign =>
  rintro l q vs q' V K ⟨hq,A,c,h1⟩ ⟨r,g1,g2,g3,g4,rfl,rfl⟩ hK;have HK := Lib.hid hK;rw [show ∀ (a : Value),(#[7] : Array Tmp).zip #[a] = #[(7,a)] from fun a => by simp];clear hK;gi_wp2;exact HK.out _ _ (KeepsFrom.refl _ _) ⟨⟨q,r,A,c,rfl,g2,sel_step g1 g3 g4,by have := sel_le e.ky.P [kp] q;omega,h1,by rfl⟩,by rfl,by rfl,by rfl⟩
 case body =>
  rintro l q a' W hl ⟨⟨q0,r,A,c,rfl,hr,hsel,hl64,h1,e5⟩,h13,e2,hdf⟩;obtain ⟨T2,ds2⟩ := a';dsimp only at h13 e2 e5 hdf;subst hdf;obtain ⟨v2,hT,hv⟩ := arr_fun T2 13 h13;have e' : ((List.range 13).map v2).toArray = #[v2 0,v2 1,v2 2,v2 3,v2 4,v2 5,v2 6,v2 7,v2 8,v2 9,v2 10,v2 11,v2 12] := rfl;rw [show v2 2 = _ from (hv 2).symm.trans e2,show v2 5 = _ from (hv 5).symm.trans e5] at e';rw [hT,e'];obtain ⟨D,hD⟩ : ∃ D,(sel e.ky.P [kp] q0).map (fun i : Nat => Value.int .i64 (i : Int)) = D := ⟨_,rfl⟩;have hDl : D.length ≤ 64 := by rw [← hD,List.length_map];exact hl64
  have hDn : (sel e.ky.P [kp] (r + 1)).map (fun i : Nat => Value.int .i64 (i : Int)) = D ++ [.int .i64 (r : Int)] := by rw [hsel,List.map_append,hD];rfl
  rw [hD] at h1;have HDN := Lib.hid hDn;have HH1 := Lib.hid h1;obtain ⟨j,hj⟩ : ∃ j,D.length = j := ⟨_,rfl⟩;have q0' := h1.rs.cell (i := 0) rfl;have how := h1.ow;rw [hj] at q0' how hDl;have HJ := Lib.hid hj;have HX := Lib.hid how;have lS := h1.rs.lt;have f0 := h1.rs.fz 0;have hsz1 : s + 1 ≤ W.heap.size := by have := h1.tc.size;omega
  clear hT hv e' e2 e5 h13 hsel hl64 h1 hD hDn hj how
  gi_wp2_with (refine wpListInU_append_rd rfl (.tmp 8) (.tmp 10) 23 rfl (s + 1) 3 _ (.int .i64 0) 1 8 Tryz.underlying23 rfl rfl rfl rfl rfl (by decide) (.slice A j c) j D (by rfl) (HX.out.alloc _) (W.heap.size + 1) (some ⟨W.heap.size,0,none⟩) 1 1 [.int .i64 (r : Int)] (by rfl) (rd_newU W 3 (.int .i64 (r : Int))) (by intro u hu;simp at hu;rw [hu];rfl) (by unfold maxLen;omega) (by omega) (by simp;omega) ?_;intro v9 w9 hown9 hgrow9 hor9;obtain ⟨g9,c9,hv9,hu1,hu2⟩ := hown9.form (by omega);clear hu1 hu2;subst hv9;have hal : Below W.heap.size W (W.alloc (.cells #[.int .i64 (r : Int)] 3)) := (Below.refl _ _).alloc (Nat.le_refl _) _;have hrw := (HH1.out.rs.below hal lS).grown hgrow9 (fun e => by have := (HX.out.lt s e.symm).1;omega);have s3 := hrw.cell (i := 0) rfl;have f9 := hrw.fz 0;have H9 := Lib.hid (And.intro hal (And.intro hown9 (And.intro hgrow9 (And.intro hor9 hrw))));clear hal hown9 hgrow9 hor9 hrw)
  obtain ⟨hal,hown9,hgrow9,hor9,hrw⟩ := H9.out;have hT9 : Tch (fun i => i = s ∨ (Value.slice A j c).ownBlock = some i) W (w9.setCell ⟨s,0,none⟩ (.slice (some ⟨g9,0,none⟩) (j + 1) c9)) := (((Tch.of_bel (ex := fun i => i = s ∨ (Value.slice A j c).ownBlock = some i) hal).grown hgrow9 (fun b e => .inr (.inr e))).set (p := ⟨s,0,none⟩) (.inr (.inl rfl)) _);refine ⟨hT9.keepsFrom ?_,by omega,some ⟨g9,0,none⟩,c9,?_⟩
  ·rintro i (rfl | hi) o ho
   ·exact HH1.out.rs.isc ho
   ·obtain ⟨o',ho',hn'⟩ := own_isc HX.out hi
    rw [ho] at ho';cases ho';exact hn'
  ·rw [HDN.out]
   have hl : (D ++ [Value.int .i64 (r : Int)]).length = j + 1 := by rw [List.length_append,HJ.out];rfl
   refine ⟨?_,?_,HH1.out.tc.trans' hT9 ?_⟩
   ·rw [hl];exact hrw.put 0 _
   ·rw [hl];exact own_setC hown9 (p := ⟨s,0,none⟩) (Nat.lt_succ_self s) _
   ·rintro i hi (e9 | e9)
    ·exact e9
    ·have := (HX.out.lt i e9).1;omega
 case done =>
  rintro D q W hD hOS ⟨hq,A,c,h1⟩ hd;have hsl : sel e.ky.P [kp] e.ky.P.length = sel e.ky.P [kp] q := sel_skip hq fun j h1 h2 => hOS j h1 h2;have q0 := h1.rs.cell (i := 0) rfl;obtain ⟨DD,hDD⟩ : ∃ DD,(sel e.ky.P [kp] q).map (fun i : Nat => Value.int .i64 (i : Int)) = DD := ⟨_,rfl⟩;rw [hDD] at q0 h1;have HSL : Hid ((sel e.ky.P [kp] e.ky.P.length).map (fun i : Nat => Value.int .i64 (i : Int)) = DD) := by show _ = _;rw [hsl,hDD]
  have HH1 := Lib.hid h1;have HD := Lib.hid (And.intro hD hd);clear h1 hD hd hsl hDD
  gi_wp2_with fail
  have hD := HD.out.1;have hm : Marks (s + 1) W.heap.size [{ target := .collected D,args := #[] }] W := (Marks.nil (s + 1) (s + 1) W).cons (by omega) (by omega) (heap_lt HD.out.2) HD.out.2;refine leaves_marksU (C := W.heap.size) _ _ hm fun w' hb' hc' => ?_
  have how : w'.ownsRow (s + 1) 3 1 (.slice A DD.length c) DD.length DD := own_at HH1.out.ow (fun b hb => by
   obtain ⟨o',ho',hn'⟩ := own_isc HH1.out.ow hb
   rw [ho'];exact hc' b o' ho' hn')
  obtain ⟨A',c',hv,hr,hc1,hm1⟩ := own_sliceT how
  cases hv
  refine ⟨_,results_tmp_1 rfl _ _,?_⟩;show RwQ _ w _ _;rw [HSL.out];refine ⟨A,c,rfl,hr,hc1,hm1,?_⟩;rw [HS.out];exact (HW4.out.1.trans (HH1.out.tc.below (by omega) (by intro i hi e9;omega))).trans (hb'.mono (by omega))
 case stop =>
  rintro D c q W hD h hd;exact h.elim
theorem collectI_any (e : We) (kp : Int) (g sp sk : Nat) (w : World) (h : RwB e kp g sp sk w w.heap.size) (h0 : 0 < e.ky.P.length) (hn : e.ky.P.length ≤ 64) :
  Calls Tryz.prog 123 #[.func (.func 110) #[] #[.pointer (some ⟨sp,0,none⟩),.pointer (some ⟨sk,0,none⟩)]] w (RwQ ((sel e.ky.P [kp] e.ky.P.length).map fun i : Nat => Value.int .i64 (i : Int)) w) := by
 have HA := Lib.hid (appseqI_any e kp g sp sk w h h0 hn);clear h h0 hn;generalize ((sel e.ky.P [kp] e.ky.P.length).map fun i : Nat => Value.int .i64 (i : Int)) = DD at HA ⊢;generalize hQQ : RwQ DD w = QQ at HA ⊢;have HQ := Lib.hid hQQ;clear hQQ;go_enter Tryz.func123,Tryz.ntmps123
 go_wp2_with fail
 have H2 := HA.out;rw [← HQ.out] at H2;refine H2.mono ?_;rintro r w' ⟨A,c,rfl,q1⟩;have H3 := Lib.hid q1;clear q1 H2
 go_wp2_with fail
 rw [← HQ.out];exact ⟨A,c,rfl,H3.out⟩
def rwe (us : List Int) (f : Nat → Int) (ch : Int) (i : Nat) : Nat := (f i).toNat * (Fm.ml (us.getD i 0) ch).toNat
def rws (us : List Int) (f : Nat → Int) (ch : Int) (L : List Nat) : Nat → Nat
 | 0 => 0
 | j + 1 => rws us f ch L j + rwe us f ch (L.getD j 0)
structure FK (K : Sh.Cst) (e : We) (s b12 g zb : Nat) (us : List Int) (AA : Option Addr) (ac : Nat) (pt ch : Int) (w W : World) (B : Nat) : Prop where
 bel : Below s w W
 r5 : Row W s 45 [.int .i64 0,.slice e.ky.RA e.ky.P.length e.ky.rc,.slice e.ky.OA e.ky.P.length e.ky.oc,.slice e.ky.CA e.ky.N e.ky.cc]
 r12 : Row W b12 115 [.pointer (some ⟨g,0,none⟩)]
 wk : Wk K e g (.slice (some ⟨zb,0,none⟩) e.ky.P.length e.ky.P.length) AA ac pt ch W B
 rz : Row W zb 3 (ivs us)
 l5 : s < B
 l12 : b12 < B
 lz : zb < B
 lB : B ≤ W.heap.size
theorem FK.next {K : Sh.Cst} {e : We} {s b12 g zb : Nat} {us : List Int} {AA : Option Addr} {ac : Nat} {pt ch : Int} {w W W' : World} {B : Nat} (h : FK K e s b12 g zb us AA ac pt ch w W B) (hb : Below B W W') : FK K e s b12 g zb us AA ac pt ch w W' B := by
 have h3 := h.l5;exact ⟨h.bel.trans (hb.mono (by omega)),h.r5.below hb h.l5,h.r12.below hb h.l12,h.wk.below hb,h.rz.below hb h.lz,h.l5,h.l12,h.lz,Nat.le_trans h.lB hb.size⟩
theorem FK.more {K : Sh.Cst} {e : We} {s b12 g zb : Nat} {us : List Int} {AA : Option Addr} {ac : Nat} {pt ch : Int} {w W : World} {B B' : Nat} (h : FK K e s b12 g zb us AA ac pt ch w W B) (hB : B ≤ B') (hW : B' ≤ W.heap.size) : FK K e s b12 g zb us AA ac pt ch w W B' :=
 ⟨h.bel,h.r5,h.r12,h.wk.more hB,h.rz,by have := h.l5;omega,by have := h.l12;omega,by have := h.lz;omega,hW⟩
theorem fits1_any (K : Sh.Cst) (e : We) (us : List Int) (s b12 g zb : Nat) (AA : Option Addr) (ac : Nat) (pt ch : Int) (i : Nat) (w0 w : World) (h : FK K e s b12 g zb us AA ac pt ch w0 w w.heap.size) (hk : e.ky.ok w w.heap.size) (hi : i < e.ky.P.length) (hul : us.length = e.ky.P.length) :
  Calls Tryz.prog 121 #[.int .i64 (i : Int),.pointer (some ⟨s,0,none⟩),.pointer (some ⟨b12,0,none⟩)] w fun r w' => r = .returned (.int .i64 (Gm.pw (rwe us (shr e.ky.ds e.ky.xs) ch i) : Int)) ∧ Below w.heap.size w w' := by
 obtain ⟨z,hz⟩ : ∃ z,w.heap.size = z := ⟨_,rfl⟩;have HPU : Hid (Calls Tryz.prog 113 #[.agg #[.slice e.ky.RA e.ky.P.length e.ky.rc,.slice e.ky.OA e.ky.P.length e.ky.oc],.slice e.ky.CA e.ky.N e.ky.cc,.int .i64 (i : Int)] w fun r w' => r = .returned (.tuple #[.int .i64 (Gm.pw (shr e.ky.ds e.ky.xs i).toNat : Int),.int .i64 0]) ∧ Below w.heap.size w w') := public_any e.ky i w hk hi
 have HPW : Hid (∀ W,Calls Tryz.prog 52 #[.int .i64 (Gm.pw (shr e.ky.ds e.ky.xs i).toNat : Int),.int .i64 (Fm.ml (us.getD i 0) ch)] W fun r w' => r = .returned (.int .i64 (Gm.pw (rwe us (shr e.ky.ds e.ky.xs) ch i) : Int)) ∧ Below W.heap.size W w') := fun W => by
  have h1 := Fm.ml_lo (us.getD i 0) ch;have h2 := Fm.ml_hi (us.getD i 0) ch;have h3 := ppower_any (shr e.ky.ds e.ky.xs i).toNat (Fm.ml (us.getD i 0) ch) W (by omega) h2;rw [Int.emod_eq_of_lt h1 h2] at h3;exact h3
 have hus : (ivs us)[i]? = some (.int .i64 (us.getD i 0)) := by rw [List.getElem?_map,List.getD_eq_getElem?_getD,List.getElem?_eq_getElem (by omega)];rfl
 obtain ⟨UR,hUR⟩ : ∃ x,us.getD i 0 = x := ⟨_,rfl⟩;rw [hUR] at HPW hus;have HUR := Lib.hid hus;have hi1 : (i : Int) < (e.ky.P.length : Int) := by omega
 have hi0 : (0 : Int) ≤ (i : Int) := by omega
 have H := Lib.hid h;have c1 := h.r5.cell (i := 1) rfl;have c2 := h.r5.cell (i := 2) rfl;have c3 := h.r5.cell (i := 3) rfl;generalize (Gm.pw (rwe us (shr e.ky.ds e.ky.xs) ch i) : Int) = R at HPW ⊢;generalize (Gm.pw (shr e.ky.ds e.ky.xs i).toNat : Int) = Y at HPW HPU;have HZ := Lib.hid hz;clear h hk hi hus hUR hz hul;go_enter Tryz.func121,Tryz.ntmps121
 go_wp2_with fail
 refine HPU.out.mono ?_;rintro r w1 ⟨rfl,hb1⟩;have H1 := Lib.hid (And.intro (H.out.next hb1) hb1);clear hb1 c1 c2 c3
 go_wp2_with fail
 rename_i Kz hKz;refine wp_region_treeCW (fun (i : Nat) (W : World) => FK K e s b12 g zb us AA ac pt ch w0 W w.heap.size) (.take 0 (.take 1 (.take 2 (.take 3 (.take 4 (.take 5 (.take 6 (.take 7 (.take 8 (.take 9 (.take 10 (.take 11 (.one 12 (.one 13 (.take 14 .done))))))))))))))) (by kernel_rfl) (by kernel_rfl) (by kernel_rfl) (by kernel_rfl) (by kernel_rfl) ?_;have hC := H1.out.1.next (Below.refl _ w1).drew;have hbC : Below w.heap.size w w1.drew := H1.out.2.drew;generalize w1.drew = w2 at hC hbC ⊢
 iterate 12 (refine wpOTC_take rfl _ (by rfl) (fun _ => rfl) (by intro w' hS;have c16 := hS.r12.cell (i := 0) rfl;have c6 := hS.wk.row.cell (i := 6) rfl;have c12 := hS.wk.row.cell (i := 12) rfl;have cz := hS.rz.cell HUR.out;go_simp;try with_reducible rfl) hC fun KK hKK => ?_;go_simp;refine hKK _ ?_;clear hKK KK)
 refine wpOTC_one _ rfl (by rfl) rfl fun KK hKK => ?_;go_simp;refine ⟨trivial,(callsIn_wide.2 (mul_any _ _ _)).mono ?_⟩;rintro r9 w9 ⟨rfl,rfl⟩;refine hKK _ _ (fun _ _ => hC) ?_;clear hKK KK;refine wpOTC_one _ rfl (by rfl) rfl fun KK hKK => ?_;go_simp;refine ⟨trivial,(callsIn_wide.2 (HPW.out w2)).mono ?_⟩;rintro r9 w3 ⟨rfl,hb⟩;have hC3 := hC.next (hb.mono hC.lB);have HB := Lib.hid (hbC.trans (hb.mono hC.lB));refine hKK _ _ (fun _ _ => hC3) ?_;clear hKK KK hb hC hbC;refine wpOTC_take rfl _ (by rfl) (fun _ => rfl) (by intro w' hS;skip;go_simp;try with_reducible rfl) hC3 fun KK hKK => ?_;go_simp;refine hKK _ ?_;clear hKK KK;refine wpOTC_done ?_;show Kz _ _;refine hKz _ _ ?_;go_wp2;go_ret;exact ⟨rfl,HB.out⟩
theorem productI_any (K : Sh.Cst) (e : We) (us : List Int) (s b12 g zb : Nat) (AA : Option Addr) (ac : Nat) (pt ch : Int) (L : List Nat) (A : Option Addr) (n c : Nat) (w0 w : World) (h : FK K e s b12 g zb us AA ac pt ch w0 w w.heap.size) (hk : e.ky.ok w w.heap.size) (hL : ∀ i ∈ L,i < e.ky.P.length) (hn : n ≤ 64) (hl : L.length = n) (hr : Rd w w.heap.size 1 A n (L.map fun i : Nat => Value.int .i64 (i : Int))) (hul : us.length = e.ky.P.length) :
  Calls Tryz.prog 122 #[.slice A n c,(.func (.func 121) #[] #[.pointer (some ⟨s,0,none⟩),.pointer (some ⟨b12,0,none⟩)])] w fun r w' => r = .returned (.int .i64 (Gm.pw (rws us (shr e.ky.ds e.ky.xs) ch L n) : Int)) ∧ Below w.heap.size w w' := by
 obtain ⟨z,hz⟩ : ∃ z,w.heap.size = z := ⟨_,rfl⟩
 have HA : Hid (0 < n → ∃ b o,A = some ⟨b,o,none⟩ ∧ ∀ j,j < n → ∀ W,Below z w W → W.cell? ⟨b,o + j,none⟩ = some (.int .i64 ((L.getD j 0 : Nat) : Int))) := fun h0 => by
  obtain ⟨b,o,e1,hb,hc⟩ := hr.2 h0;refine ⟨b,o,e1,fun j hj W hW => ?_⟩;rw [← hz] at hW;rw [hW.cell (p := ⟨b,o + j,none⟩) hb];refine hc j _ ?_;rw [List.getElem?_map,List.getD_eq_getElem?_getD,List.getElem?_eq_getElem (by omega)];rfl
 have HC : Hid (∀ j,j < n → ∀ W,Below z w W → Calls Tryz.prog 121 #[.int .i64 ((L.getD j 0 : Nat) : Int),.pointer (some ⟨s,0,none⟩),.pointer (some ⟨b12,0,none⟩)] W fun r w' => r = .returned (.int .i64 (Gm.pw (rwe us (shr e.ky.ds e.ky.xs) ch (L.getD j 0)) : Int)) ∧ Below W.heap.size W w') := fun j hj W hW => by
  rw [← hz] at hW;exact fits1_any K e us s b12 g zb AA ac pt ch _ w0 W ((h.next hW).more hW.size (Nat.le_refl _)) ((hk.below hW).more hW.size) (hL _ (by rw [List.getD_eq_getElem?_getD,List.getElem?_eq_getElem (by omega)];exact List.getElem_mem _)) hul
 have HM : Hid (∀ (j : Nat) W,Calls Tryz.prog 63 #[.int .i64 (Gm.pw (rws us (shr e.ky.ds e.ky.xs) ch L j) : Int),.int .i64 (Gm.pw (rwe us (shr e.ky.ds e.ky.xs) ch (L.getD j 0)) : Int)] W fun r w' => r = .returned (.tuple #[.int .i64 (Gm.pw (rws us (shr e.ky.ds e.ky.xs) ch L (j + 1)) : Int),.int .i64 0]) ∧ W = w') := fun j W => mul_gany _ _ W;have H0 : Hid ((1 : Int) = (Gm.pw (rws us (shr e.ky.ds e.ky.xs) ch L 0) : Int)) := by show (1 : Int) = ((Gm.pw 0 : Nat) : Int);rw [Gm.pw_zero];rfl
 have HZ := Lib.hid hz;generalize rws us (shr e.ky.ds e.ky.xs) ch L = PTE at HM H0 ⊢;generalize rwe us (shr e.ky.ds e.ky.xs) ch = NZ at HM HC;clear h hk hL hl hr hul hz;rw [HZ.out];go_enter Tryz.func122,Tryz.ntmps122
 go_wp2_with fail
 go_loopw [5,10] (fun t i wr => ∃ k : Nat,k ≤ n ∧ i = .int .i64 k ∧ t = .int .i64 (Gm.pw (PTE k) : Int) ∧ Below z w wr) (fun _ i _ => n - (intOf i).toNat)
 case atStart => exact ⟨0,Nat.zero_le _,rfl,by rw [← H0.out],by rw [← HZ.out];exact Below.refl _ _⟩
 case round =>
  obtain ⟨k,hk,rfl,rfl,hb⟩ := hrel;have HB := Lib.hid hb;clear hb H0
  by_cases hlt : k < n
  ·have k1 : (k : Int) < (n : Int) := by omega
   have k0 : (0 : Int) ≤ (k : Int) := by omega
   obtain ⟨b,o,hA1,hcc⟩ := HA.out (by omega);subst hA1;have q0 := hcc k hlt wr HB.out;have HCk := Lib.hid (HC.out k hlt);have HMk := Lib.hid (HM.out k);generalize (Gm.pw (NZ (L.getD k 0)) : Int) = Y at HCk HMk;generalize ((L.getD k 0 : Nat) : Int) = X at HCk q0;generalize hE1 : (Gm.pw (PTE (k + 1)) : Int) = E1 at HMk;have HE1 := Lib.hid hE1;generalize (Gm.pw (PTE k) : Int) = E0 at HMk ⊢;clear hcc hE1
   go_wp2_with fail
   refine (HCk.out _ HB.out).mono ?_;rintro r w1 ⟨rfl,hb⟩;have HB1 : Hid (Below z w w1) := HB.out.trans (hb.mono (by have := HB.out.size;have := HZ.out;omega));clear hb q0
   go_wp2_with fail
   refine (HMk.out _).mono ?_;rintro r w2 ⟨rfl,rfl⟩
   go_wp2_with fail
   go_roundw
   case rel => exact ⟨k + 1,by omega,by go_num,by rw [HE1.out],HB1.out⟩
   case measure => simp [intOf];omega
  ·obtain rfl : k = n := by omega
   go_wp2;go_ret;exact ⟨rfl,HB.out⟩
theorem pfits_any (K : Sh.Cst) (e : We) (us : List Int) (i : Nat) (z : Int) (w : World) (h : e.ok w w.heap.size) (hacc : AccR e.ky.N e.ky.ds e.ky.P (e.ps.map Pr.k) true us) (h0 : 0 < e.ky.P.length) (hi : i < e.ps.length) (hz0 : 0 ≤ z) (hz1 : z < 1073741789) (hul : us.length = e.ky.P.length)
  (hzz : Gm.pw z.toNat = Gm.pw (nze K e.c0 e.tx e.ps (e.ps.getD i default) + rws us (shr e.ky.ds e.ky.xs) (chv K e) (sel e.ky.P [(e.ps.getD i default).k] e.ky.P.length) (sel e.ky.P [(e.ps.getD i default).k] e.ky.P.length).length)) :
  Calls Tryz.prog 61 #[.agg #[.int .i64 0,.slice e.ky.RA e.ky.P.length e.ky.rc,.slice e.ky.OA e.ky.P.length e.ky.oc,.slice e.ky.CA e.ky.N e.ky.cc],.slice e.TA e.tx.length e.tc,.slice e.PA e.ps.length e.pc,.int .i64 (e.ps.getD i default).k,.int .i64 z] w fun r w' =>
   r = .returned (.tuple #[.bool true,.int .i64 0]) ∧ Below w.heap.size w w' := by
 obtain ⟨s,hs⟩ : ∃ s,w.heap.size = s := ⟨_,rfl⟩;obtain ⟨w0,hw0⟩ : ∃ w0,w.alloc (.cells #[.int .i64 0,.slice e.ky.RA e.ky.P.length e.ky.rc,.slice e.ky.OA e.ky.P.length e.ky.oc,.slice e.ky.CA e.ky.N e.ky.cc] 45) = w0 := ⟨_,rfl⟩;have hb0 : Below s w w0 := by rw [← hw0,← hs];exact (Below.refl _ w).alloc (Nat.le_refl _) _
 have hs0 : w0.heap.size = s + 1 := by rw [← hw0,World.size_alloc,hs]
 have hr0 : Row w0 s 45 [.int .i64 0,.slice e.ky.RA e.ky.P.length e.ky.rc,.slice e.ky.OA e.ky.P.length e.ky.oc,.slice e.ky.CA e.ky.N e.ky.cc] := by rw [← hw0];exact Row.fresh' _ _ _ hs
 have hpk : (e.ps.getD i default).ok := h.pk _ (by rw [List.getD_eq_getElem?_getD,List.getElem?_eq_getElem hi];exact List.getElem_mem _);have HBE : Hid (Calls Tryz.prog 46 #[.agg #[.int .i64 0,.slice e.ky.RA e.ky.P.length e.ky.rc,.slice e.ky.OA e.ky.P.length e.ky.oc,.slice e.ky.CA e.ky.N e.ky.cc],.slice e.TA e.tx.length e.tc,.slice e.PA e.ps.length e.pc] w0 (BegQ K e us w0)) := begin_any K e us w0 (h.go hs hb0) hacc
 have HFI : Hid (∀ W B g wv AA ac pt ch b,Below s w W → Wk K e g wv AA ac pt ch W B → B ≤ W.heap.size → Row W b 3 [.int .i64 z] → Calls Tryz.prog 47 #[.pointer (some ⟨g,0,none⟩),.int .i64 (e.ps.getD i default).k,.slice (some ⟨b,0,none⟩) 1 1] W fun r w' => r = .returned (.tuple #[.agg (e.ps.getD i default).cells.toArray,.int .i64 0]) ∧ Below W.heap.size W w') := fun W B g wv AA ac pt ch b hW hwk hB hb => by
  refine pfind_any K e i g wv AA ac pt ch _ 1 1 [z] W (h.go hs hW) (hwk.more hB) hi ((rd_rowN hb).more hb.lt) (by decide) ?_;intro x hx;rw [List.mem_singleton.1 hx];exact ⟨hz0,hz1⟩
 have HNO : Hid (∀ W B g wv AA ac pt ch,Below s w W → Wk K e g wv AA ac pt ch W B → B ≤ W.heap.size → Calls Tryz.prog 105 #[.pointer (some ⟨g,0,none⟩),.agg (e.ps.getD i default).cells.toArray] W fun r w' => r = .returned (.int .i64 (Gm.pw (nze K e.c0 e.tx e.ps (e.ps.getD i default)) : Int)) ∧ Below W.heap.size W w') := fun W B g wv AA ac pt ch hW hwk hB =>
  nonce_any K e (e.ps.getD i default) g wv AA ac pt ch W (h.go hs hW) (hwk.more hB) hpk
 have HCO : Hid (∀ W g sp sk,Below s w W → RwB e (e.ps.getD i default).k g sp sk W W.heap.size → Calls Tryz.prog 123 #[.func (.func 110) #[] #[.pointer (some ⟨sp,0,none⟩),.pointer (some ⟨sk,0,none⟩)]] W (RwQ ((sel e.ky.P [(e.ps.getD i default).k] e.ky.P.length).map fun i : Nat => Value.int .i64 (i : Int)) W)) := fun W g sp sk hW hr =>
  collectI_any e _ g sp sk W hr h0 (by have := h.ky.len;omega)
 have HPI : Hid (∀ W b12 g zb AA ac pt A c,FK K e s b12 g zb us AA ac pt (chv K e) w W W.heap.size → Rd W W.heap.size 1 A (sel e.ky.P [(e.ps.getD i default).k] e.ky.P.length).length ((sel e.ky.P [(e.ps.getD i default).k] e.ky.P.length).map fun i : Nat => Value.int .i64 (i : Int)) → Calls Tryz.prog 122 #[.slice A (sel e.ky.P [(e.ps.getD i default).k] e.ky.P.length).length c,(.func (.func 121) #[] #[.pointer (some ⟨s,0,none⟩),.pointer (some ⟨b12,0,none⟩)])] W fun r w' => r = .returned (.int .i64 (Gm.pw (rws us (shr e.ky.ds e.ky.xs) (chv K e) (sel e.ky.P [(e.ps.getD i default).k] e.ky.P.length) (sel e.ky.P [(e.ps.getD i default).k] e.ky.P.length).length) : Int)) ∧ Below W.heap.size W w') := fun W b12 g zb AA ac pt A c hF hr => by
  have hl := sel_le e.ky.P [(e.ps.getD i default).k] e.ky.P.length;have hn := h.ky.len;exact productI_any K e us s b12 g zb AA ac pt (chv K e) _ A _ c w W hF (h.go hs hF.bel).ky (fun j hj => sel_lt hj) (by omega) rfl hr hul
 have HMU : Hid (∀ W,Calls Tryz.prog 63 #[.int .i64 (Gm.pw (nze K e.c0 e.tx e.ps (e.ps.getD i default)) : Int),.int .i64 (Gm.pw (rws us (shr e.ky.ds e.ky.xs) (chv K e) (sel e.ky.P [(e.ps.getD i default).k] e.ky.P.length) (sel e.ky.P [(e.ps.getD i default).k] e.ky.P.length).length) : Int)] W fun r w' => r = .returned (.tuple #[.int .i64 (Gm.pw z.toNat : Int),.int .i64 0]) ∧ W = w') := fun W => by
  rw [hzz];exact mul_gany _ _ W
 have HPW : Hid (∀ W,Calls Tryz.prog 52 #[.int .i64 4,.int .i64 z] W fun r w' => r = .returned (.int .i64 (Gm.pw z.toNat : Int)) ∧ Below W.heap.size W w') := fun W => ppower_four z W hz0 hz1;have HOW : Hid (∀ V,Below s w V → Rd V s 1 e.ky.OA e.ky.P.length (ivs e.ky.P)) := fun V hV => by rw [← hs] at hV ⊢;exact h.ky.prg.own.below hV
 have HB0 := Lib.hid (And.intro hb0 (And.intro hr0 hs0));have HW0 := Lib.hid hw0;have HS := Lib.hid hs;obtain ⟨SL,hSL⟩ : ∃ x,(sel e.ky.P [(e.ps.getD i default).k] e.ky.P.length).map (fun i : Nat => Value.int .i64 (i : Int)) = x := ⟨_,rfl⟩;obtain ⟨SN,hSN⟩ : ∃ x,(sel e.ky.P [(e.ps.getD i default).k] e.ky.P.length).length = x := ⟨_,rfl⟩;have HLN : Hid (SL.length = SN) := by show _ = _;rw [← hSL,List.length_map,hSN]
 rw [hSL] at HPI HCO;rw [hSN] at HPI HMU;generalize (Gm.pw (rws us (shr e.ky.ds e.ky.xs) (chv K e) (sel e.ky.P [(e.ps.getD i default).k] e.ky.P.length) SN) : Int) = RWV at HPI HMU;obtain ⟨p,hp⟩ : ∃ p,e.ps.getD i default = p := ⟨_,rfl⟩;rw [hp] at HFI HNO HCO HMU ⊢;generalize (Gm.pw (nze K e.c0 e.tx e.ps p) : Int) = NZV at HNO HMU;generalize (Gm.pw z.toNat : Int) = ZV at HMU HPW;have hpc : p.cells.toArray = #[.int .i64 p.k,.int .i64 p.no,.int .i64 (Gm.pw p.d : Int),.int .i64 (Gm.pw p.f : Int)] := rfl;rw [hpc] at HFI HNO;clear h hacc h0 hi hz0 hz1 hul hzz hpk hb0 hs0 hr0 hw0 hs hSL hSN hp hpc;go_enter Tryz.func61,Tryz.ntmps61
 go_wp2_with fail
 rw [HW0.out,HS.out];refine HBE.out.mono ?_;rintro r w1 ⟨⟨g,zb,AA,ac,rfl,hwk,hz⟩,hb1⟩;rw [HB0.out.2.2] at hb1;obtain ⟨b12,hb12⟩ : ∃ b,w1.heap.size = b := ⟨_,rfl⟩;have hs1 : s + 1 ≤ b12 := by rw [← hb12];have := hb1.size;rw [HB0.out.2.2] at this;exact this
 generalize hPTV : (Gm.pw (pte K e.c0 e.tx e.ps e.ps.length) : Int) = PTV at hwk;have hCH : chl K PTV e.c0 e.tx = chv K e := by rw [← hPTV];rfl
 rw [hCH] at hwk;have H1 := Lib.hid (And.intro hwk (And.intro hz (And.intro hb1 hb12)));clear hwk hz hb1 hPTV hCH
 go_wp2_with fail
 obtain ⟨w2,hw2⟩ : ∃ w2,w1.alloc (.cells #[.pointer (some ⟨g,0,none⟩)] 115) = w2 := ⟨_,rfl⟩;have hb2 : Below b12 w1 w2 := by rw [← hw2,← hb12];exact (Below.refl _ _).alloc (Nat.le_refl _) _
 have hs2 : w2.heap.size = b12 + 1 := by rw [← hw2,World.size_alloc,hb12]
 have hlz := H1.out.2.1.lt;rw [hb12] at hlz;have hwk2 := H1.out.1;rw [hb12] at hwk2;generalize hCHV : chv K e = CHV at hwk2 HPI;have hF2 : FK K e s b12 g zb us AA ac PTV CHV w w2 (b12 + 1) := ⟨HB0.out.1.trans ((H1.out.2.2.1.mono (Nat.le_succ s)).trans (hb2.mono (by omega))),(HB0.out.2.1.below H1.out.2.2.1 (Nat.lt_succ_self s)).below hb2 (by omega),by rw [← hw2];exact Row.fresh' _ _ _ hb12,(hwk2.below hb2).more (Nat.le_succ _),H1.out.2.1.below hb2 (by omega),by omega,by omega,by omega,by omega⟩;rw [hw2];have hb3 : Below (b12 + 1) w2 (w2.alloc (.cells #[.int .i64 z] 3)) := (Below.refl _ _).alloc (by omega) _;have hF3 := hF2.next hb3;refine (HFI.out _ (b12 + 1) g _ AA ac PTV CHV (b12 + 1) hF3.bel hF3.wk hF3.lB (Row.fresh' _ _ _ hs2)).mono ?_;rintro r w4 ⟨rfl,hb4⟩;have hF4 := hF3.next (hb4.mono hF3.lB);obtain ⟨b13,hb13⟩ : ∃ b,w4.heap.size = b := ⟨_,rfl⟩;have hl13 : b12 + 1 ≤ b13 := by rw [← hb13];exact hF4.lB
 have hF5 : FK K e s b12 g zb us AA ac PTV CHV w (w4.alloc (.cells #[.int .i64 p.k,.int .i64 p.no,.int .i64 (Gm.pw p.d : Int),.int .i64 (Gm.pw p.f : Int)] 56)) (b13 + 1) := (hF4.next ((Below.refl _ _).alloc hF4.lB _)).more (by omega) (by simp [hb13]);have hr5 : Row (w4.alloc (.cells #[.int .i64 p.k,.int .i64 p.no,.int .i64 (Gm.pw p.d : Int),.int .i64 (Gm.pw p.f : Int)] 56)) b13 56 p.cells := Row.fresh' _ _ _ hb13;have H5 := Lib.hid (And.intro hF5 hr5);clear hF5 hr5 hF4 hF3 hF2 hb3 hb4 hwk2 hb2 hw2 hs2 hlz H1 hs1 hb12 hl13;have HB13 := Lib.hid hb13;clear hb13
 go_wp2_with fail
 rw [HB13.out];generalize w4.alloc (.cells #[.int .i64 p.k,.int .i64 p.no,.int .i64 (Gm.pw p.d : Int),.int .i64 (Gm.pw p.f : Int)] 56) = w5 at H5 ⊢;rename_i Kz hKz;refine wp_region_treeCW (fun (i : Nat) (W : World) => FK K e s b12 g zb us AA ac PTV CHV w W (b13 + 1) ∧ Row W b13 56 p.cells) (.take 0 (.take 1 (.take 3 (.take 4 (.take 7 (.one 2 (.one 5 (.one 6 (.one 8 (.one 9 (.take 10 (.take 11 (.take 12 (.take 13 (.take 14 .done))))))))))))))) (by kernel_rfl) (by kernel_rfl) (by kernel_rfl) (by kernel_rfl) (by kernel_rfl) ?_;have hC1 : FK K e s b12 g zb us AA ac PTV CHV w w5.drew (b13 + 1) ∧ Row w5.drew b13 56 p.cells := ⟨H5.out.1.next (Below.refl _ w5).drew,H5.out.2⟩;clear H5;generalize w5.drew = w6 at hC1 ⊢;refine wpOTC_take rfl _ (by rfl) (fun _ => rfl) (by intro w' hS;have c12 := hS.1.r12.cell (i := 0) rfl;go_simp;try with_reducible rfl) hC1 fun KK hKK => ?_;go_simp;refine hKK _ ?_;clear hKK KK;refine wpOTC_take rfl _ (by rfl) (fun _ => rfl) (fun w' hS => run_load_exec 56 (.tmp 13) rfl ⟨b13,0,none⟩ (by rfl) p.cells _ (hS.2.load 0 rfl) Tryz.underlying56 (by rfl) (by kernel_rfl)) hC1 fun KK hKK => ?_
 iterate 3 (go_simp;refine hKK _ ?_;clear hKK KK;refine wpOTC_take rfl _ (by rfl) (fun _ => rfl) (by intro w' hS;have c12 := hS.1.r12.cell (i := 0) rfl;go_simp;try with_reducible rfl) hC1 fun KK hKK => ?_)
 go_simp;refine hKK _ ?_;clear hKK KK;refine wpOTC_one _ rfl (by rfl) rfl fun KK hKK => ?_;go_simp;refine ⟨trivial,(callsIn_wide.2 (HNO.out w6 _ g _ AA ac _ _ hC1.1.bel hC1.1.wk hC1.1.lB)).mono ?_⟩;rintro r9 w7 ⟨rfl,hb⟩;have hC2 : FK K e s b12 g zb us AA ac PTV CHV w w7 (b13 + 1) ∧ Row w7 b13 56 p.cells := ⟨hC1.1.next (hb.mono hC1.1.lB),hC1.2.below hb hC1.2.lt⟩;refine hKK _ _ (fun _ _ => hC2) ?_;clear hKK KK hb hC1;refine wpOTC_one _ rfl (by rfl) rfl fun KK hKK => ?_;go_simp;refine ⟨trivial,(callsIn_wide.2 (rows_any _ _ _)).mono ?_⟩;rintro r9 w8 ⟨rfl,hw8⟩;have hb : Below w7.heap.size w7 w8 := by rw [← hw8];exact ((Below.refl _ _).alloc (Nat.le_refl _) _).alloc (by simp) _
 have hq1 : Row w8 w7.heap.size 115 [.pointer (some ⟨g,0,none⟩)] := by rw [← hw8];exact (Row.fresh' _ _ _ rfl).alloc _
 have hq2 : Row w8 (w7.heap.size + 1) 3 [.int .i64 p.k] := by rw [← hw8];exact Row.fresh' _ _ _ (by simp)
 have hq3 : w8.heap.size = w7.heap.size + 1 + 1 := by rw [← hw8];simp
 have hC3 : FK K e s b12 g zb us AA ac PTV CHV w w8 (b13 + 1) ∧ Row w8 b13 56 p.cells := ⟨hC2.1.next (hb.mono hC2.1.lB),hC2.2.below hb hC2.2.lt⟩;refine hKK _ _ (fun _ _ => hC3) ?_;have hRB : RwB e p.k g w7.heap.size (w7.heap.size + 1) w8 w8.heap.size := ⟨⟨_,_,_,_,_,_,hC3.1.wk.row⟩,by have := hC3.1.wk.lt;have := hC3.1.lB;omega,hq1,hq2,by omega,by omega,(HOW.out w8 hC3.1.bel).more (by have := hC3.1.l5;have := hC3.1.lB;omega)⟩;clear hKK KK hb hC2 hw8 hq1 hq2 hq3;refine wpOTC_one _ rfl (by rfl) rfl fun KK hKK => ?_;go_simp;refine ⟨trivial,(callsIn_wide.2 (HCO.out w8 g _ _ hC3.1.bel hRB)).mono ?_⟩;rintro r9 w9 ⟨A,c,rfl,hrd,_,_,hb⟩;rw [HLN.out] at hrd;have hC4 : FK K e s b12 g zb us AA ac PTV CHV w w9 (b13 + 1) ∧ Row w9 b13 56 p.cells := ⟨hC3.1.next (hb.mono hC3.1.lB),hC3.2.below hb hC3.2.lt⟩;refine hKK _ _ (fun _ _ => hC4) ?_;clear hKK KK hb hRB hC3;refine wpOTC_one _ rfl (by rfl) rfl fun KK hKK => ?_;rw [HLN.out];go_simp;refine ⟨trivial,(callsIn_wide.2 (HPI.out w9 b12 g zb AA ac PTV A c (hC4.1.more hC4.1.lB (Nat.le_refl _)) hrd)).mono ?_⟩;rintro r9 w10 ⟨rfl,hb⟩;have hC5 : FK K e s b12 g zb us AA ac PTV CHV w w10 (b13 + 1) ∧ Row w10 b13 56 p.cells := ⟨hC4.1.next (hb.mono hC4.1.lB),hC4.2.below hb hC4.2.lt⟩;refine hKK _ _ (fun _ _ => hC5) ?_;clear hKK KK hb hrd hC4;refine wpOTC_one _ rfl (by rfl) rfl fun KK hKK => ?_;go_simp;refine ⟨trivial,(callsIn_wide.2 (HMU.out w10)).mono ?_⟩;rintro r9 w11 ⟨rfl,rfl⟩;refine hKK _ _ (fun _ _ => hC5) ?_
 iterate 5 (clear hKK KK;refine wpOTC_take rfl _ (by rfl) (fun _ => rfl) (by intro w' hS;skip;go_simp;try with_reducible rfl) hC5 fun KK hKK => ?_;go_simp;refine hKK _ ?_)
 clear hKK KK;refine wpOTC_done ?_;show Kz _ _;refine hKz _ _ ?_;clear hKz Kz;have H10 := Lib.hid (And.intro hC5.1.bel hC5.1.lB);clear hC5
 go_wp2_with fail
 refine (HPW.out w10).mono ?_;rintro r9 w12 ⟨rfl,hb⟩
 have HF : Hid (Below w.heap.size w w12) := by
  show Below _ _ _;rw [HS.out];exact H10.out.1.trans (hb.mono (by have := H10.out.1.size;have := HS.out;omega))
 clear hb;go_wp2;go_ret2;exact ⟨rfl,HF.out⟩
theorem chlEs_ok (r kv : Int) (tx : List Int) (TA : Option Addr) (tn tc : Nat) (hr : 0 ≤ r ∧ r < 2147483579) (hk : 0 ≤ kv ∧ kv < 2147483579) (htl : tx.length ≤ 2000) : (∀ x ∈ [Av.int r,.int kv,.byt TA tn tc tx],leafOk x.tv) ∧ (encL (chlEs r kv tx)).length ≤ 100000 ∧ Byts (encL (chlEs r kv tx)) := by
 have h1 : leafOk (.int r) := leaf_ok_int _ (by omega);have h2 : leafOk (.int kv) := leaf_ok_int _ (by omega);have h3 : leafOk (.txt (toBA tx)) := by show (toBA tx).size ≤ 2000;rw [toBA_size];exact htl
 refine ⟨?_,?_,?_⟩
 ·intro x hx
  rcases List.mem_cons.1 hx with rfl | hx
  ·exact h1
  rcases List.mem_cons.1 hx with rfl | hx
  ·exact h2
  rw [List.mem_singleton.1 hx];exact h3
 ·have g1 := leafE_len h1
  have g2 := leafE_len h2;have g3 := leafE_len h3;have h4 := encL_len (chlEs r kv tx) (by show 3 ≤ 1000;decide)
  have h5 : (chlEs r kv tx).flatten.length ≤ 6033 := by
   show (leafE _ ++ (leafE _ ++ (leafE _ ++ []))).length ≤ 6033;simp only [List.length_append,List.length_nil];omega
  omega
 ·refine byts_encL fun e he => ?_
  simp [chlEs] at he
  rcases he with rfl | rfl | rfl <;> exact byts_leaf _
theorem vlist_any (r kv : Int) (tx : List Int) (TA : Option Addr) (tn tc : Nat) (hr : 0 ≤ r ∧ r < 2147483579) (hk : 0 ≤ kv ∧ kv < 2147483579) (htl : tx.length ≤ 2000) (W : World) (b : Nat) (htx : Rd W W.heap.size 1 TA tn (tx.map (Value.int .u8))) (hb : Row W b 20 ([Av.int r,.int kv,.byt TA tn tc tx].map Av.cell)) :
  Calls Tryz.prog 66 #[.slice (some ⟨b,0,none⟩) 3 3] W fun r' w' => ∃ A c,r' = .returned (.slice A (encL (chlEs r kv tx)).length c) ∧ Rd w' w'.heap.size 1 A (encL (chlEs r kv tx)).length ((encL (chlEs r kv tx)).map (Value.int .u8)) ∧ (encL (chlEs r kv tx)).length ≤ c ∧ c ≤ maxLen ∧ Below W.heap.size W w' := by
 refine slist_any (some ⟨b,0,none⟩) 3 3 [Av.int r,.int kv,.byt TA tn tc tx] W rfl ((rd_rowN hb).more hb.lt) ?_ (by decide) (by decide) (chlEs_ok r kv tx TA tn tc hr hk htl).1 (by intro A n c hm;simp at hm);intro x hx
 rcases List.mem_cons.1 hx with rfl | hx
 ·trivial
 rcases List.mem_cons.1 hx with rfl | hx
 ·trivial
 rw [List.mem_singleton.1 hx];exact htx
theorem verify_any (K : Sh.Cst) (a : Nat) (TA : Option Addr) (tn tc : Nat) (tx : List Int) (sE sS : Int) (w : World) (hE0 : 0 ≤ sE) (hE1 : sE < 1073741789) (hS0 : 0 ≤ sS) (hS1 : sS < 1073741789) (hL : Laid w) (htn : tx.length = tn) (htx : Rd w w.heap.size 1 TA tn (tx.map (Value.int .u8))) (htl : tx.length ≤ 2000)
  (hc : sE = chl K (Gm.pw (sS.toNat + a * (-sE % 1073741789).toNat) : Int) (Gm.pw a : Int) tx) :
  Calls Tryz.prog 16 #[.int .i64 (Gm.pw a : Int),.slice TA tn tc,.agg #[.int .i64 sE,.int .i64 sS]] w fun r w' => r = .returned (.bool true) ∧ Below w.heap.size w w' := by
 obtain ⟨s,hs⟩ : ∃ s,w.heap.size = s := ⟨_,rfl⟩;have HVA : Hid (∀ W,Calls Tryz.prog 62 #[.int .i64 (Gm.pw a : Int)] W fun r w' => r = .returned (.bool true) ∧ W = w') := fun W => valid_any a W;have HP1 : Hid (∀ W,Calls Tryz.prog 64 #[.int .i64 4,.int .i64 sS] W fun r w' => r = .returned (.int .i64 (Gm.pw sS.toNat : Int)) ∧ Below W.heap.size W w') := fun W => spower_four sS W hS0 hS1;have HP2 : Hid (∀ W,Calls Tryz.prog 64 #[.int .i64 (Gm.pw a : Int),.int .i64 (-sE)] W fun r w' => r = .returned (.int .i64 (Gm.pw (a * (-sE % 1073741789).toNat) : Int)) ∧ Below W.heap.size W w') := fun W => spower_any a (-sE) W (by omega) (by omega);have HMU : Hid (∀ W,Calls Tryz.prog 63 #[.int .i64 (Gm.pw sS.toNat : Int),.int .i64 (Gm.pw (a * (-sE % 1073741789).toNat) : Int)] W fun r w' => r = .returned (.tuple #[.int .i64 (Gm.pw (sS.toNat + a * (-sE % 1073741789).toNat) : Int),.int .i64 0]) ∧ W = w') := fun W => mul_gany _ _ W;have hpr := Gm.pw_lt (sS.toNat + a * (-sE % 1073741789).toNat);have hpa := Gm.pw_lt a;have hc0 : sE = chl K (Gm.pw (sS.toNat + a * (-sE % 1073741789).toNat) : Int) (Gm.pw a : Int) tx := hc;have hr0 : 0 ≤ (Gm.pw (sS.toNat + a * (-sE % 1073741789).toNat) : Int) ∧ (Gm.pw (sS.toNat + a * (-sE % 1073741789).toNat) : Int) < 2147483579 := by omega
 have hk0 : 0 ≤ (Gm.pw a : Int) ∧ (Gm.pw a : Int) < 2147483579 := by omega
 clear hc hpr hpa;generalize (Gm.pw (sS.toNat + a * (-sE % 1073741789).toNat) : Int) = RV at HMU hc0 hr0;generalize (Gm.pw (a * (-sE % 1073741789).toNat) : Int) = Y2 at HP2 HMU;generalize (Gm.pw sS.toNat : Int) = Y1 at HP1 HMU;generalize (Gm.pw a : Int) = KV at HVA HP2 hc0 hk0 ⊢
 have HSL : Hid (∀ W b,Below s w W → Row W b 20 ([Av.int RV,.int KV,.byt TA tn tc tx].map Av.cell) → Calls Tryz.prog 66 #[.slice (some ⟨b,0,none⟩) 3 3] W fun r w' => ∃ A c,r = .returned (.slice A (encL (chlEs RV KV tx)).length c) ∧ Rd w' w'.heap.size 1 A (encL (chlEs RV KV tx)).length ((encL (chlEs RV KV tx)).map (Value.int .u8)) ∧ (encL (chlEs RV KV tx)).length ≤ c ∧ c ≤ maxLen ∧ Below W.heap.size W w') := fun W b hW hb => by
  rw [← hs] at hW;exact vlist_any RV KV tx TA tn tc hr0 hk0 htl W b ((htx.below hW).more hW.size) hb
 have hck := chlEs_ok RV KV tx TA tn tc hr0 hk0 htl
 have HHA : Hid (∀ W A c,Below s w W → Rd W W.heap.size 1 A (encL (chlEs RV KV tx)).length ((encL (chlEs RV KV tx)).map (Value.int .u8)) → (encL (chlEs RV KV tx)).length ≤ c → c ≤ maxLen → Calls Tryz.prog 65 #[.string ⟨#[115,105,103,110]⟩,.slice A (encL (chlEs RV KV tx)).length c] W fun r w' => r = .returned (.int .i64 sE) ∧ Below W.heap.size W w') := fun W A c hW hr hc1 hc2 => by
  rw [← hs] at hW;have h9 := ghash_any K ⟨#[115,105,103,110]⟩ A _ c _ W (by decide) hr hck.2.2 hck.2.1 hc1 hc2 (hL.below hW hL.size);rw [hc0];exact h9
 generalize encL (chlEs RV KV tx) = ES at HSL HHA;have HR : Hid (Below s w (w.alloc (.cells #[.int .i64 sE,.int .i64 sS] 67)) ∧ Row (w.alloc (.cells #[.int .i64 sE,.int .i64 sS] 67)) s 67 [.int .i64 sE,.int .i64 sS]) := ⟨by rw [← hs];exact (Below.refl _ w).alloc (Nat.le_refl _) _,Row.fresh' _ _ _ hs⟩;have m1 : decide (min sE sS < 0) = false := decide_eq_false (by omega);have m2 : decide (1073741789 ≤ max sE sS) = false := decide_eq_false (by omega);have m3 : ¬ (sE < 0) := by omega
 have m4 : ¬ (sS < 0) := by omega
 have m5 : ¬ (1073741789 ≤ sE) := by omega
 have m6 : ¬ (1073741789 ≤ sS) := by omega
 have HWR : Hid (IntKind.i64.wrap (-sE) = -sE) := by show _ = _;simp only [IntKind.wrap,IntKind.bits,IntKind.signed];simp;omega
 have HS := Lib.hid hs;clear hL htx htl htn hs hc0 hr0 hk0 hck;go_enter Tryz.func16,Tryz.ntmps16
 go_wp2_with fail
 have hlt := HR.out.2.lt;refine (HVA.out _).mono ?_;rintro r w1 ⟨rfl,rfl⟩
 go_wp2_with fail
 rw [HS.out];generalize w.alloc (.cells #[.int .i64 sE,.int .i64 sS] 67) = w1 at HR hlt ⊢;rename_i Kz hKz;refine wp_region_treeCW (fun (i : Nat) (W : World) => Row W s 67 [.int .i64 sE,.int .i64 sS]) (.take 0 (.take 1 (.take 3 (.take 4 (.take 5 (.take 6 (.one 2 (.one 7 (.one 8 (.take 9 (.take 10 (.take 11 (.take 12 (.take 13 .done)))))))))))))) (by kernel_rfl) (by kernel_rfl) (by kernel_rfl) (by kernel_rfl) (by kernel_rfl) ?_;have hC1 : Row w1.drew s 67 [.int .i64 sE,.int .i64 sS] := HR.out.2;have hBD : Below s w w1.drew := HR.out.1.drew;generalize w1.drew = w2 at hC1 hBD ⊢;have hB1 : Below w2.heap.size w2 w2 := Below.refl _ _
 iterate 6 (refine wpOTC_take rfl _ (by rfl) (fun _ => rfl) (by intro w' hS;have c0 := hS.cell (i := 0) rfl;have c1 := hS.cell (i := 1) rfl;go_simp;try with_reducible rfl) hC1 fun KK hKK => ?_;go_simp;refine hKK _ ?_;clear hKK KK)
 refine wpOTC_one _ rfl (by rfl) rfl fun KK hKK => ?_;go_simp;refine ⟨trivial,(callsIn_wide.2 (HP1.out w2)).mono ?_⟩;rintro r9 w3 ⟨rfl,hb⟩;have hC3 := hC1.below hb hC1.lt;have hB3 := hB1.trans (hb.mono (hB1).size);refine hKK _ _ (fun _ _ => hC3) ?_;clear hKK KK hb;refine wpOTC_one _ rfl (by rfl) rfl fun KK hKK => ?_;go_simp;rw [HWR.out];refine ⟨trivial,(callsIn_wide.2 (HP2.out w3)).mono ?_⟩;rintro r9 w4 ⟨rfl,hb⟩;have hC4 := hC3.below hb hC3.lt;have hB4 := hB3.trans (hb.mono (hB3).size);refine hKK _ _ (fun _ _ => hC4) ?_;clear hKK KK hb
 all_goals (
  have H4 := Lib.hid (And.intro (hBD.trans (hB4.mono (by have := hC1.lt;omega))) hC4);refine wpOTC_one _ rfl (by rfl) rfl fun KK hKK => ?_;go_simp;refine ⟨trivial,(callsIn_wide.2 (HMU.out w4)).mono ?_⟩;rintro r9 w9 ⟨rfl,rfl⟩;refine hKK _ _ (fun _ _ => hC4) ?_
  iterate 5 (clear hKK KK;refine wpOTC_take rfl _ (by rfl) (fun _ => rfl) (by intro w' hS;skip;go_simp;try with_reducible rfl) hC4 fun KK hKK => ?_;go_simp;refine hKK _ ?_)
  clear hKK KK;refine wpOTC_done ?_;show Kz _ _;refine hKz _ _ ?_;clear hKz Kz hC4 hB4 hC1 hB1 hBD
  go_wp2_with fail
  rename_i Kz hKz;refine wp_region_treeCW (fun (i : Nat) (W : World) => Row W s 67 [.int .i64 sE,.int .i64 sS]) (.take 0 (.take 1 (.take 2 (.take 3 (.take 4 (.take 5 (.take 6 (.take 7 (.one 8 (.one 9 (.one 10 (.take 11 (.take 12 .done))))))))))))) (by kernel_rfl) (by kernel_rfl) (by kernel_rfl) (by kernel_rfl) (by kernel_rfl) ?_;have hC6 : Row w4.drew s 67 [.int .i64 sE,.int .i64 sS] := H4.out.2;have hB6 : Below s w w4.drew := H4.out.1.drew;generalize w4.drew = w6 at hC6 hB6 ⊢
  iterate 8 (refine wpOTC_take rfl _ (by rfl) (fun _ => rfl) (by intro w' hS;have c0 := hS.cell (i := 0) rfl;have c1 := hS.cell (i := 1) rfl;go_simp;try with_reducible rfl) hC6 fun KK hKK => ?_;go_simp;refine hKK _ ?_;clear hKK KK)
  refine wpOTC_one _ rfl (by rfl) rfl fun KK hKK => ?_;go_simp;have hC7 := hC6.alloc (.cells ([Av.int RV,.int KV,.byt TA tn tc tx].map Av.cell).toArray 20);have hB7 : Below s w (w6.alloc (.cells ([Av.int RV,.int KV,.byt TA tn tc tx].map Av.cell).toArray 20)) := hB6.alloc (by have := hC6.lt;omega) _;have hr7 := Row.fresh w6 20 ([Av.int RV,.int KV,.byt TA tn tc tx].map Av.cell);refine hKK _ _ (fun _ _ => hC7) ?_;clear hKK KK;refine wpOTC_one _ rfl (by rfl) rfl fun KK hKK => ?_;go_simp;refine ⟨trivial,(callsIn_wide.2 (HSL.out _ _ hB7 hr7)).mono ?_⟩;rintro r9 w8 ⟨A,c,rfl,hrd,hc1,hc2,hb⟩;have hC8 := hC7.below hb hC7.lt;have hB8 := hB7.trans (hb.mono (by have := hC6.lt;simp;omega));refine hKK _ _ (fun _ _ => hC8) ?_;clear hKK KK hb hC7 hB7 hr7 hC6 hB6;refine wpOTC_one _ rfl (by rfl) rfl fun KK hKK => ?_;go_simp;refine ⟨trivial,(callsIn_wide.2 (HHA.out w8 A c hB8 hrd hc1 hc2)).mono ?_⟩;rintro r9 w9 ⟨rfl,hb⟩;have hC9 := hC8.below hb hC8.lt
  have HF : Hid (Below w.heap.size w w9) := by
   show Below _ _ _;rw [HS.out];exact hB8.trans (hb.mono (by have := hC8.lt;omega))
  refine hKK _ _ (fun _ _ => hC9) ?_;clear hKK KK hb hC8 hB8 hrd hc1 hc2
  iterate 2 (refine wpOTC_take rfl _ (by rfl) (fun _ => rfl) (by intro w' hS;skip;go_simp;try with_reducible rfl) hC9 fun KK hKK => ?_;go_simp;refine hKK _ ?_;clear hKK KK)
  refine wpOTC_done ?_;show Kz _ _;refine hKz _ _ ?_;go_wp2;go_ret
  exact ⟨rfl,HF.out⟩)
def fs (zs : List Int) : Nat → Int
 | 0 => 0
 | k + 1 => Fm.ad (fs zs k) (zs.getD k 0)
theorem fs_rng (zs : List Int) (k : Nat) : 0 ≤ fs zs k ∧ fs zs k < 1073741789 := by
 cases k with
 | zero => exact ⟨Int.le_refl 0,by show (0 : Int) < _;decide⟩
 | succ k => exact ⟨Fm.ad_lo _ _,Fm.ad_hi _ _⟩
structure Zs (e : We) (zs : List Int) (ZA : Option Addr) (W : World) (B : Nat) : Prop where
 rd : Rd W B 1 ZA e.ps.length (ivs zs)
 rng : ∀ z ∈ zs,0 ≤ z ∧ z < 1073741789
theorem Zs.len {e : We} {zs : List Int} {ZA : Option Addr} {W : World} {B : Nat} (h : Zs e zs ZA W B) : zs.length = e.ps.length := by have := h.rd.1;simpa using this
theorem Zs.below {e : We} {zs : List Int} {ZA : Option Addr} {W W' : World} {B : Nat} (h : Zs e zs ZA W B) (hb : Below B W W') : Zs e zs ZA W' B := ⟨h.rd.below hb,h.rng⟩
theorem Zs.more {e : We} {zs : List Int} {ZA : Option Addr} {W : World} {B B' : Nat} (h : Zs e zs ZA W B) (hB : B ≤ B') : Zs e zs ZA W B' := ⟨h.rd.more hB,h.rng⟩
theorem Zs.at {e : We} {zs : List Int} {ZA : Option Addr} {W : World} {B : Nat} (h : Zs e zs ZA W B) {j : Nat} (hj : j < e.ps.length) : 0 ≤ zs.getD j 0 ∧ zs.getD j 0 < 1073741789 :=
 h.rng _ (by rw [List.getD_eq_getElem?_getD,List.getElem?_eq_getElem (by rw [h.len];exact hj)];exact List.getElem_mem _)
theorem results_rtt {P : Program} {fn : Func} {p q q2 : Tmp} {ty : TypeId} (h : fn.results = #[.cell p ty,.tmp q,.tmp q2]) (tmps : Array Value) (w : World) (g : Nat) (t : TypeId) (cs : Array Value) (fr : Nat × Nat) (d : TypeDesc)
  (hp : tmps.getD p undef = .pointer (some ⟨g,0,none⟩)) (hg : w.heap[g]? = some (.cells cs t fr))
  (hu : P.underlying ty = some d) (hd : (match d with | .struct _ | .array _ _ => true | _ => false) = true) (hi : (P.info? ty).map (·.size) = some cs.size) :
  (results fn tmps).run P w = .ok (.tuple #[.agg cs,tmps.getD q undef,tmps.getD q2 undef]) w := by
 have hp' : tmps[p]?.getD undef = .pointer (some ⟨g,0,none⟩) := by simpa using hp
 simp [results,h,hp',asAddr,run_loadVar_row w g t ty cs fr d hg hu hd hi]
theorem ccheck1_any (n : Int) (w : World) (h0 : 0 ≤ n) (h1 : n < 1073741789) : Calls Tryz.prog 119 #[.int .i64 n] w fun r w' => r = .returned (.bool false) ∧ w = w' := by
 have a0 : decide (n < 0) = false := decide_eq_false (by omega);have a1 : decide (1073741789 ≤ n) = false := decide_eq_false (by omega);go_enter Tryz.func119,Tryz.ntmps119;go_wp2;go_ret;exact ⟨rfl,rfl⟩
theorem ccheck_any (K : Sh.Cst) (e : We) (us : List Int) (zs : List Int) (ZA : Option Addr) (zc : Nat) (w : World) (h : e.ok w w.heap.size) (hacc : AccR e.ky.N e.ky.ds e.ky.P (e.ps.map Pr.k) true us) (hz : Zs e zs ZA w w.heap.size) :
  Calls Tryz.prog 56 #[.agg #[.int .i64 0,.slice e.ky.RA e.ky.P.length e.ky.rc,.slice e.ky.OA e.ky.P.length e.ky.oc,.slice e.ky.CA e.ky.N e.ky.cc],.slice e.TA e.tx.length e.tc,.slice e.PA e.ps.length e.pc,.slice ZA e.ps.length zc] w fun r w' => r = .returned (.tuple #[.int .i64 (chv K e),.int .i64 0]) ∧ Below w.heap.size w w' := by
 obtain ⟨s,hs⟩ : ∃ s,w.heap.size = s := ⟨_,rfl⟩;obtain ⟨w0,hw0⟩ : ∃ w0,w.alloc (.cells #[.int .i64 0,.slice e.ky.RA e.ky.P.length e.ky.rc,.slice e.ky.OA e.ky.P.length e.ky.oc,.slice e.ky.CA e.ky.N e.ky.cc] 45) = w0 := ⟨_,rfl⟩;have hb0 : Below s w w0 := by rw [← hw0,← hs];exact (Below.refl _ w).alloc (Nat.le_refl _) _
 have hs0 : s ≤ w0.heap.size := by rw [← hw0,World.size_alloc];omega
 have HBI : Hid (Calls Tryz.prog 118 #[.agg #[.int .i64 0,.slice e.ky.RA e.ky.P.length e.ky.rc,.slice e.ky.OA e.ky.P.length e.ky.oc,.slice e.ky.CA e.ky.N e.ky.cc],.slice e.TA e.tx.length e.tc,.slice e.PA e.ps.length e.pc] w0 fun r w' => (∃ v,r = .returned (.tuple #[v,.int .i64 (ptv K e),.int .i64 (chv K e),.int .i64 0])) ∧ Below w0.heap.size w0 w') := pbindall_any K e us w0 (h.go hs hb0) hacc
 have HCF : Hid (∀ W,Below s w W → Calls Tryz.prog 79 #[.slice ZA e.ps.length zc,.func (.func 119) #[] #[]] W fun r w' => r = .returned (.bool false) ∧ W = w') := fun W hW => by
  refine noC_any 119 (fun _ _ => rfl) ZA _ zc (by have := h.pl;omega) (fun j => zs.getD j 0) (fun _ V => W = V) W rfl (fun h0 => ?_) (fun j hj V hV => ?_)
  ·obtain ⟨_,b,o,e1,_,hc⟩ := i64at hz.rd h0
   refine ⟨b,o,e1,fun j hj V hV => ?_⟩;subst hV;exact hc j hj _ (by rw [hs];exact hW)
  ·subst hV
   have := hz.at hj;exact ccheck1_any _ _ this.1 this.2
 have HB0 := Lib.hid (And.intro hb0 hs0);have HW0 := Lib.hid hw0;have HS := Lib.hid hs;generalize chv K e = CHV at HBI ⊢;clear h hacc hz hb0 hs0 hw0 hs;go_enter Tryz.func56,Tryz.ntmps56
 go_wp2_with fail
 rw [HW0.out];refine HBI.out.mono ?_;rintro r w1 ⟨⟨v,rfl⟩,hb1⟩;have HB1 : Hid (Below s w w1) := HB0.out.1.trans (hb1.mono HB0.out.2);clear hb1
 go_wp2_with fail
 refine (HCF.out w1 HB1.out).mono ?_;rintro r w2 ⟨rfl,rfl⟩;go_wp2;go_ret2;exact ⟨rfl,by rw [HS.out];exact HB1.out⟩
theorem csum1_any (a b : Int) (w : World) : Calls Tryz.prog 57 #[.int .i64 a,.int .i64 b] w fun r w' => r = .returned (.int .i64 (Fm.ad a b)) ∧ Below w.heap.size w w' := by
 go_enter Tryz.func57,Tryz.ntmps57
 go_wp2_with fail
 refine (add_any _ _ _).mono ?_;rintro r w1 ⟨rfl,hw1⟩;have HB : Hid (Below w.heap.size w w1) := by show Below _ _ _;rw [← hw1];exact (Below.refl _ _).alloc (Nat.le_refl _) _
 clear hw1;go_wp2;go_ret;exact ⟨rfl,HB.out⟩
theorem fold_any (zs : List Int) (ZA : Option Addr) (n zc : Nat) (w : World) (hr : Rd w w.heap.size 1 ZA n (ivs zs)) (hn : n ≤ 4096) :
  Calls Tryz.prog 58 #[.slice ZA n zc,.int .i64 0,.func (.func 57) #[] #[]] w fun r w' => r = .returned (.int .i64 (fs zs n)) ∧ Below w.heap.size w w' := by
 obtain ⟨s,hs⟩ : ∃ s,w.heap.size = s := ⟨_,rfl⟩
 have HA : Hid (0 < n → ∃ b o,ZA = some ⟨b,o,none⟩ ∧ ∀ j,j < n → ∀ W,Below s w W → W.cell? ⟨b,o + j,none⟩ = some (.int .i64 (zs.getD j 0))) := fun h0 => by
  obtain ⟨_,b,o,e1,_,hc⟩ := i64at hr h0;exact ⟨b,o,e1,fun j hj W hW => hc j hj W (by rw [hs];exact hW)⟩
 have HS := Lib.hid hs;rw [hs];clear hr hs;go_enter Tryz.func58,Tryz.ntmps58
 go_wp2_with fail
 go_loopw [1,11] (fun t i wr => ∃ k : Nat,k ≤ n ∧ i = .int .i64 k ∧ t = .int .i64 (fs zs k) ∧ Below s w wr) (fun _ i _ => n - (intOf i).toNat)
 case atStart => exact ⟨0,Nat.zero_le _,rfl,rfl,by rw [← HS.out];exact Below.refl _ _⟩
 case round =>
  obtain ⟨k,hk,rfl,rfl,hb⟩ := hrel;have HB := Lib.hid hb;clear hb
  by_cases hlt : k < n
  ·have k1 : (k : Int) < (n : Int) := by omega
   have k0 : (0 : Int) ≤ (k : Int) := by omega
   obtain ⟨b,o,hA1,hcc⟩ := HA.out (by omega);subst hA1;have q0 := hcc k hlt wr HB.out;have HN : Hid (fs zs (k + 1) = Fm.ad (fs zs k) (zs.getD k 0)) := rfl;generalize zs.getD k 0 = X at q0 HN;generalize fs zs k = T at HN ⊢;clear hcc
   go_wp2_with fail
   refine (csum1_any _ _ _).mono ?_;rintro r w1 ⟨rfl,hb⟩;have HB1 : Hid (Below s w w1) := HB.out.trans (hb.mono (by have := HB.out.size;have := HS.out;omega));clear hb q0
   go_wp2_with fail
   go_roundw
   case rel => exact ⟨k + 1,by omega,by go_num,by rw [HN.out],HB1.out⟩
   case measure => simp [intOf];omega
  ·obtain rfl : k = n := by omega
   go_wp2;go_ret;exact ⟨rfl,HB.out⟩
theorem combine47_any (K : Sh.Cst) (e : We) (us : List Int) (zs : List Int) (ZA : Option Addr) (zc : Nat) (w : World) (h : e.ok w w.heap.size) (hacc : AccR e.ky.N e.ky.ds e.ky.P (e.ps.map Pr.k) true us) (hz : Zs e zs ZA w w.heap.size)
  (hc0 : 0 ≤ chv K e) (hc1 : chv K e < 1073741789) (hv : chv K e = chl K (Gm.pw ((fs zs e.ps.length).toNat + (e.ky.xs.getD 0 0).toNat * (-(chv K e) % 1073741789).toNat) : Int) (Gm.pw (e.ky.xs.getD 0 0).toNat : Int) e.tx) :
  Calls Tryz.prog 14 #[.agg #[.int .i64 0,.slice e.ky.RA e.ky.P.length e.ky.rc,.slice e.ky.OA e.ky.P.length e.ky.oc,.slice e.ky.CA e.ky.N e.ky.cc],.slice e.TA e.tx.length e.tc,.slice e.PA e.ps.length e.pc,.slice ZA e.ps.length zc] w fun r w' => r = .returned (.tuple #[.agg #[.int .i64 (chv K e),.int .i64 (fs zs e.ps.length)],.bool true,.int .i64 0]) ∧ Below w.heap.size w w' := by
 obtain ⟨s,hs⟩ : ∃ s,w.heap.size = s := ⟨_,rfl⟩;obtain ⟨w0,hw0⟩ : ∃ w0,(w.alloc (.cells #[.int .i64 0,.slice e.ky.RA e.ky.P.length e.ky.rc,.slice e.ky.OA e.ky.P.length e.ky.oc,.slice e.ky.CA e.ky.N e.ky.cc] 45)).alloc (.cells #[.int .i64 0,.int .i64 0] 67) = w0 := ⟨_,rfl⟩;have hb0 : Below s w w0 := by rw [← hw0,← hs];exact ((Below.refl _ w).alloc (Nat.le_refl _) _).alloc (by simp) _
 have hs0 : w0.heap.size = s + 2 := by rw [← hw0];simp [hs]
 have hr0 : Row w0 s 45 [.int .i64 0,.slice e.ky.RA e.ky.P.length e.ky.rc,.slice e.ky.OA e.ky.P.length e.ky.oc,.slice e.ky.CA e.ky.N e.ky.cc] := by rw [← hw0];exact (Row.fresh' _ _ _ hs).alloc _
 have hr1 : Row w0 (s + 1) 67 [.int .i64 0,.int .i64 0] := by rw [← hw0];exact Row.fresh' _ _ _ (by simp [hs])
 have hfs := fs_rng zs e.ps.length
 have HCK : Hid (∀ W,Below s w W → Calls Tryz.prog 56 #[.agg #[.int .i64 0,.slice e.ky.RA e.ky.P.length e.ky.rc,.slice e.ky.OA e.ky.P.length e.ky.oc,.slice e.ky.CA e.ky.N e.ky.cc],.slice e.TA e.tx.length e.tc,.slice e.PA e.ps.length e.pc,.slice ZA e.ps.length zc] W fun r w' => r = .returned (.tuple #[.int .i64 (chv K e),.int .i64 0]) ∧ Below W.heap.size W w') := fun W hW =>
  ccheck_any K e us zs ZA zc W (h.go hs hW) hacc (by rw [← hs] at hW;exact (hz.below hW).more hW.size)
 have HFO : Hid (∀ W,Below s w W → Calls Tryz.prog 58 #[.slice ZA e.ps.length zc,.int .i64 0,.func (.func 57) #[] #[]] W fun r w' => r = .returned (.int .i64 (fs zs e.ps.length)) ∧ Below W.heap.size W w') := fun W hW =>
  fold_any zs ZA _ zc W (by rw [← hs] at hW;exact (hz.rd.below hW).more hW.size) (by have := h.pl;omega)
 have HVE : Hid (∀ W,Below s w W → Calls Tryz.prog 16 #[.int .i64 e.c0,.slice e.TA e.tx.length e.tc,.agg #[.int .i64 (chv K e),.int .i64 (fs zs e.ps.length)]] W fun r w' => r = .returned (.bool true) ∧ Below W.heap.size W w') := fun W hW => by
  have h2 := h.go hs hW;exact verify_any K (e.ky.xs.getD 0 0).toNat e.TA _ e.tc e.tx (chv K e) (fs zs e.ps.length) W hc0 hc1 hfs.1 hfs.2 h2.la rfl h2.tx h2.tl hv
 have HC0 : Hid (∃ b o,e.ky.CA = some ⟨b,o,none⟩ ∧ ∀ W,Below s w W → W.cell? ⟨b,o,none⟩ = some (.int .i64 e.c0)) := by
  have hN := h.ky.n0;obtain ⟨_,b0,o0,eCA,_,hcc⟩ := i64at (k := 0) h.ky.com (by omega);refine ⟨b0,o0,eCA,fun W hW => ?_⟩;have h1 := hcc 0 (by omega) W (by rw [hs];exact hW);rw [cms_get _ (by omega)] at h1;exact h1
 have HN0 : Hid (0 < e.ky.N) := by have := h.ky.n0;show 0 < _;omega
 have HB0 := Lib.hid (And.intro hb0 (And.intro hr0 (And.intro hr1 hs0)));have HW0 := Lib.hid hw0;have HS := Lib.hid hs;generalize chv K e = CHV at HCK HVE ⊢;generalize fs zs e.ps.length = SV at HFO HVE ⊢;generalize e.c0 = c0 at HVE HC0;clear h hacc hz hc0 hc1 hv hb0 hr0 hr1 hs0 hw0 hs hfs;go_enter Tryz.func14,Tryz.ntmps14
 go_wp2_with fail
 rw [HW0.out,HS.out];refine (HCK.out w0 HB0.out.1).mono ?_;rintro r w1 ⟨rfl,hb⟩;rw [HB0.out.2.2.2] at hb;have H1 : Hid (Below s w w1 ∧ Row w1 s 45 [.int .i64 0,.slice e.ky.RA e.ky.P.length e.ky.rc,.slice e.ky.OA e.ky.P.length e.ky.oc,.slice e.ky.CA e.ky.N e.ky.cc] ∧ Row w1 (s + 1) 67 [.int .i64 0,.int .i64 0] ∧ s + 2 ≤ w1.heap.size) := ⟨HB0.out.1.trans (hb.mono (by omega)),HB0.out.2.1.below hb (by omega),HB0.out.2.2.1.below hb (by omega),by have := hb.size;rw [HB0.out.2.2.2] at this;exact this⟩;clear hb
 go_wp2_with fail
 refine (HFO.out w1 H1.out.1).mono ?_;rintro r w2 ⟨rfl,hb⟩;obtain ⟨b13,hb13⟩ : ∃ b,w2.heap.size = b := ⟨_,rfl⟩;have hl13 : s + 2 ≤ b13 := by rw [← hb13];exact Nat.le_trans H1.out.2.2.2 hb.size
 have H2 : Hid (Below s w (w2.alloc (.cells #[.int .i64 CHV,.int .i64 SV] 67)) ∧ Row (w2.alloc (.cells #[.int .i64 CHV,.int .i64 SV] 67)) s 45 [.int .i64 0,.slice e.ky.RA e.ky.P.length e.ky.rc,.slice e.ky.OA e.ky.P.length e.ky.oc,.slice e.ky.CA e.ky.N e.ky.cc] ∧ Row (w2.alloc (.cells #[.int .i64 CHV,.int .i64 SV] 67)) (s + 1) 67 [.int .i64 0,.int .i64 0] ∧ Row (w2.alloc (.cells #[.int .i64 CHV,.int .i64 SV] 67)) b13 67 [.int .i64 CHV,.int .i64 SV]) :=
  ⟨(H1.out.1.trans (hb.mono (by have := H1.out.2.2.2;omega))).alloc (by omega) _,(H1.out.2.1.below hb (by have := H1.out.2.2.2;omega)).alloc _,(H1.out.2.2.1.below hb (by have := H1.out.2.2.2;omega)).alloc _,Row.fresh' _ _ _ hb13⟩
 have HB13 := Lib.hid hb13;clear hb hb13
 go_wp2_with fail
 rw [HB13.out];generalize w2.alloc (.cells #[.int .i64 CHV,.int .i64 SV] 67) = w3 at H2 ⊢;obtain ⟨b0,o0,eCA,hc0⟩ := HC0.out;have c3 := H2.out.2.1.cell (i := 3) rfl;rw [eCA] at c3;have cc := hc0 w3 H2.out.1;have d0 := H2.out.2.2.2.cell (i := 0) rfl;have d1 := H2.out.2.2.2.cell (i := 1) rfl;have hN2 := HN0.out;have hN1 : (0 : Int) < (e.ky.N : Int) := by omega
 go_still_tail 6,(by kernel_rfl)
 change wpList _ _ _ _ _ w3.drew;have H3 : Hid (Below s w w3.drew ∧ Row w3.drew (s + 1) 67 [.int .i64 0,.int .i64 0] ∧ Row w3.drew b13 67 [.int .i64 CHV,.int .i64 SV]) := ⟨H2.out.1.drew,H2.out.2.2.1,H2.out.2.2.2⟩;clear c3 cc d0 d1 H2;generalize w3.drew = w4 at H3 ⊢
 go_wp2_with fail
 refine (HVE.out w4 H3.out.1).mono ?_;rintro r w5 ⟨rfl,hb⟩;have hr5 := H3.out.2.1.below hb H3.out.2.1.lt;have hr6 := H3.out.2.2.below hb H3.out.2.2.lt;have d0 := hr6.cell (i := 0) rfl;have d1 := hr6.cell (i := 1) rfl;have x0 := hr5.cell (i := 0) rfl;have x1 := hr5.cell (i := 1) rfl;have f0 := hr5.fz 0;have f1 := hr5.fz 1;have hr9 := (hr5.put 0 (.int .i64 CHV)).put 1 (.int .i64 SV);have hb9 : Below s w ((w5.setCell ⟨s + 1,0,none⟩ (.int .i64 CHV)).setCell ⟨s + 1,1,none⟩ (.int .i64 SV)) := ((H3.out.1.trans (hb.mono (by have := H3.out.2.1.lt;omega))).setCell (p := ⟨s + 1,0,none⟩) (Nat.le_succ s) _).setCell (p := ⟨s + 1,1,none⟩) (Nat.le_succ s) _;have H9 := Lib.hid (And.intro hr9 hb9);clear hb hr5 hr6 hr9 hb9;go_wp2;refine bodyPost_ret (results_rtt (p := 8) (q := 9) (q2 := 10) rfl _ _ (s + 1) 67 _ (0,0) _ (by rfl) H9.out.1 Tryz.underlying67 (by rfl) (by kernel_rfl)) rfl ⟨rfl,by rw [HS.out];exact H9.out.2⟩
end Go.Proofs.YtifejdpffkeniaaGreatDoor
