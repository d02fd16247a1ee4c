import Derived.Laws.BytesString
import Derived.Test.YtifejdpffkeniaaGreatDoorS16
import Derived.Test.YtifejdpffkeniaaGreatDoorS09
set_option linter.unusedVariables false
set_option maxRecDepth 100000
set_option maxHeartbeats 40000000
namespace Go.Proofs.YtifejdpffkeniaaGreatDoor
open Go.RowKit
attribute [local go_sem] Oper.semAt_some
def shr (ds : List (List Int)) (xs : List Int) (i : Nat) : Int := tm (ds.getD i []) xs xs.length
def shc (ds : List (List Int)) (xs : List Int) (k : Nat) : List Value := (List.range k).flatMap fun i : Nat => [.int .i64 (i : Int),.int .i64 (shr ds xs i)]
theorem shc_next (ds : List (List Int)) (xs : List Int) (k : Nat) : shc ds xs (k + 1) = shc ds xs k ++ [.int .i64 (k : Int),.int .i64 (shr ds xs k)] := by
 unfold shc;rw [List.range_succ,List.flatMap_append];simp
def cm (xs : List Int) (j : Nat) : Int := (Gm.pw (xs.getD j 0).toNat : Int)
def cms (xs : List Int) (k : Nat) : List Int := (List.range k).map (cm xs)
theorem cms_next (xs : List Int) (k : Nat) : cms xs (k + 1) = cms xs k ++ [cm xs k] := by
 unfold cms;rw [List.range_succ,List.map_append];simp
def DealQ (ds : List (List Int)) (xs : List Int) (n N : Nat) (w : World) (r : Ending) (w' : World) : Prop :=
 (∃ A c A2 c2,r = .returned (.tuple #[.slice A n c,.slice A2 N c2,.int .i64 0]) ∧ Rd w' w'.heap.size 2 A n (shc ds xs n) ∧ n ≤ c ∧ c ≤ maxLen ∧ Rd w' w'.heap.size 1 A2 N (ivs (cms xs N)) ∧ N ≤ c2 ∧ c2 ≤ maxLen) ∧ Below w.heap.size w w'
theorem one2 (a b : Int) : ∀ u ∈ [Value.int .i64 a,Value.int .i64 b],u.oneCell' = true := by
 intro u hu;simp at hu
 rcases hu with rfl | rfl <;> rfl
theorem check01_any (N : Nat) (P : List Int) (RA : Option Addr) (rc : Nat) (OA : Option Addr) (oc : Nat) (rs : List RI) (w : World) (h : Prg w w.heap.size N P RA rc OA oc rs) (hP : ∀ p ∈ P,0 ≤ p ∧ p < 64) (hN0 : 1 ≤ N) (hN : N ≤ 64) (hn : P.length ≤ 64) :
  Calls Tryz.prog 26 #[(.agg #[.slice RA P.length rc,.slice OA P.length oc])] w fun r w' => r = .returned (.int .i64 0) ∧ Below w.heap.size w w' := by
 have hb : Below w.heap.size w (w.alloc (.cells #[.slice RA P.length rc,.slice OA P.length oc] 25)) := (Below.refl _ w).alloc (Nat.le_refl _) _
 cases P with
 | nil => exact (pcheck0_any RA rc OA oc w).mono (by rintro r w' ⟨e,rfl⟩;exact ⟨e,hb⟩)
 | cons p l => exact (pcheck_any N (p :: l) RA rc OA oc rs w h (by simp) hP hN0 hN hn).mono (by rintro r w' ⟨e,rfl⟩;exact ⟨e,hb⟩)
theorem deal_any (N : Nat) (P : List Int) (RA : Option Addr) (rc : Nat) (OA : Option Addr) (oc : Nat) (rs : List RI) (x0 : Int) (R : List Int) (A0 : Option Addr) (c0 : Nat) (w : World)
  (h : Prg w w.heap.size N P RA rc OA oc rs) (h0 : P = [] → N = 1) (hP : ∀ p ∈ P,0 ≤ p ∧ p < 64) (hN0 : 1 ≤ N) (hN : N ≤ 60) (hn : P.length ≤ 60)
  (hx : 0 ≤ x0 ∧ x0 < 1073741789) (hR : ∀ x ∈ R,0 ≤ x ∧ x < 1073741789) (hr : Rd w w.heap.size 1 A0 R.length (ivs R)) (hl : R.length + 1 = N) :
  Calls Tryz.prog 6 #[(.agg #[.slice RA P.length rc,.slice OA P.length oc]),.int .i64 x0,.slice A0 R.length c0] w (DealQ (rs.map RI.d) (x0 :: R) P.length N w) := by
 obtain ⟨s,hs⟩ : ∃ s,w.heap.size = s := ⟨_,rfl⟩;obtain ⟨xs,hxs⟩ : ∃ xs,x0 :: R = xs := ⟨_,rfl⟩;have hxl : xs.length = N := by rw [← hxs];simpa using hl
 have hxr : ∀ x ∈ xs,0 ≤ x ∧ x < 1073741789 := by
  rw [← hxs];intro x hxm
  rcases List.mem_cons.1 hxm with e | e
  ·rw [e];exact hx
  ·exact hR x e
 have hsz : ∀ W,Below s w W → s ≤ W.heap.size := fun W hW => by have := hW.size;rw [hs] at this;exact this
 have HCK : Hid (∀ W,Below s w W → Calls Tryz.prog 26 #[(.agg #[.slice RA P.length rc,.slice OA P.length oc])] W fun r w' => r = .returned (.int .i64 0) ∧ Below W.heap.size W w') := fun W hW =>
  check01_any N P RA rc OA oc rs W ((h.below (by rw [hs];exact hW)).more hW.size) hP hN0 (by omega) (by omega)
 have HCO : Hid (∀ W,Below s w W → Calls Tryz.prog 28 #[(.agg #[.slice RA P.length rc,.slice OA P.length oc])] W fun r w' => r = .returned (.int .i64 N) ∧ Below W.heap.size W w') := fun W hW =>
  columns_any N P RA rc OA oc rs W ((h.below (by rw [hs];exact hW)).more hW.size) h0 (by omega) (by omega)
 have HN1 : Hid (∀ W b,Below s w W → Row W b 3 [.int .i64 x0] → Calls Tryz.prog 27 #[.slice (some ⟨b,0,none⟩) 1 1] W fun r w' => r = .returned (.bool true) ∧ W = w') := fun W b hW hb =>
  numbersD_any _ 1 1 [x0] W ((rd_rowU hb).more hb.lt) (by decide) (by intro x hxm;simp at hxm;rw [hxm];exact hx)
 have HN2 : Hid (∀ W,Below s w W → Calls Tryz.prog 27 #[.slice A0 R.length c0] W fun r w' => r = .returned (.bool true) ∧ W = w') := fun W hW =>
  numbersD_any _ _ _ R W ((hr.below (by rw [hs];exact hW)).more hW.size) (by omega) hR
 have HCC : Hid (∀ W g b,Below s w W → Row W b 3 [.int .i64 x0] → Row W g 23 [.slice (some ⟨b,0,none⟩) 1 1,.slice A0 R.length c0] → Calls Tryz.prog 29 #[.slice (some ⟨g,0,none⟩) 2 2] W fun r w' => ∃ A c,r = .returned (.slice A N c) ∧ Rd w' w'.heap.size 1 A N (ivs xs) ∧ Below W.heap.size W w') := fun W g b hW hb hg => by
  refine (concatI2 g _ _ 1 R.length 1 c0 [x0] R W (hg.cell (i := 0) rfl) (hg.cell (i := 1) rfl) ((rd_rowU hb).more hb.lt) ((hr.below (by rw [hs];exact hW)).more hW.size) (by omega) (by omega) hg.lt).mono ?_;rintro r w' ⟨A,c,e,hr',_,_,hb'⟩;have e2 : ([x0] ++ R) = xs := hxs;rw [e2,hxl] at hr';refine ⟨A,c,?_,hr',hb'⟩;rw [e,e2,hxl]
 have HTM : Hid (∀ (k : Nat) W A c,k < P.length → Below s w W → Rd W W.heap.size 1 A N (ivs xs) → ∃ b o Ak ck,RA = some ⟨b,o,none⟩ ∧ W.cell? ⟨b,o + k,none⟩ = some (.slice Ak N ck) ∧ Calls Tryz.prog 30 #[.slice Ak N ck,.slice A N c] W fun r w' => r = .returned (.int .i64 (shr (rs.map RI.d) xs k)) ∧ Below W.heap.size W w') := fun k W A c hk hW hrd => by
  have hk' : k < rs.length := by rw [h.len];exact hk
  obtain ⟨b,o,e,_,hc⟩ := h.rd.at (by omega);obtain ⟨hm,hm2⟩ := getD_mem' hk';have hrow := ((h.rd.rows _ hm).below (by rw [hs];exact hW)).more hW.size;have hln := (h.dat _ hm).len;have q := hc k hk' W (by rw [hs];exact hW);rw [RI.cell_eq,hln] at q;refine ⟨b,o,_,_,e,q,?_⟩
  have e2 : shr (rs.map RI.d) xs k = tm (rs.getD k r0).d xs N := by
   unfold shr;rw [hxl]
   congr 1
   rw [List.getD_eq_getElem?_getD,List.getElem?_map,hm2];rfl
  rw [e2];have h9 := hrow.1;rw [hln] at h9;exact times_any _ N _ (rs.getD k r0).d A N c xs W h9 hrd (Nat.le_refl _) (by omega)
 have HPW : Hid (∀ (j : Nat) W,j < N → Below s w W → Calls Tryz.prog 31 #[.int .i64 4,.int .i64 (xs.getD j 0)] W fun r w' => r = .returned (.tuple #[.int .i64 (cm xs j),.int .i64 0]) ∧ Below W.heap.size W w') := fun j W hj hW => by
  have hj' : j < xs.length := by omega
  have e : xs.getD j 0 = xs[j] := by rw [List.getD_eq_getElem?_getD,List.getElem?_eq_getElem hj'];rfl
  have hr2 := hxr _ (List.getElem_mem hj');rw [← e] at hr2;exact four_pow_any _ W hr2.1 hr2.2
 have HDQ : Hid (∀ r w',(∃ A c A2 c2,r = .returned (.tuple #[.slice A P.length c,.slice A2 N c2,.int .i64 0]) ∧ Rd w' w'.heap.size 2 A P.length (shc (rs.map RI.d) xs P.length) ∧ P.length ≤ c ∧ c ≤ maxLen ∧ Rd w' w'.heap.size 1 A2 N (ivs (cms xs N)) ∧ N ≤ c2 ∧ c2 ≤ maxLen) → Below s w w' → DealQ (rs.map RI.d) xs P.length N w r w') := fun r w' h1 h2 => ⟨h1,by rw [hs];exact h2⟩;rw [hxs];generalize hQQ : DealQ (rs.map RI.d) xs P.length N w = QQ at HDQ ⊢;generalize rs.map RI.d = ds at HTM HDQ;have HB0 : Hid (Below s w (w.alloc (.cells #[.slice RA P.length rc,.slice OA P.length oc] 25)) ∧ Row (w.alloc (.cells #[.slice RA P.length rc,.slice OA P.length oc] 25)) s 25 [.slice RA P.length rc,.slice OA P.length oc]) := ⟨by rw [← hs];exact (Below.refl _ w).alloc (Nat.le_refl _) _,Row.fresh' _ _ _ hs⟩;have HSZ := Lib.hid hsz;have hlN : (R.length : Int) = (N : Int) - 1 := by omega
 generalize P.length = n at *;generalize R.length = m at *;have HS := Lib.hid hs;clear h h0 hP hr hxs hxl hxr hsz hQQ hR hx hs hl;go_enter Tryz.func6,Tryz.ntmps6
 go_wp2_with fail
 rw [HS.out];generalize (w.alloc (.cells #[.slice RA n rc,.slice OA n oc] 25)) = w0 at HB0 ⊢;have p0 := HB0.out.2.cell (i := 0) rfl;have p1 := HB0.out.2.cell (i := 1) rfl
 go_wp2_with fail
 refine (HCK.out w0 HB0.out.1).mono ?_;rintro r w1 ⟨rfl,hb1⟩;have HB1 : Hid (Below s w w1 ∧ Row w1 s 25 [.slice RA n rc,.slice OA n oc]) := ⟨HB0.out.1.trans (hb1.mono (HSZ.out _ HB0.out.1)),HB0.out.2.below hb1 HB0.out.2.lt⟩;clear hb1 HB0 p0 p1
 go_wp2_with fail
 have hb2 : Below s w (w1.alloc (.cells #[.int .i64 x0] 3)) := HB1.out.1.alloc (HSZ.out _ HB1.out.1) _;have HB2 : Hid (Below s w (w1.alloc (.cells #[.int .i64 x0] 3)) ∧ Row (w1.alloc (.cells #[.int .i64 x0] 3)) s 25 [.slice RA n rc,.slice OA n oc] ∧ Row (w1.alloc (.cells #[.int .i64 x0] 3)) w1.heap.size 3 [.int .i64 x0]) := ⟨hb2,HB1.out.2.alloc _,Row.fresh' _ _ _ rfl⟩;clear HB1 hb2;generalize w1.heap.size = b at HB2 ⊢;generalize w1.alloc (.cells #[.int .i64 x0] 3) = w2 at HB2 ⊢;refine (HN1.out w2 b HB2.out.1 HB2.out.2.2).mono ?_;rintro r w3 ⟨rfl,rfl⟩
 go_wp2_with fail
 refine (HN2.out w2 HB2.out.1).mono ?_;rintro r w3 ⟨rfl,rfl⟩;have p0 := HB2.out.2.1.cell (i := 0) rfl;have p1 := HB2.out.2.1.cell (i := 1) rfl
 go_wp2_with fail
 refine (HCO.out w2 HB2.out.1).mono ?_;rintro r w3 ⟨rfl,hb3⟩;have HB3 : Hid (Below s w w3 ∧ Row w3 s 25 [.slice RA n rc,.slice OA n oc]) := ⟨HB2.out.1.trans (hb3.mono (HSZ.out _ HB2.out.1)),HB2.out.2.1.below hb3 HB2.out.2.1.lt⟩;clear hb3 HB2 p0 p1;have hN9 : (N : Int) ≤ 60 := by omega
 have hN8 : (1 : Int) ≤ (N : Int) := by omega
 have hmN : ((m : Int) != (N : Int) - 1) = false := by rw [hlN];simp
 go_wp2_with fail
 have hb5 : Below s w ((w3.alloc (.cells #[.int .i64 x0] 3)).alloc (.cells #[.slice (some ⟨w3.heap.size,0,none⟩) 1 1,.slice A0 m c0] 23)) := (HB3.out.1.alloc (HSZ.out _ HB3.out.1) _).alloc (by have := HSZ.out _ HB3.out.1;simp;omega) _;have hr5 : Row ((w3.alloc (.cells #[.int .i64 x0] 3)).alloc (.cells #[.slice (some ⟨w3.heap.size,0,none⟩) 1 1,.slice A0 m c0] 23)) w3.heap.size 3 [.int .i64 x0] := (Row.fresh' _ _ _ rfl).alloc _;have hg5 : Row ((w3.alloc (.cells #[.int .i64 x0] 3)).alloc (.cells #[.slice (some ⟨w3.heap.size,0,none⟩) 1 1,.slice A0 m c0] 23)) (w3.heap.size + 1) 23 [.slice (some ⟨w3.heap.size,0,none⟩) 1 1,.slice A0 m c0] := Row.fresh' _ _ _ (by simp);have HB5 := Lib.hid (And.intro hb5 (And.intro ((HB3.out.2.alloc (.cells #[.int .i64 x0] 3)).alloc (.cells #[.slice (some ⟨w3.heap.size,0,none⟩) 1 1,.slice A0 m c0] 23)) (And.intro hr5 hg5)));clear hb5 hr5 hg5 HB3;generalize ((w3.alloc (.cells #[.int .i64 x0] 3)).alloc (.cells #[.slice (some ⟨w3.heap.size,0,none⟩) 1 1,.slice A0 m c0] 23)) = w5 at HB5 ⊢;generalize w3.heap.size = b3 at HB5 ⊢;refine (HCC.out w5 _ _ HB5.out.1 HB5.out.2.2.1 HB5.out.2.2.2).mono ?_;rintro r w6 ⟨XA,xc,rfl,hxr,hb6⟩;have HB6 : Hid (Below s w w6 ∧ Row w6 s 25 [.slice RA n rc,.slice OA n oc] ∧ Rd w6 w6.heap.size 1 XA N (ivs xs)) := ⟨HB5.out.1.trans (hb6.mono (HSZ.out _ HB5.out.1)),HB5.out.2.1.below hb6 HB5.out.2.1.lt,hxr⟩;clear hb6 HB5 hxr HCC HN1 HN2 HCO HCK hlN hmN;have p0 := HB6.out.2.1.cell (i := 0) rfl
 go_wp2_with fail
 clear p0
 go_loopw [6,47] (fun l i wr => ∃ (k : Nat) (A : Option Addr) (c : Nat),k ≤ n ∧ i = .int .i64 k ∧ l = .slice A k c ∧ One w6 w6.heap.size wr 63 2 (.slice A k c) k (shc ds xs k)) (fun _ i _ => n - (intOf i).toNat)
 case atStart => exact ⟨0,none,0,Nat.zero_le _,rfl,rfl,One.start _ _ _⟩
 case round =>
  obtain ⟨k,A,c,hk,rfl,rfl,T⟩ := hrel;have HT := Lib.hid T;have HBR : Hid (Below s w wr) := HB6.out.1.trans (T.bel.mono (HSZ.out _ HB6.out.1));clear T
  by_cases hlt : k < n
  ·have k1 : (k : Int) < (n : Int) := by omega
   have k0 : (0 : Int) ≤ (k : Int) := by omega
   obtain ⟨b,o,Ak,ck,hRA,q0,hcl⟩ := HTM.out k wr XA xc hlt HBR.out ((HB6.out.2.2.below HT.out.bel).more HT.out.size);subst hRA;have HCL := Lib.hid hcl;have HN : Hid (shc ds xs (k + 1) = shc ds xs k ++ [.int .i64 (k : Int),.int .i64 (shr ds xs k)]) := shc_next _ _ _;generalize shr ds xs k = V at HCL HN;generalize hD : shc ds xs k = D at HT HN;clear hcl hD
   go_wp2_with fail
   refine HCL.out.mono ?_;rintro r w7 ⟨rfl,hb7⟩;have HT7 := Lib.hid (HT.out.below hb7);have hkn : k + 1 ≤ 60 := by omega
   clear hb7 q0 HT
   go_wp2_with (at_builtin;refine wpList_append_rd _ rfl (.tmp 52) (.tmp 58) 39 rfl w6.heap.size 63 _ (.agg #[.int .i64 0,.int .i64 0]) 2 16 Tryz.underlying39 rfl rfl rfl rfl rfl (by decide) (.slice A k c) k D (by rfl) (HT7.out.own.alloc _) (w7.heap.size + 1) (some ⟨w7.heap.size,0,none⟩) 1 1 [.int .i64 k,.int .i64 V] (by rfl) (rd_new w7 63 [.int .i64 k,.int .i64 V] 1 2 rfl) (one2 _ _) (by unfold maxLen;omega) (by omega) (by have := HT7.out.size;simp;omega) ?_;intro v8 w8 hown8 hg8 _)
   have T8 := (HT7.out.alloc (.cells #[.int .i64 k,.int .i64 V] 63)).grew hown8 hg8;obtain ⟨g8,c8,hv8,_,_⟩ := hown8.form (by omega);subst hv8;have HT8 := Lib.hid T8;clear T8 hown8 hg8
   go_wp2_with fail
   go_roundw
   case rel => exact ⟨k + 1,_,_,by omega,by go_num,rfl,by rw [HN.out];exact HT8.out⟩
   case measure => simp [intOf];omega
  ·obtain rfl : k = n := by omega
   clear hlt HTM;obtain ⟨D,hD⟩ : ∃ D,shc ds xs k = D := ⟨_,rfl⟩;rw [hD] at HT HDQ;clear hD;generalize wr = wy at HT HBR ⊢
   have HXA : Hid (0 < N → ∃ b o,XA = some ⟨b,o,none⟩ ∧ ∀ j,j < N → ∀ W,Below w6.heap.size w6 W → W.cell? ⟨b,o + j,none⟩ = some (.int .i64 (xs.getD j 0))) := fun h0 => by
    obtain ⟨_,b,o,e,_,hc⟩ := i64at HB6.out.2.2 h0;exact ⟨b,o,e,hc⟩
   go_wp2_with fail
   go_loopw [6,7,63] (fun l0 l i wx => l0 = .slice A k c ∧ ∃ (j : Nat) (A2 : Option Addr) (c2 : Nat),j ≤ N ∧ i = .int .i64 j ∧ l = .slice A2 j c2 ∧ One wy wy.heap.size wx 3 1 (.slice A2 j c2) j (ivs (cms xs j))) (fun _ _ i _ => N - (intOf i).toNat)
   case atStart => exact ⟨rfl,0,none,0,Nat.zero_le _,rfl,rfl,One.start _ _ _⟩
   case round =>
    obtain ⟨rfl,j,A2,c2,hj,rfl,rfl,T⟩ := hrel;have HT2 := Lib.hid T;have HBX : Hid (Below s w wr) := HBR.out.trans (T.bel.mono (HSZ.out _ HBR.out));clear T
    by_cases hlt : j < N
    ·have k1 : (j : Int) < (N : Int) := by omega
     have k0 : (0 : Int) ≤ (j : Int) := by omega
     obtain ⟨b,o,hXA,hcc⟩ := HXA.out (by omega);subst hXA;have q0 := hcc j hlt wr (HT.out.bel.trans (HT2.out.bel.mono HT.out.size));have HP := Lib.hid (HPW.out j wr hlt HBX.out);have HN : Hid (cms xs (j + 1) = cms xs j ++ [cm xs j]) := cms_next _ _;generalize cm xs j = V at HP HN;generalize xs.getD j 0 = X at HP q0;generalize cms xs j = D2 at HT2 HN;clear hcc
     go_wp2_with fail
     refine HP.out.mono ?_;rintro r w7 ⟨rfl,hb7⟩;have HT7 := Lib.hid (HT2.out.below hb7);clear hb7 q0 HT2
     go_wp2_with (at_builtin;refine wpList_append_rd _ rfl (.tmp 75) (.tmp 77) 23 rfl wy.heap.size 3 _ (.int .i64 0) 1 8 Tryz.underlying23 rfl rfl rfl rfl rfl (by decide) (.slice A2 j c2) j (ivs D2) (by rfl) (HT7.out.own.alloc _) (w7.heap.size + 1) (some ⟨w7.heap.size,0,none⟩) 1 1 [.int .i64 V] (by rfl) (rd_newU w7 3 (.int .i64 V)) (by intro u hu;simp at hu;rw [hu];rfl) (by unfold maxLen;omega) (by omega) (by have := HT7.out.size;simp;omega) ?_;intro v8 w8 hown8 hg8 _)
     have T8 := (HT7.out.alloc (.cells #[.int .i64 V] 3)).grew hown8 hg8;obtain ⟨g8,c8,hv8,_,_⟩ := hown8.form (by omega);subst hv8;have HT8 := Lib.hid T8;clear T8 hown8 hg8
     go_wp2_with fail
     go_roundw
     case rel => exact ⟨rfl,j + 1,_,_,by omega,by go_num,rfl,by rw [HN.out];have := HT8.out;simpa using this⟩
     case measure => simp [intOf];omega
    ·obtain rfl : j = N := by omega
     clear hlt HPW HXA;obtain ⟨D2,hD2⟩ : ∃ D2,cms xs j = D2 := ⟨_,rfl⟩;rw [hD2] at HT2 HDQ;clear hD2
     go_wp2_with fail
     obtain ⟨_,_,hv1,hrd1,hc1,hm1⟩ := own_slice' (own_below HT.out.own (by
      have := HT2.out.bel
      exact this))
     obtain ⟨_,_,hv2,hrd2,hc2,hm2⟩ := own_slice' HT2.out.own
     cases hv1
     cases hv2
     exact HDQ.out _ _ ⟨A,c,A2,c2,rfl,hrd1,hc1,hm1,hrd2,hc2,hm2⟩ HBX.out
structure Ky where
 N : Nat
 P : List Int
 RA : Option Addr
 rc : Nat
 OA : Option Addr
 oc : Nat
 rs : List RI
 xs : List Int
 CA : Option Addr
 cc : Nat
structure Ky.ok (k : Ky) (W : World) (B : Nat) : Prop where
 prg : Prg W B k.N k.P k.RA k.rc k.OA k.oc k.rs
 e0 : k.P = [] → k.N = 1
 own : ∀ p ∈ k.P,0 ≤ p ∧ p < 64
 n0 : 1 ≤ k.N
 n1 : k.N ≤ 60
 len : k.P.length ≤ 60
 xl : k.xs.length = k.N
 xr : ∀ x ∈ k.xs,0 ≤ x ∧ x < 1073741789
 com : Rd W B 1 k.CA k.N (ivs (cms k.xs k.N))
theorem Ky.ok.below {k : Ky} {W W' : World} {B : Nat} (h : k.ok W B) (hb : Below B W W') : k.ok W' B := ⟨h.prg.below hb,h.e0,h.own,h.n0,h.n1,h.len,h.xl,h.xr,h.com.below hb⟩
theorem Ky.ok.more {k : Ky} {W : World} {B B' : Nat} (h : k.ok W B) (hB : B ≤ B') : k.ok W B' := ⟨h.prg.more hB,h.e0,h.own,h.n0,h.n1,h.len,h.xl,h.xr,h.com.more hB⟩
theorem Ky.ok.go {k : Ky} {w W : World} {s : Nat} (hs : w.heap.size = s) (h : k.ok w w.heap.size) (hb : Below s w W) : k.ok W W.heap.size := by
 rw [← hs] at hb;exact (h.below hb).more hb.size
def Ky.ds (k : Ky) : List (List Int) := k.rs.map RI.d
theorem cms_get (xs : List Int) {N j : Nat} (hj : j < N) : (cms xs N).getD j 0 = cm xs j := by
 unfold cms;rw [List.getD_eq_getElem?_getD,List.getElem?_map,List.getElem?_range hj]
 rfl
theorem dcheck1_any (e : Nat) (w : World) : Calls Tryz.prog 142 #[.int .i64 (Gm.pw e : Int)] w fun r w' => r = .returned (.bool false) ∧ w = w' := by
 have HV := Lib.hid (valid_any e w);generalize (Gm.pw e : Int) = X at HV ⊢;go_enter Tryz.func142,Tryz.ntmps142
 go_wp2_with fail
 refine HV.out.mono ?_;rintro r w1 ⟨rfl,rfl⟩;go_wp2;go_ret;exact ⟨rfl,rfl⟩
theorem dcI_any  (A : Option Addr) (n c : Nat) (hn : n ≤ 4096) (p : Nat → Int) (I : Nat → World → Prop) (w : World) (h0 : I 0 w)
  (hA : 0 < n → ∃ b o,A = some ⟨b,o,none⟩ ∧ ∀ k,k < n → ∀ W,I k W → W.cell? ⟨b,o + k,none⟩ = some (.int .i64 (p k)))
  (hcall : ∀ k,k < n → ∀ W,I k W → Calls Tryz.prog 142 #[.int .i64 (p k)] W fun r w' => r = .returned (.bool false) ∧ I (k + 1) w') :
  Calls Tryz.prog 126 #[.slice A n c,(.func (.func 142) #[] #[])] w fun r w' => r = .returned (.int .i64 (-1)) ∧ I n w' := by
 have HA := Lib.hid hA;have HC := Lib.hid hcall;have H0 := Lib.hid h0;clear hA hcall h0;go_enter Tryz.func126,Tryz.ntmps126;go_wp2
 go_loopw [8] (fun i wr => ∃ k : Nat,k ≤ n ∧ i = .int .i64 k ∧ I k wr) (fun i _ => n - (intOf i).toNat)
 case atStart => exact ⟨0,Nat.zero_le _,rfl,H0.out⟩
 case round =>
  clear H0;obtain ⟨k,hk,rfl,hi⟩ := hrel;have HI := Lib.hid hi;clear hi
  by_cases hlt : k < n
  ·have k1 : (k : Int) < (n : Int) := by omega
   have k0 : (0 : Int) ≤ (k : Int) := by omega
   obtain ⟨b,o,hA1,hcc⟩ := HA.out (by omega);subst hA1;have hcc := hcc k hlt wr HI.out;have hC := HC.out k hlt wr HI.out;obtain ⟨P0,hP0⟩ : ∃ P,p k = P := ⟨_,rfl⟩;rw [hP0] at hC hcc;have HC2 := Lib.hid hC;clear hC hP0 HA HC;obtain x0 := hcc
   go_wp2_with fail
   refine HC2.out.mono ?_;rintro x w1 ⟨rfl,hi1⟩;have HI1 := Lib.hid hi1;clear hi1;go_wp2;go_roundw
   case rel => exact ⟨k + 1,by omega,by go_num,HI1.out⟩
   case measure => simp [intOf];omega
  ·obtain rfl : k = n := by omega
   go_wp2;go_ret;exact ⟨rfl,HI.out⟩
theorem dcC_any  (A : Option Addr) (n c : Nat) (hn : n ≤ 4096) (p : Nat → Int) (I : Nat → World → Prop) (w : World) (h0 : I 0 w)
  (hA : 0 < n → ∃ b o,A = some ⟨b,o,none⟩ ∧ ∀ k,k < n → ∀ W,I k W → W.cell? ⟨b,o + k,none⟩ = some (.int .i64 (p k)))
  (hcall : ∀ k,k < n → ∀ W,I k W → Calls Tryz.prog 142 #[.int .i64 (p k)] W fun r w' => r = .returned (.bool false) ∧ I (k + 1) w') :
  Calls Tryz.prog 79 #[.slice A n c,(.func (.func 142) #[] #[])] w fun r w' => r = .returned (.bool false) ∧ I n w' := by
 have HI := Lib.hid (dcI_any  A n c hn p I w h0 hA hcall);clear hA hcall h0;go_enter Tryz.func79,Tryz.ntmps79
 go_wp2_with fail
 refine HI.out.mono ?_;rintro x w1 ⟨rfl,hi⟩;have HI1 := Lib.hid hi;clear hi;go_wp2;go_ret;exact ⟨rfl,HI1.out⟩
theorem dcheck_any (k : Ky) (w : World) (h : k.ok w w.heap.size) :
  Calls Tryz.prog 111 #[(.agg #[.slice k.RA k.P.length k.rc,.slice k.OA k.P.length k.oc]),(.slice k.CA k.N k.cc)] w fun r w' => r = .returned (.int .i64 0) ∧ Below w.heap.size w w' := by
 obtain ⟨s,hs⟩ : ∃ s,w.heap.size = s := ⟨_,rfl⟩
 have HCK : Hid (∀ W,Below s w W → Calls Tryz.prog 26 #[(.agg #[.slice k.RA k.P.length k.rc,.slice k.OA k.P.length k.oc])] W fun r w' => r = .returned (.int .i64 0) ∧ Below W.heap.size W w') := fun W hW => by
  have h2 := h.go hs hW;exact check01_any k.N k.P k.RA k.rc k.OA k.oc k.rs W h2.prg h2.own h2.n0 (by have := h2.n1;omega) (by have := h2.len;omega)
 have HCO : Hid (∀ W,Below s w W → Calls Tryz.prog 28 #[(.agg #[.slice k.RA k.P.length k.rc,.slice k.OA k.P.length k.oc])] W fun r w' => r = .returned (.int .i64 k.N) ∧ Below W.heap.size W w') := fun W hW => by
  have h2 := h.go hs hW;exact columns_any k.N k.P k.RA k.rc k.OA k.oc k.rs W h2.prg h2.e0 (by have := h2.len;omega) (by have := h2.n1;omega)
 have HCF : Hid (∀ W,Below s w W → Calls Tryz.prog 79 #[(.slice k.CA k.N k.cc),.func (.func 142) #[] #[]] W fun r w' => r = .returned (.bool false) ∧ W = w') := fun W hW => by
  have h2 := h.go hs hW;refine dcC_any k.CA k.N k.cc (by have := h2.n1;omega) (fun j => cm k.xs j) (fun _ V => W = V) W rfl (fun h0 => ?_) (fun j hj V hV => ?_)
  ·obtain ⟨_,b,o,e1,_,hc⟩ := i64at h2.com h0
   refine ⟨b,o,e1,fun j hj V hV => ?_⟩;subst hV;rw [← cms_get k.xs hj];exact hc j hj _ (Below.refl _ _)
  ·subst hV
   exact dcheck1_any _ _
 have HB0 : Hid (Below s w (w.alloc (.cells #[.slice k.RA k.P.length k.rc,.slice k.OA k.P.length k.oc] 25)) ∧ Row (w.alloc (.cells #[.slice k.RA k.P.length k.rc,.slice k.OA k.P.length k.oc] 25)) s 25 [.slice k.RA k.P.length k.rc,.slice k.OA k.P.length k.oc]) := ⟨by rw [← hs];exact (Below.refl _ w).alloc (Nat.le_refl _) _,Row.fresh' _ _ _ hs⟩;obtain ⟨N,P,RA,rc,OA,oc,rs,xs,CA,cc⟩ := k;have n1 : N ≤ 60 := h.n1;have HS := Lib.hid hs;dsimp only at HCK HCO HCF HB0 ⊢;generalize P.length = n at HCK HCO HB0 ⊢;clear h hs;rw [HS.out];go_enter Tryz.func111,Tryz.ntmps111
 go_wp2_with fail
 rw [HS.out];generalize w.alloc (.cells #[.slice RA n rc,.slice OA n oc] 25) = w0 at HB0 ⊢;have p0 := HB0.out.2.cell (i := 0) rfl;have p1 := HB0.out.2.cell (i := 1) rfl
 go_wp2_with fail
 refine (HCK.out w0 HB0.out.1).mono ?_;rintro r w1 ⟨rfl,hb1⟩;have HB1 : Hid (Below s w w1 ∧ Row w1 s 25 [.slice RA n rc,.slice OA n oc]) := ⟨HB0.out.1.trans (hb1.mono (by have := HB0.out.2.lt;omega)),HB0.out.2.below hb1 HB0.out.2.lt⟩;clear hb1 HB0 p0 p1;have p0 := HB1.out.2.cell (i := 0) rfl;have p1 := HB1.out.2.cell (i := 1) rfl
 go_wp2_with fail
 refine (HCO.out w1 HB1.out.1).mono ?_;rintro r w2 ⟨rfl,hb2⟩;have HB2 : Hid (Below s w w2) := HB1.out.1.trans (hb2.mono (by have := HB1.out.2.lt;omega));clear hb2 p0 p1
 go_wp2_with fail
 refine (HCF.out w2 HB2.out).mono ?_;rintro r w3 ⟨rfl,rfl⟩;go_wp2;go_ret;exact ⟨rfl,HB2.out⟩
def pe (xs row : List Int) : Nat → Nat
 | 0 => 0
 | j + 1 => pe xs row j + (xs.getD j 0).toNat * (row.getD j 0 % 1073741789).toNat
theorem pe_cg (xs row : List Int) (hx : ∀ x ∈ xs,0 ≤ x ∧ x < 1073741789) : ∀ m,Fm.cg (pe xs row m : Int) (tm row xs m)
 | 0 => Fm.cg_refl _
 | m + 1 => by
  have hx0 : 0 ≤ xs.getD m 0 := by
   rw [List.getD_eq_getElem?_getD]
   cases e : xs[m]? with
   | none => exact Int.le_refl 0
   | some x => exact (hx x (List.mem_of_getElem? e)).1
  have hr0 : 0 ≤ row.getD m 0 % 1073741789 := Int.emod_nonneg _ (by decide);refine Fm.cg_trans ?_ (Fm.cg_symm (Fm.cg_trans (Fm.cg_ad _ _) (Fm.cg_add (Fm.cg_refl _) (Fm.cg_ml _ _))));show Fm.cg ((pe xs row m + (xs.getD m 0).toNat * (row.getD m 0 % 1073741789).toNat : Nat) : Int) _;rw [Int.natCast_add,Int.natCast_mul,Int.toNat_of_nonneg hx0,Int.toNat_of_nonneg hr0];refine Fm.cg_add (pe_cg xs row hx m) ?_;rw [Int.mul_comm (row.getD m 0)];exact Fm.cg_mul (Fm.cg_refl _) (Fm.cg_mod _)
theorem pw_of_cg {a b : Nat} (h : Fm.cg (a : Int) (b : Int)) : Gm.pw a = Gm.pw b := by
 refine Gm.pw_congr ?_
 have : ((a % 1073741789 : Nat) : Int) = ((b % 1073741789 : Nat) : Int) := by
  rw [Int.natCast_emod,Int.natCast_emod];exact h
 exact Int.ofNat.inj this
theorem pe_pw (xs row : List Int) (hx : ∀ x ∈ xs,0 ≤ x ∧ x < 1073741789) (m : Nat) : Gm.pw (pe xs row m) = Gm.pw (tm row xs m).toNat := by
 refine pw_of_cg ?_;rw [Int.toNat_of_nonneg (tm_rng _ _ _).1];exact pe_cg xs row hx m
theorem dright_any (k : Ky) (i : Nat) (v : Int) (w : World) (hi : i < k.P.length) (hn : k.P.length ≤ 4096) (hv : 0 ≤ v ∧ v < 1073741789) :
  Calls Tryz.prog 112 #[(.agg #[.slice k.RA k.P.length k.rc,.slice k.OA k.P.length k.oc]),.agg #[.int .i64 i,.int .i64 v]] w fun r w' => r = .returned (.bool true) ∧ Below w.heap.size w w' := by
 obtain ⟨s,hs⟩ : ∃ s,w.heap.size = s := ⟨_,rfl⟩;obtain ⟨N,P,RA,rc,OA,oc,rs,xs,CA,cc⟩ := k;dsimp only at hi hn ⊢;generalize P.length = n at hi hn ⊢;obtain ⟨w2,hw2⟩ : ∃ w2,(w.alloc (.cells #[.slice RA n rc,.slice OA n oc] 25)).alloc (.cells #[.int .i64 i,.int .i64 v] 63) = w2 := ⟨_,rfl⟩;have HW2 : Hid (Below s w w2 ∧ Row w2 s 25 [.slice RA n rc,.slice OA n oc] ∧ Row w2 (s + 1) 63 [.int .i64 i,.int .i64 v]) := ⟨by rw [← hw2,← hs];exact ((Below.refl _ w).alloc (Nat.le_refl _) _).alloc (by simp) _,by rw [← hw2];exact (Row.fresh' _ _ _ hs).alloc _,by rw [← hw2];exact Row.fresh' _ _ _ (by simp [hs])⟩
 have HN : Hid (∀ W b,Row W b 3 [.int .i64 v] → Calls Tryz.prog 27 #[.slice (some ⟨b,0,none⟩) 1 1] W fun r w' => r = .returned (.bool true) ∧ W = w') := fun W b hb =>
  numbersD_any _ 1 1 [v] W ((rd_rowU hb).more hb.lt) (by decide) (by intro x hxm;simp at hxm;rw [hxm];exact hv)
 have a0 : (0 : Int) ≤ (i : Int) := by omega
 have a1 : (i : Int) < (n : Int) := by omega
 have HZ : Hid (w2.heap.size = s + 1 + 1) := by show w2.heap.size = s + 1 + 1;rw [← hw2];simp [hs]
 have HS := Lib.hid hs;have HE := Lib.hid hw2;rw [hs];clear hs hw2;go_enter Tryz.func112,Tryz.ntmps112
 go_wp2_with fail
 rw [HS.out,HE.out];have p0 := HW2.out.2.1.cell (i := 0) rfl;have p1 := HW2.out.2.1.cell (i := 1) rfl;have q0 := HW2.out.2.2.cell (i := 0) rfl;have q1 := HW2.out.2.2.cell (i := 1) rfl
 go_wp2_with fail
 refine (HN.out _ _ (Row.fresh' w2 3 [.int .i64 v] HZ.out)).mono ?_;rintro r w3 ⟨rfl,rfl⟩;go_wp2;go_ret;exact ⟨rfl,HW2.out.1.alloc (by have := HW2.out.2.1.lt;omega) _⟩
theorem public_any (k : Ky) (i : Nat) (w : World) (h : k.ok w w.heap.size) (hi : i < k.P.length) :
  Calls Tryz.prog 113 #[(.agg #[.slice k.RA k.P.length k.rc,.slice k.OA k.P.length k.oc]),(.slice k.CA k.N k.cc),.int .i64 i] w fun r w' => r = .returned (.tuple #[.int .i64 (Gm.pw (shr k.ds k.xs i).toNat : Int),.int .i64 0]) ∧ Below w.heap.size w w' := by
 obtain ⟨s,hs⟩ : ∃ s,w.heap.size = s := ⟨_,rfl⟩;obtain ⟨row,hrow⟩ : ∃ row,k.ds.getD i [] = row := ⟨_,rfl⟩;have hir : i < k.rs.length := by rw [h.prg.len];exact hi
 obtain ⟨hm,hm2⟩ := getD_mem' hir
 have hrd : (k.rs.getD i r0).d = row := by
  rw [← hrow]
  have e : k.ds.getD i [] = (k.rs.getD i r0).d := by
   unfold Ky.ds;rw [List.getD_eq_getElem?_getD,List.getElem?_map,hm2];rfl
  exact e.symm
 have hlen : row.length = k.N := by rw [← hrd];exact (h.prg.dat _ hm).len
 have hrr : ∀ j,j < k.N → 0 ≤ row.getD j 0 ∧ row.getD j 0 < 1073741789 := fun j hj => by
  have hj' : j < row.length := by omega
  have e : row.getD j 0 = row[j] := by rw [List.getD_eq_getElem?_getD,List.getElem?_eq_getElem hj'];rfl
  rw [e];have hmm : row[j] ∈ (k.rs.getD i r0).d := by rw [hrd];exact List.getElem_mem hj'
  exact ⟨(h.prg.dat _ hm).lo _ hmm,(h.prg.dat _ hm).hi _ hmm⟩
 have HEND : Hid (Gm.pw (pe k.xs row k.N) = Gm.pw (shr k.ds k.xs i).toNat) := by
  show _ = Gm.pw (tm (k.ds.getD i []) k.xs k.xs.length).toNat;rw [hrow,h.xl];exact pe_pw k.xs row h.xr k.N
 have HCK : Hid (∀ W,Below s w W → Calls Tryz.prog 111 #[(.agg #[.slice k.RA k.P.length k.rc,.slice k.OA k.P.length k.oc]),(.slice k.CA k.N k.cc)] W fun r w' => r = .returned (.int .i64 0) ∧ Below W.heap.size W w') := fun W hW => dcheck_any k W (h.go hs hW)
 have HCA : Hid (∀ j,j < k.N → ∃ b o b1 o1 b2 o2 c2,k.CA = some ⟨b,o,none⟩ ∧ k.RA = some ⟨b1,o1,none⟩ ∧ ∀ W,Below s w W → W.cell? ⟨b,o + j,none⟩ = some (.int .i64 (cm k.xs j)) ∧ W.cell? ⟨b1,o1 + i,none⟩ = some (.slice (some ⟨b2,o2,none⟩) k.N c2) ∧ W.cell? ⟨b2,o2 + j,none⟩ = some (.int .i64 (row.getD j 0))) := fun j hj => by
  obtain ⟨_,b,o,e,_,hc⟩ := i64at h.com (by omega);obtain ⟨b1,o1,e1,_,hc1⟩ := h.prg.rd.at (by omega);obtain ⟨b2,o2,e2,_,hc2⟩ := RI.at (h.prg.rd.rows _ hm) (by rw [hrd];omega);refine ⟨b,o,b1,o1,b2,o2,(k.rs.getD i r0).c,e,e1,fun W hW => ?_⟩;rw [← hs] at hW;refine ⟨?_,?_,?_⟩
  ·rw [← cms_get k.xs hj];exact hc j hj W hW
  ·have := hc1 i hir W hW
   rw [RI.cell_eq,e2,hrd,hlen] at this;exact this
  ·have := hc2 j (by rw [hrd];omega) W hW
   rw [hrd] at this;exact this
 have HPW : Hid (∀ (j : Nat) W,j < k.N → Calls Tryz.prog 31 #[.int .i64 (cm k.xs j),.int .i64 (row.getD j 0)] W fun r w' => r = .returned (.tuple #[.int .i64 (Gm.pw ((k.xs.getD j 0).toNat * (row.getD j 0 % 1073741789).toNat) : Int),.int .i64 0]) ∧ Below W.heap.size W w') := fun j W hj => by
  have := hrr j hj;exact pow_gany _ _ W (by omega) this.2
 have HMU : Hid (∀ (j : Nat) W,Calls Tryz.prog 63 #[.int .i64 (Gm.pw (pe k.xs row j) : Int),.int .i64 (Gm.pw ((k.xs.getD j 0).toNat * (row.getD j 0 % 1073741789).toNat) : Int)] W fun r w' => r = .returned (.tuple #[.int .i64 (Gm.pw (pe k.xs row (j + 1)) : Int),.int .i64 0]) ∧ W = w') := fun j W => mul_gany _ _ W;have HB0 : Hid (Below s w (w.alloc (.cells #[.slice k.RA k.P.length k.rc,.slice k.OA k.P.length k.oc] 25)) ∧ Row (w.alloc (.cells #[.slice k.RA k.P.length k.rc,.slice k.OA k.P.length k.oc] 25)) s 25 [.slice k.RA k.P.length k.rc,.slice k.OA k.P.length k.oc]) := ⟨by rw [← hs];exact (Below.refl _ w).alloc (Nat.le_refl _) _,Row.fresh' _ _ _ hs⟩;have n1 : k.N ≤ 60 := h.n1;have hn := h.len;rw [← HEND.out];obtain ⟨N,P,RA,rc,OA,oc,rs,xs,CA,cc⟩ := k;have HS := Lib.hid hs;dsimp only at HCK HCA HPW HMU HB0 n1 hi hn ⊢;have HP0 : Hid ((1 : Int) = (Gm.pw (pe xs row 0) : Int)) := by show (1 : Int) = ((Gm.pw 0 : Nat) : Int);rw [Gm.pw_zero];rfl
 generalize P.length = n at HCK HB0 hi hn ⊢;clear h hs hir hm hm2 hrd hlen hrr hrow HEND;have a0 : decide ((i : Int) < 0) = false := decide_eq_false (by omega);have a1 : decide ((n : Int) ≤ (i : Int)) = false := decide_eq_false (by omega);have a4 : decide (n ≤ i) = false := decide_eq_false (by omega);have a2 : (0 : Int) ≤ (i : Int) := by omega
 have a3 : (i : Int) < (n : Int) := by omega
 rw [HS.out];go_enter Tryz.func113,Tryz.ntmps113
 go_wp2_with fail
 rw [HS.out];generalize w.alloc (.cells #[.slice RA n rc,.slice OA n oc] 25) = w0 at HB0 ⊢;have p0 := HB0.out.2.cell (i := 0) rfl;have p1 := HB0.out.2.cell (i := 1) rfl
 go_wp2_with fail
 refine (HCK.out w0 HB0.out.1).mono ?_;rintro r w1 ⟨rfl,hb1⟩;have HB1 : Hid (Below s w w1 ∧ Row w1 s 25 [.slice RA n rc,.slice OA n oc]) := ⟨HB0.out.1.trans (hb1.mono (by have := HB0.out.2.lt;omega)),HB0.out.2.below hb1 HB0.out.2.lt⟩;clear hb1 HB0 p0 p1;have p0 := HB1.out.2.cell (i := 0) rfl
 go_wp2_with fail
 clear p0
 go_loopw [6,7,30] (fun x e i wr => e = .int .i64 0 ∧ ∃ (j : Nat),j ≤ N ∧ i = .int .i64 j ∧ x = .int .i64 (Gm.pw (pe xs row j) : Int) ∧ Below s w wr ∧ Row wr s 25 [.slice RA n rc,.slice OA n oc]) (fun _ _ i _ => N - (intOf i).toNat)
 case atStart => exact ⟨rfl,0,Nat.zero_le _,rfl,by rw [← HP0.out],HB1.out⟩
 case round =>
  obtain ⟨rfl,j,hj,rfl,rfl,hb,hrw⟩ := hrel;have HB := Lib.hid (And.intro hb hrw);clear hb hrw
  by_cases hlt : j < N
  ·have k1 : (j : Int) < (N : Int) := by omega
   have k0 : (0 : Int) ≤ (j : Int) := by omega
   obtain ⟨b,o,b1,o1,b2,o2,c2,hCA,hRA,hc⟩ := HCA.out j hlt;subst hCA hRA;obtain ⟨q0,q1,q2⟩ := hc wr HB.out.1;have p0 := HB.out.2.cell (i := 0) rfl;have HP := Lib.hid (HPW.out j wr hlt);have HM : Hid (∀ W,Calls Tryz.prog 63 #[.int .i64 (Gm.pw (pe xs row j) : Int),.int .i64 (Gm.pw ((xs.getD j 0).toNat * (row.getD j 0 % 1073741789).toNat) : Int)] W fun r w' => r = .returned (.tuple #[.int .i64 (Gm.pw (pe xs row (j + 1)) : Int),.int .i64 0]) ∧ W = w') := fun W => HMU.out j W;generalize hE : (Gm.pw (pe xs row (j + 1)) : Int) = E1 at HM;have HEE := Lib.hid hE;clear hE;generalize (Gm.pw ((xs.getD j 0).toNat * (row.getD j 0 % 1073741789).toNat) : Int) = E2 at HP HM;generalize (Gm.pw (pe xs row j) : Int) = E0 at HM ⊢;generalize row.getD j 0 = X2 at HP q2;generalize cm xs j = X0 at HP q0;clear hc
   go_wp2_with fail
   refine HP.out.mono ?_;rintro r w7 ⟨rfl,hb7⟩;have HB7 : Hid (Below s w w7 ∧ Row w7 s 25 [.slice (some ⟨b1,o1,none⟩) n rc,.slice OA n oc]) := ⟨HB.out.1.trans (hb7.mono (by have := HB.out.2.lt;omega)),HB.out.2.below hb7 HB.out.2.lt⟩;clear hb7 q0 q1 q2 p0
   go_wp2_with fail
   refine (HM.out _).mono ?_;rintro r w8 ⟨rfl,rfl⟩
   go_wp2_with fail
   go_roundw
   case rel => exact ⟨rfl,j + 1,by omega,by go_num,by rw [HEE.out],HB7.out⟩
   case measure => simp [intOf];omega
  ·obtain rfl : j = N := by omega
   generalize hE0 : (Gm.pw (pe xs row j) : Int) = E0;have HE0 := Lib.hid hE0;clear hE0;go_wp2;go_ret2;exact ⟨by rw [HE0.out] <;> rfl,HB.out.1⟩
theorem fits_any (k : Ky) (i : Nat) (w : World) (h : k.ok w w.heap.size) (hi : i < k.P.length) :
  Calls Tryz.prog 49 #[(.agg #[.slice k.RA k.P.length k.rc,.slice k.OA k.P.length k.oc]),(.slice k.CA k.N k.cc),.agg #[.int .i64 i,.int .i64 (shr k.ds k.xs i)]] w fun r w' => r = .returned (.tuple #[.bool true,.int .i64 0]) ∧ Below w.heap.size w w' := by
 obtain ⟨s,hs⟩ : ∃ s,w.heap.size = s := ⟨_,rfl⟩;have hv : 0 ≤ shr k.ds k.xs i ∧ shr k.ds k.xs i < 1073741789 := tm_rng _ _ _;have HCK : Hid (∀ W,Below s w W → Calls Tryz.prog 111 #[(.agg #[.slice k.RA k.P.length k.rc,.slice k.OA k.P.length k.oc]),(.slice k.CA k.N k.cc)] W fun r w' => r = .returned (.int .i64 0) ∧ Below W.heap.size W w') := fun W hW => dcheck_any k W (h.go hs hW);have HRI : Hid (∀ W,Calls Tryz.prog 112 #[(.agg #[.slice k.RA k.P.length k.rc,.slice k.OA k.P.length k.oc]),.agg #[.int .i64 i,.int .i64 (shr k.ds k.xs i)]] W fun r w' => r = .returned (.bool true) ∧ Below W.heap.size W w') := fun W => dright_any k i _ W hi (by have := h.len;omega) hv;have HPU : Hid (∀ W,Below s w W → Calls Tryz.prog 113 #[(.agg #[.slice k.RA k.P.length k.rc,.slice k.OA k.P.length k.oc]),(.slice k.CA k.N k.cc),.int .i64 i] W fun r w' => r = .returned (.tuple #[.int .i64 (Gm.pw (shr k.ds k.xs i).toNat : Int),.int .i64 0]) ∧ Below W.heap.size W w') := fun W hW => public_any k i W (h.go hs hW) hi;have HPW : Hid (∀ W,Calls Tryz.prog 31 #[.int .i64 4,.int .i64 (shr k.ds k.xs i)] W fun r w' => r = .returned (.tuple #[.int .i64 (Gm.pw (shr k.ds k.xs i).toNat : Int),.int .i64 0]) ∧ Below W.heap.size W w') := fun W => four_pow_any _ W hv.1 hv.2;generalize (Gm.pw (shr k.ds k.xs i).toNat : Int) = E at HPU HPW;generalize shr k.ds k.xs i = v at HRI HPW ⊢;obtain ⟨N,P,RA,rc,OA,oc,rs,xs,CA,cc⟩ := k;dsimp only at HCK HRI HPU hi ⊢;generalize P.length = n at HCK HRI HPU hi ⊢;obtain ⟨w2,hw2⟩ : ∃ w2,(w.alloc (.cells #[.slice RA n rc,.slice OA n oc] 25)).alloc (.cells #[.int .i64 i,.int .i64 v] 63) = w2 := ⟨_,rfl⟩;have HW2 : Hid (Below s w w2 ∧ Row w2 s 25 [.slice RA n rc,.slice OA n oc] ∧ Row w2 (s + 1) 63 [.int .i64 i,.int .i64 v]) := ⟨by rw [← hw2,← hs];exact ((Below.refl _ w).alloc (Nat.le_refl _) _).alloc (by simp) _,by rw [← hw2];exact (Row.fresh' _ _ _ hs).alloc _,by rw [← hw2];exact Row.fresh' _ _ _ (by simp [hs])⟩;have HS := Lib.hid hs;have HE := Lib.hid hw2;rw [hs];clear hs hw2 h hv hi;go_enter Tryz.func49,Tryz.ntmps49
 go_wp2_with fail
 rw [HS.out,HE.out];have p0 := HW2.out.2.1.cell (i := 0) rfl;have p1 := HW2.out.2.1.cell (i := 1) rfl;have q0 := HW2.out.2.2.cell (i := 0) rfl;have q1 := HW2.out.2.2.cell (i := 1) rfl
 go_wp2_with fail
 refine (HCK.out w2 HW2.out.1).mono ?_;rintro r w3 ⟨rfl,hb⟩;have HW3 : Hid (Below s w w3 ∧ Row w3 s 25 [.slice RA n rc,.slice OA n oc] ∧ Row w3 (s + 1) 63 [.int .i64 i,.int .i64 v]) := ⟨HW2.out.1.trans (hb.mono (by have := HW2.out.2.1.lt;omega)),HW2.out.2.1.below hb HW2.out.2.1.lt,HW2.out.2.2.below hb HW2.out.2.2.lt⟩;clear hb HW2 p0 p1 q0 q1;have p0 := HW3.out.2.1.cell (i := 0) rfl;have p1 := HW3.out.2.1.cell (i := 1) rfl;have q0 := HW3.out.2.2.cell (i := 0) rfl;have q1 := HW3.out.2.2.cell (i := 1) rfl
 go_wp2_with fail
 refine (HRI.out w3).mono ?_;rintro r w4 ⟨rfl,hb⟩;have HW4 : Hid (Below s w w4 ∧ Row w4 s 25 [.slice RA n rc,.slice OA n oc] ∧ Row w4 (s + 1) 63 [.int .i64 i,.int .i64 v]) := ⟨HW3.out.1.trans (hb.mono (by have := HW3.out.2.1.lt;omega)),HW3.out.2.1.below hb HW3.out.2.1.lt,HW3.out.2.2.below hb HW3.out.2.2.lt⟩;clear hb HW3 p0 p1 q0 q1;have p0 := HW4.out.2.1.cell (i := 0) rfl;have p1 := HW4.out.2.1.cell (i := 1) rfl;have q0 := HW4.out.2.2.cell (i := 0) rfl;have q1 := HW4.out.2.2.cell (i := 1) rfl
 go_wp2_with fail
 refine (HPU.out w4 HW4.out.1).mono ?_;rintro r w5 ⟨rfl,hb⟩;have HW5 : Hid (Below s w w5 ∧ Row w5 s 25 [.slice RA n rc,.slice OA n oc] ∧ Row w5 (s + 1) 63 [.int .i64 i,.int .i64 v]) := ⟨HW4.out.1.trans (hb.mono (by have := HW4.out.2.1.lt;omega)),HW4.out.2.1.below hb HW4.out.2.1.lt,HW4.out.2.2.below hb HW4.out.2.2.lt⟩;clear hb HW4 p0 p1 q0 q1;have p0 := HW5.out.2.1.cell (i := 0) rfl;have p1 := HW5.out.2.1.cell (i := 1) rfl;have q0 := HW5.out.2.2.cell (i := 0) rfl;have q1 := HW5.out.2.2.cell (i := 1) rfl
 go_wp2_with fail
 refine (HPW.out w5).mono ?_;rintro r w6 ⟨rfl,hb⟩;have HW6 : Hid (Below s w w6 ∧ Row w6 s 25 [.slice RA n rc,.slice OA n oc] ∧ Row w6 (s + 1) 63 [.int .i64 i,.int .i64 v]) := ⟨HW5.out.1.trans (hb.mono (by have := HW5.out.2.1.lt;omega)),HW5.out.2.1.below hb HW5.out.2.1.lt,HW5.out.2.2.below hb HW5.out.2.2.lt⟩;clear hb HW5 p0 p1 q0 q1;go_wp2;go_ret2;exact ⟨rfl,HW6.out.1⟩
theorem dtime_any (t : Int) (w : World) (h0 : 0 ≤ t) (h1 : t < 1099511627776) : Calls Tryz.prog 95 #[.int .i64 t] w fun r w' => r = .returned (.bool true) ∧ w = w' := by
 go_enter Tryz.func95,Tryz.ntmps95;go_wp2;go_ret;exact ⟨rfl,rfl⟩
structure Dl (L : List Int) (m : Int) : Prop where
 inc : L.Pairwise (· < ·)
 lo : ∀ x ∈ L,0 ≤ x
 hi : ∀ x ∈ L,x < m
 len : L.length ≤ 16
theorem dlist_any (r : RI) (m : Int) (w : World) (h : r.ok w w.heap.size) (hd : Dl r.d m) :
  Calls Tryz.prog 96 #[r.cell,.int .i64 m] w fun x w' => x = .returned (.bool true) ∧ w = w' := by
 have HC : Hid (∀ k,k < r.d.length → ∃ b o,r.A = some ⟨b,o,none⟩ ∧ ∃ x,r.d.getD k 0 = x ∧ w.cell? ⟨b,o + k,none⟩ = some (.int .i64 x) ∧ lastI r.d k < x ∧ x < m ∧ lastI r.d (k + 1) = x) := fun k hk => by
  obtain ⟨b,o,e,_,hc⟩ := RI.at h (by omega);obtain ⟨h1,h2,h3,h4⟩ := last_lt hd.inc hd.lo hk;exact ⟨b,o,e,_,rfl,hc k hk _ (Below.refl _ _),h1,hd.hi _ h4,h3⟩
 have hl := hd.len;obtain ⟨A,c,L⟩ := r;show Calls _ _ #[.slice A L.length c,.int .i64 m] _ _;dsimp only at HC hl;generalize hn : L.length = n at HC hl ⊢;clear h hd hn;have hn16 : (n : Int) ≤ 16 := by omega
 have HL0 : Hid (lastI L 0 = -1) := rfl;go_enter Tryz.func96,Tryz.ntmps96;go_wp2
 go_loopw [5,10] (fun t i wr => wr = w ∧ ∃ k : Nat,k ≤ n ∧ i = .int .i64 k ∧ t = .int .i64 (lastI L k)) (fun _ i _ => n - (intOf i).toNat)
 case atStart => exact ⟨rfl,0,Nat.zero_le _,rfl,by rw [HL0.out]⟩
 case round =>
  obtain ⟨rfl,k,hk,rfl,rfl⟩ := hrel;generalize hZ : lastI L k = Z at *
  by_cases hlt : k < n
  ·have k1 : (k : Int) < (n : Int) := by omega
   have k0 : (0 : Int) ≤ (k : Int) := by omega
   obtain ⟨b,o,hA,x,q0,q1,q2,q3,q4⟩ := HC.out k hlt;subst hA;rw [hZ] at q2;have g1 : decide (x ≤ Z) = false := decide_eq_false (by omega);have g2 : decide (m ≤ x) = false := decide_eq_false (by omega);have HQ := Lib.hid q4;clear q0 q4 hZ;go_wp2;go_roundw
   case rel => exact ⟨trivial,k + 1,by omega,by go_num,by rw [HQ.out]⟩
   case measure => simp [intOf];omega
  ·obtain rfl : k = n := by omega
   clear hlt hZ;go_wp2;go_ret;exact ⟨rfl,rfl⟩
theorem LB.away' {sb base : Nat} {es : List Tv} {A : Option Addr} {c : Nat} {W : World} (h : LB sb base es A c W) {p : Addr} (hp : p.block < sb) (u : Value) : LB sb base es A c (W.setCell p u) :=
 ⟨h.row.away (fun e => by omega) u,own_setC h.own (by have := h.lt;omega) u,h.lt,by rw [World.size_setCell];exact h.sz⟩
def NumQ (L : List Int) (w : World) (r : Ending) (w' : World) : Prop :=
 (∃ A c,r = .returned (Tv.lst A L.length c).val ∧ w'.ownsRow w.heap.size 107 4 (.slice A L.length c) L.length (tvCells (L.map Tv.int)) ∧ L.length ≤ c ∧ (L.length = 0 → A = none ∧ c = 0)) ∧ Below w.heap.size w w'
theorem results_row1 {P : Program} {fn : Func} {p : Tmp} {ty : TypeId} (h : fn.results = #[.cell p ty]) (tmps : Array Value) (w : World) (g : Nat) (t : TypeId) (cs : Array Value) (fr : Nat × Nat) (d : TypeDesc)
  (hp : tmps.getD p undef = .pointer (some ⟨g,0,none⟩)) (hg : w.heap[g]? = some (.cells cs t fr))
  (hu : P.underlying ty = some d) (hd : (match d with | .struct _ | .array _ _ => true | _ => false) = true) (hi : (P.info? ty).map (·.size) = some cs.size) :
  (results fn tmps).run P w = .ok (.agg cs) w := results_row h tmps w g t cs fr d hp hg hu hd hi
theorem dnums_any (A0 : Option Addr) (n c0 : Nat) (L : List Int) (w : World) (h : Rd w w.heap.size 1 A0 n (ivs L)) (hn : n ≤ 100) :
  Calls Tryz.prog 41 #[.slice A0 n c0] w (NumQ L w) := by
 obtain ⟨s,hs⟩ : ∃ s,w.heap.size = s := ⟨_,rfl⟩;have hl : L.length = n := by simpa using h.1
 have HA : Hid (0 < n → ∃ b o,A0 = some ⟨b,o,none⟩ ∧ ∀ j,j < n → ∀ W,Below s w W → W.cell? ⟨b,o + j,none⟩ = some (.int .i64 (L.getD j 0))) := fun h0 => by
  obtain ⟨_,b,o,e,_,hc⟩ := i64at h h0;exact ⟨b,o,e,fun j hj W hW => hc j hj W (by rw [hs];exact hW)⟩
 have HTK : Hid (∀ j,j < n → (L.take (j + 1)).map Tv.int = (L.take j).map Tv.int ++ [Tv.int (L.getD j 0)] ∧ ((L.take j).map Tv.int).length = j) := fun j hj => by
  have hj' : j < L.length := by omega
  refine ⟨?_,by simp;omega⟩;rw [List.take_succ_eq_append_getElem hj',List.map_append,List.getD_eq_getElem?_getD,List.getElem?_eq_getElem hj']
  rfl
 have HFIN : Hid (∀ W A c,LB (s + 1) (s + 2) ((L.take n).map Tv.int) A c W → (n = 0 → A = none ∧ c = 0) → Below s w W → ∀ r,r = .returned (Tv.lst A n c).val → NumQ L w r W) := fun W A c hlb h0 hb r hr => by
  have e : (L.take n).map Tv.int = L.map Tv.int := by rw [← hl,List.take_length]
  have e2 : (L.map Tv.int).length = n := by simpa using hl
  rw [e] at hlb;have h1 := own_mono (b := s) (by omega) hlb.own;have h2 := hlb.cap;rw [e2] at h1 h2;refine ⟨⟨A,c,?_,?_,?_,?_⟩,by rw [hs];exact hb⟩
  ·rw [hl];exact hr
  ·rw [hl,hs];exact h1
  ·rw [hl];exact h2.1
  ·rw [hl];exact h0
 generalize hQQ : NumQ L w = QQ at HFIN ⊢
 have HST2 : Hid (∀ w2,(w.alloc (.cells #[.int .i64 0,.int .i64 0,.string ⟨#[]⟩,.slice none 0 0] 107)).alloc (.cells #[.int .i64 3,.int .i64 0,.string ⟨#[]⟩,.slice none 0 0] 107) = w2 → Below s w w2 ∧ Row w2 s 107 [.int .i64 0,.int .i64 0,.string ⟨#[]⟩,.slice none 0 0] ∧ LB (s + 1) (s + 2) ((L.take 0).map Tv.int) none 0 w2) := fun w2 e => by
  subst e;refine ⟨by rw [← hs];exact ((Below.refl _ w).alloc (Nat.le_refl _) _).alloc (by simp) _,(Row.fresh' _ _ _ hs).alloc _,?_⟩;exact LB.start (Row.fresh' _ _ _ (by simp [hs])) (by omega) (by simp [hs])
 have HFINL : Hid (L.length = n) := hl;have HS := Lib.hid hs;clear h hs hl hQQ;go_enter Tryz.func41,Tryz.ntmps41
 go_wp2_with fail
 rw [HS.out];obtain ⟨w2,hw2⟩ : ∃ w2,(w.alloc (.cells #[.int .i64 0,.int .i64 0,.string ⟨#[]⟩,.slice none 0 0] 107)).alloc (.cells #[.int .i64 3,.int .i64 0,.string ⟨#[]⟩,.slice none 0 0] 107) = w2 := ⟨_,rfl⟩;have HW2 := Lib.hid (HST2.out w2 hw2);rw [hw2];clear hw2 HST2
 go_loopw [9] (fun i wr => ∃ (k : Nat) (A : Option Addr) (c : Nat),k ≤ n ∧ i = .int .i64 k ∧ LB (s + 1) (s + 2) ((L.take k).map Tv.int) A c wr ∧ (k = 0 → A = none ∧ c = 0) ∧ Below s w wr ∧ Row wr s 107 [.int .i64 0,.int .i64 0,.string ⟨#[]⟩,.slice none 0 0]) (fun i _ => n - (intOf i).toNat)
 case atStart => exact ⟨0,none,0,Nat.zero_le _,rfl,HW2.out.2.2,fun _ => ⟨rfl,rfl⟩,HW2.out.1,HW2.out.2.1⟩
 case round =>
  obtain ⟨k,A,c,hk,rfl,hlb,hz,hb,hrw⟩ := hrel;have HLB := Lib.hid hlb;have HB0 := Lib.hid hb;have HRW := Lib.hid hrw;have HZ := Lib.hid hz;clear hlb hb hrw hz HW2
  by_cases hlt : k < n
  ·have k1 : (k : Int) < (n : Int) := by omega
   have k0 : (0 : Int) ≤ (k : Int) := by omega
   obtain ⟨b,o,hA0,hcc⟩ := HA.out (by omega);subst hA0;have q0 := hcc k hlt wr HB0.out;obtain ⟨ht1,ht2⟩ := HTK.out k hlt;have HT1 := Lib.hid ht1;have HES := Lib.hid ht2;generalize L.getD k 0 = X at q0 HT1;obtain ⟨es,hes⟩ : ∃ es,(L.take k).map Tv.int = es := ⟨_,rfl⟩;rw [hes] at HES HT1 HLB;clear hcc ht1 ht2 hes;have a3 : wr.cell? ⟨s + 1,3,none⟩ = some (.slice A k c) := by have h9 := HLB.out.row.cell (i := 3) rfl;rwa [HES.out] at h9
   have f3 := HLB.out.row.fz 3;have ow : wr.ownsRow (s + 2) 107 4 (.slice A k c) k (tvCells es) := by have h9 := HLB.out.own;rwa [HES.out] at h9
   have hszw := HLB.out.sz;have hltw := HLB.out.row.lt
   go_wp2_with (at_builtin;refine wpList_append_rd _ rfl (.tmp 14) (.tmp 17) 105 rfl (s + 2) 107 _ vz 4 56 Tryz.underlying105 rfl rfl rfl rfl rfl (by decide) (.slice A k c) k (tvCells es) (by rfl) (ow.alloc _) (wr.heap.size + 1) (some ⟨wr.heap.size,0,none⟩) 1 1 (Tv.int X).cells (by rfl) (rd_new wr 107 (Tv.int X).cells 1 4 rfl) (tv_one _) (by unfold maxLen;omega) (by omega) (by simp;omega) ?_;intro v9 w9 hown9 hgrow9 _;obtain ⟨g9,c9,hv9,_,_⟩ := hown9.form (by omega);subst hv9;have hal : Below wr.heap.size wr (wr.alloc (.cells #[.int .i64 1,.int .i64 X,.string ⟨#[]⟩,.slice none 0 0] 107)) := (Below.refl _ _).alloc (Nat.le_refl _) _;have hst := HLB.out.step (x := Tv.int X) hal (by rw [HES.out];exact hown9) (by rw [HES.out];exact hgrow9);have hbe := HLB.out.bel (v := .slice (some ⟨g9,0,none⟩) (k + 1) c9) HB0.out hal (by rw [HES.out];exact hgrow9) (by omega);have hrw := (HLB.out.row.below hal hltw).grown hgrow9 (fun e => by have h9 := (ow.lt (s + 1) e.symm).1;omega);have s3 := hrw.cell (i := 3) rfl;have f9 := hrw.fz 3;rw [HES.out] at hst;have HST := Lib.hid (And.intro hst hbe);have HX9 := Lib.hid (((HRW.out.alloc (.cells #[.int .i64 1,.int .i64 X,.string ⟨#[]⟩,.slice none 0 0] 107)).grown hgrow9 (fun e => by have h9 := (ow.lt s e.symm).1;omega)).away (p := ⟨s + 1,3,none⟩) (by show s ≠ s + 1;omega) (.slice (some ⟨g9,0,none⟩) (k + 1) c9));clear hst hbe hrw hown9 hgrow9 hal)
   clear s3 f9 a3 f3 ow hszw hltw;go_roundw
   case rel => exact ⟨k + 1,_,_,by omega,by go_num,by rw [HT1.out];exact HST.out.1,fun h => absurd h (by omega),HST.out.2,HX9.out⟩
   case measure => simp [intOf];omega
  ·obtain rfl : k = n := by omega
   have hbl := HLB.out
   have hlen : ((L.take k).map Tv.int).length = k := by
    have h9 := HLB.out.own.1;have := HFINL.out;simp;omega
   have o0 := hbl.row.cell (i := 0) rfl;have o1 := hbl.row.cell (i := 1) rfl;have o2 := hbl.row.cell (i := 2) rfl;have o3 := hbl.row.cell (i := 3) rfl;rw [hlen] at o3;have x0 := HRW.out.cell (i := 0) rfl;have x1 := HRW.out.cell (i := 1) rfl;have x2 := HRW.out.cell (i := 2) rfl;have x3 := HRW.out.cell (i := 3) rfl;have y0 := HRW.out.fz 0;have y1 := HRW.out.fz 1;have y2 := HRW.out.fz 2;have y3 := HRW.out.fz 3;have HR9 := Lib.hid ((((HRW.out.put 0 (.int .i64 3)).put 1 (.int .i64 0)).put 2 (.string ⟨#[]⟩)).put 3 (.slice A k c));have HB9 := Lib.hid ((((HB0.out.setCell (p := ⟨s,0,none⟩) (Nat.le_refl _) (.int .i64 3)).setCell (p := ⟨s,1,none⟩) (Nat.le_refl _) (.int .i64 0)).setCell (p := ⟨s,2,none⟩) (Nat.le_refl _) (.string ⟨#[]⟩)).setCell (p := ⟨s,3,none⟩) (Nat.le_refl _) (.slice A k c));have HL9 := Lib.hid ((((hbl.away' (p := ⟨s,0,none⟩) (by show s < s + 1;omega) (.int .i64 3)) |>.away' (p := ⟨s,1,none⟩) (by show s < s + 1;omega) (.int .i64 0)) |>.away' (p := ⟨s,2,none⟩) (by show s < s + 1;omega) (.string ⟨#[]⟩)) |>.away' (p := ⟨s,3,none⟩) (by show s < s + 1;omega) (.slice A k c));clear hbl hlen;go_wp2;exact bodyPost_ret (results_row1 (p := 2) rfl _ _ s 107 _ (0,0) _ (by rfl) HR9.out Tryz.underlying107 (by rfl) (by kernel_rfl)) rfl (HFIN.out _ _ _ HL9.out HZ.out HB9.out _ rfl)
def toBA (l : List Int) : ByteArray := l.foldl (fun r n => r.push (UInt8.ofNat n.toNat)) ByteArray.empty
theorem push_list : ∀ (l : List Int) (s : ByteArray),(l.foldl (fun r n => r.push (UInt8.ofNat n.toNat)) s).data.toList = s.data.toList ++ l.map fun n => UInt8.ofNat n.toNat
 | [],s => by simp
 | a :: l,s => by
  rw [List.foldl_cons,push_list l];simp [ByteArray.push]
theorem toBA_size (l : List Int) : (toBA l).size = l.length := by
 show (toBA l).data.size = _;rw [← Array.length_toList,toBA,push_list];simp [ByteArray.empty,ByteArray.emptyWithCapacity]
 rfl
theorem conv_text {P : Program} (w : World) (src dst e : TypeId) (hs : P.underlying src = some (.slice e)) (he : P.underlying e = some (.int .u8)) (hd : P.underlying dst = some .string)
  {B n c : Nat} {A : Option Addr} {l : List Int} (hr : Rd w B 1 A n (l.map (Value.int .u8))) : (convert src dst (.slice A n c)).run P w = .ok (.string (toBA l)) w := by
 rw [run_convert_bytes_string w src dst e A n c hs he hd];have hl : l.length = n := by simpa using hr.1
 rcases A with _ | a
 ·have h0 : n = 0 := by
   rcases Nat.eq_zero_or_pos n with h0 | h0
   ·exact h0
   ·obtain ⟨b,o,h,_⟩ := hr.2 h0
    cases h
  have : l = [] := List.eq_nil_of_length_eq_zero (by omega);subst this
  rfl
 ·have hc : ∀ j u,(l.map (Value.int .u8))[j]? = some u → w.cell? (a.add j) = some u := by
   intro j u hu;have hj : j < n := by have := (List.getElem?_eq_some_iff.1 hu).1;simpa [hl] using this
   obtain ⟨b,o,h,_,hcc⟩ := hr.2 (by omega)
   injection h with h
   subst h;rw [Addr.add_flat];exact hcc j u hu
  have h := run_loadCells_list (P := P) w a (l.map (Value.int .u8)) hc;rw [List.length_map,hl] at h;exact run_bytesToString w a n c l h
structure Doc where
 no : Int
 ti : Int
 kd : Int
 vl : Int
 fr : Int
 un : Int
 pa : RI
 re : RI
 ne : RI
 tx : List Int
def Doc.cells (d : Doc) : List Value := [.int .i64 d.no,.int .i64 d.ti,.int .i64 d.kd,.int .i64 d.vl,.int .i64 d.fr,.int .i64 d.un,d.pa.cell,d.re.cell,d.ne.cell] ++ d.tx.map (Value.int .u8)
structure Doc.right (d : Doc) : Prop where
 no : 0 ≤ d.no ∧ d.no < 4096
 ti : 0 ≤ d.ti ∧ d.ti < 1099511627776
 kd : 0 ≤ d.kd ∧ d.kd < 16
 vl : 0 ≤ d.vl ∧ d.vl ≤ 1099511627776
 fr : 0 ≤ d.fr
 fu : d.fr < d.un
 un : d.un ≤ 1099511627776
 pa : Dl d.pa.d 1048577
 re : Dl d.re.d d.no
 ne : Dl d.ne.d d.no
structure Doc.ok (d : Doc) (W : World) (B : Nat) : Prop where
 pa : d.pa.ok W B
 re : d.re.ok W B
 ne : d.ne.ok W B
 tl : d.tx.length = 32
 tb : Byts d.tx
theorem RI.ok.more' {w : World} {B B' : Nat} {r : RI} (h : r.ok w B) (hB : B ≤ B') : r.ok w B' := ⟨h.1.more hB,h.2⟩
theorem Doc.ok.below {d : Doc} {W W' : World} {B : Nat} (h : d.ok W B) (hb : Below B W W') : d.ok W' B := ⟨h.pa.below hb,h.re.below hb,h.ne.below hb,h.tl,h.tb⟩
theorem Doc.ok.more {d : Doc} {W : World} {B B' : Nat} (h : d.ok W B) (hB : B ≤ B') : d.ok W B' := ⟨h.pa.more' hB,h.re.more' hB,h.ne.more' hB,h.tl,h.tb⟩
theorem Doc.clen {d : Doc} (h : d.tx.length = 32) : d.cells.length = 41 := by simp [Doc.cells,h]
theorem docright_any (d : Doc) (w : World) (h : d.ok w w.heap.size) (hd : d.right) :
  Calls Tryz.prog 40 #[.agg d.cells.toArray] w fun x w' => x = .returned (.bool true) ∧ Below w.heap.size w w' := by
 obtain ⟨s,hs⟩ : ∃ s,w.heap.size = s := ⟨_,rfl⟩;have hb0 : Below s w (w.alloc (.cells d.cells.toArray 29)) := by rw [← hs];exact (Below.refl _ w).alloc (Nat.le_refl _) _
 have hr0 : Row (w.alloc (.cells d.cells.toArray 29)) s 29 d.cells := Row.fresh' _ _ _ hs;have c0 := hr0.cell (i := 0) rfl;have c1 := hr0.cell (i := 1) rfl;have c2 := hr0.cell (i := 2) rfl;have c3 := hr0.cell (i := 3) rfl;have c4 := hr0.cell (i := 4) rfl;have c5 := hr0.cell (i := 5) rfl;have c6 := hr0.cell (i := 6) rfl;have c7 := hr0.cell (i := 7) rfl;have c8 := hr0.cell (i := 8) rfl;have h0 := (h.below (by rw [hs];exact hb0)).more hb0.size;obtain ⟨CS,hCS⟩ : ∃ CS,d.cells = CS := ⟨_,rfl⟩;have d0 : d.cells[0]? = some (.int .i64 d.no) := rfl;have d1 : d.cells[1]? = some (.int .i64 d.ti) := rfl;have d2 : d.cells[2]? = some (.int .i64 d.kd) := rfl;have d3 : d.cells[3]? = some (.int .i64 d.vl) := rfl;have d4 : d.cells[4]? = some (.int .i64 d.fr) := rfl;have d5 : d.cells[5]? = some (.int .i64 d.un) := rfl;rw [hCS] at hb0 h0 c0 c1 c2 c3 c4 c5 c6 c7 c8 d0 d1 d2 d3 d4 d5 ⊢;obtain ⟨w0,hw0⟩ : ∃ w0,w.alloc (.cells CS.toArray 29) = w0 := ⟨_,rfl⟩;rw [hw0] at hb0 h0 c0 c1 c2 c3 c4 c5 c6 c7 c8;have H6 : Hid (∀ V,w0 = V → Calls Tryz.prog 96 #[d.pa.cell,.int .i64 1048577] V fun x w' => x = .returned (.bool true) ∧ V = w') := fun V e => by subst e;exact dlist_any d.pa _ w0 h0.pa hd.pa
 have H7 : Hid (∀ V,w0 = V → Calls Tryz.prog 96 #[d.re.cell,.int .i64 d.no] V fun x w' => x = .returned (.bool true) ∧ V = w') := fun V e => by subst e;exact dlist_any d.re _ w0 h0.re hd.re
 have H8 : Hid (∀ V,w0 = V → Calls Tryz.prog 96 #[d.ne.cell,.int .i64 d.no] V fun x w' => x = .returned (.bool true) ∧ V = w') := fun V e => by subst e;exact dlist_any d.ne _ w0 h0.ne hd.ne
 have HT : Hid (∀ V,Calls Tryz.prog 95 #[.int .i64 d.ti] V fun r w' => r = .returned (.bool true) ∧ V = w') := fun V => dtime_any d.ti V hd.ti.1 hd.ti.2;obtain ⟨a0,a1⟩ := hd.no;obtain ⟨a4,a5⟩ := hd.kd;obtain ⟨a6,a7⟩ := hd.vl;have a8 := hd.fr;have a9 := hd.fu;have a10 := hd.un;obtain ⟨no,ti,kd,vl,fr,un,⟨pA,pc,pd⟩,⟨qA,qc,qd⟩,⟨nA,nc,nd⟩,tx⟩ := d;unfold RI.cell at c6 c7 c8 H6 H7 H8;dsimp only at c0 c1 c2 c3 c4 c5 c6 c7 c8 H6 H7 H8 HT a0 a1 a4 a5 a6 a7 a8 a9 a10;generalize pd.length = pn at c6 H6;generalize qd.length = qn at c7 H7;generalize nd.length = nn at c8 H8;have HE := Lib.hid hw0;have HS := Lib.hid hs;have HB := Lib.hid hb0;clear h hd h0 hb0 hr0 hCS hw0 hs;rw [HS.out];go_enter Tryz.func40,Tryz.ntmps40
 go_wp2_with fail
 rw [HS.out,HE.out];clear d0 d1 d2 d3 d4 d5;refine (HT.out w0).mono ?_;rintro x V ⟨rfl,rfl⟩
 go_wp2_with fail
 refine (H6.out w0 rfl).mono ?_;rintro x V ⟨rfl,rfl⟩
 go_wp2_with fail
 refine (H7.out w0 rfl).mono ?_;rintro x V ⟨rfl,rfl⟩
 go_wp2_with fail
 refine (H8.out w0 rfl).mono ?_;rintro x V ⟨rfl,rfl⟩;go_wp2;go_ret;exact ⟨rfl,HB.out⟩
def encI (L : List Int) : List Int := encL (L.map fun z => leafE (.int z))
theorem leafI_len {z : Int} (h : -9223372036854775808 ≤ z ∧ z < 9223372036854775808) : (leafE (.int z)).length ≤ 11 := by
 have := Cd.numL_ten (uns_lt h);show (1 :: Cd.numL (uns z)).length ≤ 11;rw [List.length_cons];omega
theorem encI_flat : ∀ {L : List Int},(∀ z ∈ L,-9223372036854775808 ≤ z ∧ z < 9223372036854775808) → (L.map fun z => leafE (.int z)).flatten.length ≤ 11 * L.length
 | [],_ => by simp
 | z :: L,h => by
  have h1 := leafI_len (h z (by simp));have h2 := encI_flat (L := L) fun y hy => h y (by simp [hy]);rw [List.map_cons,List.flatten_cons,List.length_append,List.length_cons];omega
theorem encI_len {L : List Int} (h : ∀ z ∈ L,-9223372036854775808 ≤ z ∧ z < 9223372036854775808) (hl : L.length ≤ 1000) : (encI L).length ≤ 11 + 11 * L.length := by
 have h1 := encL_len (L.map fun z => leafE (.int z)) (by simp;omega);have h2 := encI_flat h;unfold encI;omega
theorem encI_byts (L : List Int) : Byts (encI L) := byts_encL fun e he => by
 obtain ⟨z,_,rfl⟩ := List.mem_map.1 he;exact byts_leaf _
theorem encI_eq (L : List Int) : encI L = encL ((L.map Tv.int).map leafE) := by
 unfold encI;rw [List.map_map];rfl
theorem ints_fc {w : World} {B n c : Nat} {A : Option Addr} {L : List Int} (hl : L.length = n) (hn : n ≤ 40) (hr : Rd w B 4 A n (tvCells (L.map Tv.int))) (hnc : n ≤ c) (hB : B ≤ w.heap.size) (h0 : n = 0 → A = none ∧ c = 0)
  (h : ∀ z ∈ L,-9223372036854775808 ≤ z ∧ z < 9223372036854775808) : FC w B (.lst A n c) 1 := by
 by_cases e : n = 0
 ·obtain ⟨rfl,rfl⟩ := h0 e
  subst e;exact fc_nil w B
 ·refine flat_fc (es := L.map Tv.int) (by simp [hl]) (by omega) (by omega) hr hnc hB fun x hx => ?_
  obtain ⟨z,hz,rfl⟩ := List.mem_map.1 hx;exact h z hz
theorem ints_wc {w : World} {B n c : Nat} {A : Option Addr} {L : List Int} (hl : L.length = n) (hn : n ≤ 40) (hr : Rd w B 4 A n (tvCells (L.map Tv.int))) (hnc : n ≤ c)
  (h : ∀ z ∈ L,-9223372036854775808 ≤ z ∧ z < 9223372036854775808) : WC w B (.lst A n c) (encI L) := by
 rw [encI_eq];refine flat_wc (es := L.map Tv.int) (by simp [hl]) hn hr hnc fun x hx => ?_;obtain ⟨z,hz,rfl⟩ := List.mem_map.1 hx;exact h z hz
end Go.Proofs.YtifejdpffkeniaaGreatDoor
