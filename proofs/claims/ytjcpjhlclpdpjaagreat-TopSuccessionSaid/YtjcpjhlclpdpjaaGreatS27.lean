import Derived.Test.YtjcpjhlclpdpjaaGreatS23
import Derived.Test.YtjcpjhlclpdpjaaGreatS26
set_option linter.unusedVariables false
set_option maxRecDepth 100000
set_option maxHeartbeats 16000000
namespace Go.Proofs.YtjcpjhlclpdpjaaGreat
open Go.RowKit
attribute [local go_sem] Oper.semAt_some
theorem swap_perm : ∀ (ys : List Int) (i : Nat),i + 1 < ys.length → ((ys.set (i + 1) (ys.getD i 0)).set i (ys.getD (i + 1) 0)).Perm ys
 | [],i,h => by simp at h
 | [a],i,h => by simp at h
 | a :: b :: t,0,h => by simpa using List.Perm.swap a b t
 | a :: b :: t,i + 1,h => by
  have := swap_perm (b :: t) i (by simpa using h)
  simpa using this.cons a
structure Ins (ys : List Int) (n i j : Nat) : Prop where
 len : ys.length = n
 le : j ≤ i
 oth : ∀ p q,p < q → q ≤ i → p ≠ j → q ≠ j → ys.getD p 0 ≤ ys.getD q 0
 nxt : ∀ q,j < q → q ≤ i → ys.getD j 0 ≤ ys.getD q 0
theorem getD_set' (ys : List Int) (i k : Nat) (v : Int) (hi : i < ys.length) : (ys.set i v).getD k 0 = if i = k then v else ys.getD k 0 := by
 rw [List.getD_eq_getElem?_getD,List.getElem?_set]
 by_cases e : i = k
 ·subst e;simp [hi]
 ·simp [e]
theorem Ins.step {ys : List Int} {n i j : Nat} (h : Ins ys n i (j + 1)) (hi : i < n) (hl : ys.getD (j + 1) 0 < ys.getD j 0) : Ins ((ys.set (j + 1) (ys.getD j 0)).set j (ys.getD (j + 1) 0)) n i j := by
 have hle := h.le
 have hlen := h.len
 have hg : ∀ k,((ys.set (j + 1) (ys.getD j 0)).set j (ys.getD (j + 1) 0)).getD k 0 = if j = k then ys.getD (j + 1) 0 else if j + 1 = k then ys.getD j 0 else ys.getD k 0 := fun k => by
  rw [getD_set' _ _ _ _ (by rw [List.length_set];omega),getD_set' _ _ _ _ (by omega)]
 refine ⟨by rw [List.length_set,List.length_set];exact hlen,by omega,fun p q hpq hq hp hqj => ?_,fun q hq1 hq2 => ?_⟩
 ·rw [hg p,hg q,if_neg (show ¬ j = p by omega),if_neg (show ¬ j = q by omega)]
  by_cases e1 : j + 1 = p
  ·rw [if_pos e1,if_neg (show ¬ j + 1 = q by omega)]
   exact h.oth j q (by omega) hq (by omega) (by omega)
  ·rw [if_neg e1]
   by_cases e2 : j + 1 = q
   ·rw [if_pos e2]
    exact h.oth p j (by omega) (by omega) (by omega) (by omega)
   ·rw [if_neg e2]
    exact h.oth p q hpq hq (by omega) (by omega)
 ·rw [hg j,if_pos rfl,hg q,if_neg (show ¬ j = q by omega)]
  by_cases e : j + 1 = q
  ·rw [if_pos e];omega
  ·rw [if_neg e];exact h.nxt q (by omega) hq2
theorem Ins.done {ys : List Int} {n i j : Nat} (h : Ins ys n i j) (hl : j = 0 ∨ ys.getD (j - 1) 0 ≤ ys.getD j 0) : ∀ p q,p < q → q ≤ i → ys.getD p 0 ≤ ys.getD q 0 := by
 intro p q hpq hq
 by_cases e1 : p = j
 ·subst e1;exact h.nxt q hpq hq
 ·by_cases e2 : q = j
  ·subst e2
   rcases hl with hl | hl
   ·omega
   ·by_cases e3 : p = q - 1
    ·rw [e3];exact hl
    ·have := h.oth p (q - 1) (by omega) (by omega) (by omega) (by omega)
     omega
  ·exact h.oth p q hpq hq e1 e2
theorem isort_any (g n c B : Nat) (xs : List Int) (w : World) (h : w.ownsRow B 3 1 (.slice (some ⟨g,0,none⟩) n c) n (ivs xs)) (hn0 : 0 < n) (hn : n ≤ 12) :
  Calls Tryz.prog 119 #[.slice (some ⟨g,0,none⟩) n c,.int .i64 0,.int .i64 (n : Int)] w fun r w' => r = .returned (.tuple #[]) ∧ ∃ ys : List Int,ys.Perm xs ∧ (∀ p q,p < q → q < n → ys.getD p 0 ≤ ys.getD q 0) ∧ w'.ownsRow B 3 1 (.slice (some ⟨g,0,none⟩) n c) n (ivs ys) ∧ Tch (fun k => k = g) w w' := by
 have hl : xs.length = n := by have := h.1;simpa using this
 have HO := Lib.hid h
 have HL := Lib.hid hl
 clear h hl
 go_enter Tryz.func119,Tryz.ntmps119
 go_wp2
 go_loopw [6] (fun i wr => ∃ (k : Nat) (ys : List Int),1 ≤ k ∧ (k ≤ n ∨ k = 1) ∧ i = .int .i64 k ∧ ys.Perm xs ∧ (∀ p q,p < q → q < k → ys.getD p 0 ≤ ys.getD q 0) ∧ wr.ownsRow B 3 1 (.slice (some ⟨g,0,none⟩) n c) n (ivs ys) ∧ Tch (fun k => k = g) w wr) (fun i _ => n - (intOf i).toNat)
 case atStart => exact ⟨1,xs,Nat.le_refl _,.inr rfl,rfl,List.Perm.refl _,fun p q h1 h2 => by omega,HO.out,Tch.refl _ _⟩
 case round =>
  clear HO
  obtain ⟨i,ys,hi1,hin,rfl,hpm,hso,how,htc⟩ := hrel
  have hyl : ys.length = n := by rw [hpm.length_eq];exact HL.out
  by_cases hlt : i < n
  ·have k1 : (i : Int) < (n : Int) := by omega
   have HINS : Hid (Ins ys n i i) := ⟨hyl,Nat.le_refl _,fun p q h1 h2 h3 h4 => hso p q h1 (by omega),fun q h1 h2 => by omega⟩
   have HOW := Lib.hid (And.intro hpm (And.intro how htc))
   clear hpm hso how htc hyl
   go_wp2_with fail
   go_loopw [7] (fun j wr => ∃ (k : Nat) (ys : List Int),k ≤ i ∧ j = .int .i64 k ∧ Ins ys n i k ∧ ys.Perm xs ∧ wr.ownsRow B 3 1 (.slice (some ⟨g,0,none⟩) n c) n (ivs ys) ∧ Tch (fun k => k = g) w wr) (fun j _ => (intOf j).toNat)
   case atStart => exact ⟨i,ys,Nat.le_refl _,rfl,HINS.out,HOW.out⟩
   case round =>
    clear HOW HINS
    obtain ⟨k,ys,hk,rfl,hins,hpm,how,htc⟩ := hrel
    have HINS := Lib.hid hins
    have HOW := Lib.hid (And.intro hpm (And.intro how htc))
    by_cases hk0 : k = 0
    ·subst hk0
     clear hins hpm how htc
     go_wp2_with fail
     rename_i Kz hKz
     refine wp_region_ord (fun w' => True) [(0,true),(1,true),(2,true),(3,true),(4,true),(5,true),(6,true),(7,true),(8,true),(9,true),(10,true),(11,true),(12,true),(13,true),(14,true)] (by kernel_rfl) (by kernel_rfl) rfl (by kernel_rfl) (fun x _ _ _ _ h => by cases x <;> exact h) trivial ?_
     iterate 15 (first | (refine wpOrd_skip rfl (by rfl) fun KK hKK => ?_;go_simp;refine hKK _ ?_;clear hKK KK) | (refine wpOrd_take rfl _ (by rfl) (by intro w' hS;skip;go_simp;try with_reducible rfl) fun KK hKK => ?_;go_simp;refine hKK _ ?_;clear hKK KK))
     refine wpOrd_nil ?_
     show Kz _ _
     refine hKz _ _ ?_
     go_simp
     go_wp2_with fail
     have hd := HINS.out.done (.inl rfl)
     go_roundw
     case rel => exact ⟨i + 1,ys,by omega,.inl (by omega),by go_num,HOW.out.1,fun p q h1 h2 => hd p q h1 (by omega),own_below HOW.out.2.1 ((Below.refl _ _).drew : Below wr.heap.size wr wr.drew) (fun g hg => (HOW.out.2.1.lt g hg).2),HOW.out.2.2.drew⟩
     case measure => simp [intOf];omega
    ·obtain ⟨m,rfl⟩ : ∃ m,k = m + 1 := ⟨k - 1,by omega⟩
     have m0 : (0 : Int) ≤ (m : Int) + 1 := by omega
     have m1 : (m : Int) + 1 < (n : Int) := by omega
     have m2 : (m : Int) < (n : Int) := by omega
     have em : (0 : Int) ≤ (m : Int) ∧ IntKind.i64.wrap (m : Int) = (m : Int) := ⟨by omega,by rw [IntKind.wrap_i64];omega⟩
     have hyl := hins.len
     have ca : wr.cell? ⟨g,m + 1,none⟩ = some (.int .i64 (ys.getD (m + 1) 0)) := by
      rw [how.cellAt (m + 1) (by omega),List.getElem?_map,List.getElem?_eq_getElem (by omega),List.getD_eq_getElem?_getD,List.getElem?_eq_getElem (by omega)];rfl
     have cb : wr.cell? ⟨g,m,none⟩ = some (.int .i64 (ys.getD m 0)) := by
      rw [how.cellAt m (by omega),List.getElem?_map,List.getElem?_eq_getElem (by omega),List.getD_eq_getElem?_getD,List.getElem?_eq_getElem (by omega)];rfl
     have hfa := how.frozenAt (m + 1)
     have hfb := how.frozenAt m
     obtain ⟨X,hX⟩ : ∃ x,ys.getD (m + 1) 0 = x := ⟨_,rfl⟩
     obtain ⟨Y,hY⟩ : ∃ x,ys.getD m 0 = x := ⟨_,rfl⟩
     rw [hX] at ca
     rw [hY] at cb
     have HXY := Lib.hid (And.intro hX hY)
     have HCC : Hid (wr.cell? ⟨g,m + 1,none⟩ = some (.int .i64 X) ∧ wr.cell? ⟨g,m,none⟩ = some (.int .i64 Y) ∧ wr.frozen? ⟨g,m + 1,none⟩ = false ∧ wr.frozen? ⟨g,m,none⟩ = false) := ⟨ca,cb,hfa,hfb⟩
     have HM : Hid ((0 : Int) ≤ (m : Int) + 1 ∧ (m : Int) + 1 < (n : Int) ∧ (m : Int) < (n : Int) ∧ (0 : Int) ≤ (m : Int) ∧ IntKind.i64.wrap (m : Int) = (m : Int)) := ⟨m0,m1,m2,em⟩
     clear hins hpm how htc hX hY ca cb hfa hfb
     go_wp2_with fail
     rename_i Kz hKz
     refine wp_region_ord (fun w' => w'.cell? ⟨g,m + 1,none⟩ = some (.int .i64 X) ∧ w'.cell? ⟨g,m,none⟩ = some (.int .i64 Y)) [(0,true),(1,true),(2,true),(3,true),(4,true),(5,true),(6,true),(7,true),(8,true),(9,true),(10,true),(11,true),(12,true),(13,false),(14,true)] (by kernel_rfl) (by kernel_rfl) rfl (by kernel_rfl) (fun x _ _ _ _ h => by cases x <;> exact h) ⟨HCC.out.1,HCC.out.2.1⟩ ?_
     iterate 13 (first | (refine wpOrd_skip rfl (by rfl) fun KK hKK => ?_;go_simp;refine hKK _ ?_;clear hKK KK) | (refine wpOrd_take rfl _ (by rfl) (by intro w' hS;have ca := hS.1;have cb := hS.2;obtain ⟨m0,m1,m2,em,ew⟩ := HM.out;go_simp;try with_reducible rfl) fun KK hKK => ?_;go_simp;refine hKK _ ?_;clear hKK KK))
     by_cases hxy : X < Y
     ·have HLE : Hid (∀ W,Calls Tryz.prog 115 #[.int .i64 X,.int .i64 Y] W fun r w' => r = .returned (.bool true) ∧ W = w') := fun W => by have := less_any X Y W;rwa [decide_eq_true hxy] at this
      have HXL := Lib.hid hxy
      clear hxy
      refine wpOrd_force rfl (by rfl) fun KK hKK => ?_
      go_simp
      refine (HLE.out _).mono ?_
      rintro e w8 ⟨rfl,rfl⟩
      refine hKK _ _ ⟨HCC.out.1,HCC.out.2.1⟩ ?_
      clear hKK KK
      iterate 1 (first | (refine wpOrd_skip rfl (by rfl) fun KK hKK => ?_;go_simp;refine hKK _ ?_;clear hKK KK) | (refine wpOrd_take rfl _ (by rfl) (by intro w' hS;skip;go_simp;try with_reducible rfl) fun KK hKK => ?_;go_simp;refine hKK _ ?_;clear hKK KK))
      refine wpOrd_nil ?_
      show Kz _ _
      refine hKz _ _ ?_
      go_simp
      go_wp2_with fail
      rename_i Kz2 hKz2
      have HOD : Hid (wr.drew.drew.ownsRow B 3 1 (.slice (some ⟨g,0,none⟩) n c) n (ivs ys) ∧ Tch (fun k => k = g) w wr.drew.drew) := ⟨own_below HOW.out.2.1 ((Below.refl _ _).drew.drew : Below wr.heap.size wr wr.drew.drew) (fun g hg => (HOW.out.2.1.lt g hg).2),HOW.out.2.2.drew.drew⟩
      have HCD : Hid (wr.drew.drew.cell? ⟨g,m + 1,none⟩ = some (.int .i64 X) ∧ wr.drew.drew.cell? ⟨g,m,none⟩ = some (.int .i64 Y) ∧ wr.drew.drew.frozen? ⟨g,m + 1,none⟩ = false ∧ wr.drew.drew.frozen? ⟨g,m,none⟩ = false) := HCC.out
      refine wp_region_tree (fun w' => True) (.take 0 (.take 1 (.take 2 (.take 3 (.take 4 (.take 5 (.take 6 (.take 7 (.take 8 (.take 10 (.take 11 (.take 12 (.two 9 (.one 13 (.take 14 (.one 15 (.take 16 (.one 17 .done))))) 13 (.one 9 (.take 14 (.one 15 (.take 16 (.one 17 .done)))))))))))))))))) (by kernel_rfl) (by kernel_rfl) (by kernel_rfl) (by kernel_rfl) (fun x _ _ _ _ h => by cases x <;> exact h) trivial ?_
      generalize wr.drew.drew = wd at HOD HCD ⊢
      iterate 12 (refine wpOT_take rfl _ (by rfl) (by intro w' hS;obtain ⟨m0,m1,m2,em,ew⟩ := HM.out;go_simp;try with_reducible rfl) fun KK hKK => ?_;go_simp;refine hKK _ ?_;clear hKK KK)
      refine wpOT_two rfl (by rfl) rfl (by rfl) (fun KK hKK => ?_) (fun KK hKK => ?_)
      ·have cc := HCD.out.2.1
       go_simp
       refine hKK _ _ trivial ?_
       clear hKK KK cc
       refine wpOT_one rfl (by rfl) fun KK hKK => ?_
       have cc := HCD.out.1
       go_simp
       refine hKK _ _ trivial ?_
       clear hKK KK cc
       refine wpOT_take rfl _ (by rfl) (by intro w' hS;obtain ⟨m0,m1,m2,em,ew⟩ := HM.out;go_simp;try with_reducible rfl) fun KK hKK => ?_
       go_simp
       refine hKK _ ?_
       clear hKK KK
       refine wpOT_one rfl (by rfl) fun KK hKK => ?_
       have cc := HCD.out.1
       have fc := HCD.out.2.2.1
       go_simp
       refine hKK _ _ trivial ?_
       clear hKK KK cc fc
       refine wpOT_take rfl _ (by rfl) (by intro w' hS;obtain ⟨m0,m1,m2,em,ew⟩ := HM.out;go_simp;try with_reducible rfl) fun KK hKK => ?_
       go_simp
       refine hKK _ ?_
       clear hKK KK
       refine wpOT_one rfl (by rfl) fun KK hKK => ?_
       have cc := HCD.out.2.1
       have fc := HCD.out.2.2.2
       go_simp
       refine hKK _ _ trivial ?_
       clear hKK KK cc fc
       refine wpOT_done ?_
       show Kz2 _ _
       refine hKz2 _ _ ?_
       go_simp
       go_wp2_with fail
       go_roundw
       case rel =>
        obtain ⟨q1,q2⟩ := HOD.out
        have q3 := (q1.stored (m + 1) (.int .i64 Y)).1
        have q4 := (q3.stored m (.int .i64 X)).1
        refine ⟨m,_,by omega,congrArg (Value.int .i64) (by omega),HINS.out.step hlt (by rw [HXY.out.1,HXY.out.2];exact HXL.out),(swap_perm ys m (by rw [HINS.out.len];omega)).trans HOW.out.1,?_,(q2.set (p := ⟨g,m + 1,none⟩) (.inr rfl) _).set (p := ⟨g,m,none⟩) (.inr rfl) _⟩
        rw [HXY.out.1,HXY.out.2,show ivs ((ys.set (m + 1) Y).set m X) = ((ivs ys).set (m + 1) (.int .i64 Y)).set m (.int .i64 X) by simp [List.map_set]]
        exact q4
       case measure => simp [intOf]
      ·have cc := HCD.out.1
       go_simp
       refine hKK _ _ trivial ?_
       clear hKK KK cc
       refine wpOT_one rfl (by rfl) fun KK hKK => ?_
       have cc := HCD.out.2.1
       go_simp
       refine hKK _ _ trivial ?_
       clear hKK KK cc
       refine wpOT_take rfl _ (by rfl) (by intro w' hS;obtain ⟨m0,m1,m2,em,ew⟩ := HM.out;go_simp;try with_reducible rfl) fun KK hKK => ?_
       go_simp
       refine hKK _ ?_
       clear hKK KK
       refine wpOT_one rfl (by rfl) fun KK hKK => ?_
       have cc := HCD.out.1
       have fc := HCD.out.2.2.1
       go_simp
       refine hKK _ _ trivial ?_
       clear hKK KK cc fc
       refine wpOT_take rfl _ (by rfl) (by intro w' hS;obtain ⟨m0,m1,m2,em,ew⟩ := HM.out;go_simp;try with_reducible rfl) fun KK hKK => ?_
       go_simp
       refine hKK _ ?_
       clear hKK KK
       refine wpOT_one rfl (by rfl) fun KK hKK => ?_
       have cc := HCD.out.2.1
       have fc := HCD.out.2.2.2
       go_simp
       refine hKK _ _ trivial ?_
       clear hKK KK cc fc
       refine wpOT_done ?_
       show Kz2 _ _
       refine hKz2 _ _ ?_
       go_simp
       go_wp2_with fail
       go_roundw
       case rel =>
        obtain ⟨q1,q2⟩ := HOD.out
        have q3 := (q1.stored (m + 1) (.int .i64 Y)).1
        have q4 := (q3.stored m (.int .i64 X)).1
        refine ⟨m,_,by omega,congrArg (Value.int .i64) (by omega),HINS.out.step hlt (by rw [HXY.out.1,HXY.out.2];exact HXL.out),(swap_perm ys m (by rw [HINS.out.len];omega)).trans HOW.out.1,?_,(q2.set (p := ⟨g,m + 1,none⟩) (.inr rfl) _).set (p := ⟨g,m,none⟩) (.inr rfl) _⟩
        rw [HXY.out.1,HXY.out.2,show ivs ((ys.set (m + 1) Y).set m X) = ((ivs ys).set (m + 1) (.int .i64 Y)).set m (.int .i64 X) by simp [List.map_set]]
        exact q4
       case measure => simp [intOf]
     ·have HLE : Hid (∀ W,Calls Tryz.prog 115 #[.int .i64 X,.int .i64 Y] W fun r w' => r = .returned (.bool false) ∧ W = w') := fun W => by have := less_any X Y W;rwa [decide_eq_false hxy] at this
      have HXL : Hid (Y ≤ X) := by show Y ≤ X;omega
      clear hxy
      refine wpOrd_force rfl (by rfl) fun KK hKK => ?_
      go_simp
      refine (HLE.out _).mono ?_
      rintro e w8 ⟨rfl,rfl⟩
      refine hKK _ _ ⟨HCC.out.1,HCC.out.2.1⟩ ?_
      clear hKK KK
      iterate 1 (first | (refine wpOrd_skip rfl (by rfl) fun KK hKK => ?_;go_simp;refine hKK _ ?_;clear hKK KK) | (refine wpOrd_take rfl _ (by rfl) (by intro w' hS;skip;go_simp;try with_reducible rfl) fun KK hKK => ?_;go_simp;refine hKK _ ?_;clear hKK KK))
      refine wpOrd_nil ?_
      show Kz _ _
      refine hKz _ _ ?_
      go_simp
      go_wp2_with fail
      have hd := HINS.out.done (.inr (by rw [Nat.add_sub_cancel,HXY.out.1,HXY.out.2];exact HXL.out))
      go_roundw
      case rel => exact ⟨i + 1,ys,by omega,.inl (by omega),by go_num,HOW.out.1,fun p q h1 h2 => hd p q h1 (by omega),own_below HOW.out.2.1 ((Below.refl _ _).drew : Below wr.heap.size wr wr.drew) (fun g hg => (HOW.out.2.1.lt g hg).2),HOW.out.2.2.drew⟩
      case measure => simp [intOf];omega
  ·have HOW := Lib.hid (And.intro hpm (And.intro hso (And.intro how htc)))
   clear hpm hso how htc
   go_wp2_with fail
   refine bodyPost_end (results_none' rfl _ _ _ rfl) rfl ?_
   exact ⟨rfl,ys,HOW.out.1,fun p q h1 h2 => HOW.out.2.1 p q h1 (by omega),HOW.out.2.2.1,HOW.out.2.2.2⟩
theorem len64_any (n : Nat) (hn : n ≤ 12) (w : World) : Calls Tryz.prog 128 #[.int .u64 (n : Int)] w fun r w' => (∃ x,r = .returned (.int .i64 x)) ∧ w = w' := by
 have h : n = 0 ∨ n = 1 ∨ n = 2 ∨ n = 3 ∨ n = 4 ∨ n = 5 ∨ n = 6 ∨ n = 7 ∨ n = 8 ∨ n = 9 ∨ n = 10 ∨ n = 11 ∨ n = 12 := by omega
 clear hn
 rcases h with rfl | rfl | rfl | rfl | rfl | rfl | rfl | rfl | rfl | rfl | rfl | rfl | rfl
 all_goals
  go_enter Tryz.func128,Tryz.ntmps128
  go_wp2
  go_ret
  exact ⟨⟨_,rfl⟩,rfl⟩
theorem len_any (n : Nat) (hn : n ≤ 12) (w : World) : Calls Tryz.prog 111 #[.int .u64 (n : Int)] w fun r w' => (∃ x,r = .returned (.int .i64 x)) ∧ w = w' := by
 have H := Lib.hid (len64_any n hn)
 go_enter Tryz.func111,Tryz.ntmps111
 go_wp2_with (go_at_call 128;refine (H.out _).mono ?_;rintro e w1 ⟨⟨x,rfl⟩,rfl⟩)
 go_ret
 exact ⟨⟨x,rfl⟩,rfl⟩
theorem pdq_any (g n c B : Nat) (xs : List Int) (lim : Int) (w : World) (h : w.ownsRow B 3 1 (.slice (some ⟨g,0,none⟩) n c) n (ivs xs)) (hn0 : 0 < n) (hn : n ≤ 12) :
  Calls Tryz.prog 110 #[.slice (some ⟨g,0,none⟩) n c,.int .i64 0,.int .i64 (n : Int),.int .i64 lim] w fun r w' => r = .returned (.tuple #[]) ∧ ∃ ys : List Int,ys.Perm xs ∧ (∀ p q,p < q → q < n → ys.getD p 0 ≤ ys.getD q 0) ∧ w'.ownsRow B 3 1 (.slice (some ⟨g,0,none⟩) n c) n (ivs ys) ∧ Tch (fun k => k = g) w w' := by
 have H := Lib.hid (isort_any g n c B xs w h hn0 hn)
 have k1 : (n : Int) ≤ 12 := by omega
 clear h
 go_enter Tryz.func110,Tryz.ntmps110
 go_wp2_with fail
 refine wp_loop_rounds 1 ?_
 rw [rounds_succ]
 go_wp2_with fail
 refine H.out.mono ?_
 rintro e w1 ⟨rfl,hq⟩
 have HQ := Lib.hid hq
 clear hq
 go_wp2_with fail
 refine bodyPost_ret (results_none' rfl _ _ _ rfl) rfl ?_
 exact ⟨rfl,HQ.out⟩
theorem sort_any (g n c B : Nat) (xs : List Int) (w : World) (h : w.ownsRow B 3 1 (.slice (some ⟨g,0,none⟩) n c) n (ivs xs)) (hn0 : 0 < n) (hn : n ≤ 12) :
  Calls Tryz.prog 83 #[.slice (some ⟨g,0,none⟩) n c] w fun r w' => r = .returned (.tuple #[]) ∧ ∃ ys : List Int,ys.Perm xs ∧ (∀ p q,p < q → q < n → ys.getD p 0 ≤ ys.getD q 0) ∧ w'.ownsRow B 3 1 (.slice (some ⟨g,0,none⟩) n c) n (ivs ys) ∧ Tch (fun k => k = g) w w' := by
 have H := Lib.hid (fun lim => pdq_any g n c B xs lim w h hn0 hn)
 have HLN := Lib.hid (len_any n hn)
 have k1 : (n : Int) ≤ 12 := by omega
 clear h
 go_enter Tryz.func83,Tryz.ntmps83
 go_wp2_with (go_at_call 111;refine (HLN.out _).mono ?_;rintro e w1 ⟨⟨x,rfl⟩,rfl⟩)
 refine (H.out _).mono ?_
 rintro e w1 ⟨rfl,hq⟩
 have HQ := Lib.hid hq
 clear hq
 go_wp2_with fail
 refine bodyPost_end (results_none' rfl _ _ _ rfl) rfl ?_
 exact ⟨rfl,HQ.out⟩
theorem sorted_eq {ys xs P : List Int} (hp : ys.Perm xs) (hs : ∀ p q,p < q → q < ys.length → ys.getD p 0 ≤ ys.getD q 0) (hx : xs.Perm P) (hP : P.Pairwise (· < ·)) : ys = P := by
 have h1 : ys.Pairwise (· ≤ ·) := List.pairwise_iff_getElem.2 fun i j hi hj hij => by
  have := hs i j hij hj
  rwa [List.getD_eq_getElem?_getD,List.getElem?_eq_getElem hi,List.getD_eq_getElem?_getD,List.getElem?_eq_getElem hj] at this
 have h2 : P.Pairwise (· ≤ ·) := hP.imp fun h => Int.le_of_lt h
 exact (hp.trans hx).eq_of_pairwise (fun a b _ _ h1 h2 => Int.le_antisymm h1 h2) h1 h2
end Go.Proofs.YtjcpjhlclpdpjaaGreat
namespace Go.Proofs.YtjcpjhlclpdpjaaGreat
open Go.RowKit
attribute [local go_sem] Oper.semAt_some
theorem results_agg4 {fn : Func} {p q : Tmp} (h : fn.results = #[.cell p 107,.tmp q]) (tmps : Array Value) (w : World) (g : Nat) {v0 v1 v2 v3 : Value}
  (hp : tmps.getD p undef = .pointer (some ⟨g,0,none⟩)) (h0 : w.cell? ⟨g,0,none⟩ = some v0) (h1 : w.cell? ⟨g,1,none⟩ = some v1) (h2 : w.cell? ⟨g,2,none⟩ = some v2) (h3 : w.cell? ⟨g,3,none⟩ = some v3) : (results fn tmps).run Tryz.prog w = .ok (.tuple #[.agg #[v0,v1,v2,v3],tmps.getD q undef]) w := by
 have hp' : tmps[p]?.getD undef = .pointer (some ⟨g,0,none⟩) := by simpa using hp
 have ha : (isAgg 107).run Tryz.prog w = .ok true w := by kernel_rfl
 have hl : (loadVar 107 ⟨g,0,none⟩).run Tryz.prog w = .ok (.agg #[v0,v1,v2,v3]) w := by
  obtain ⟨ii,hii,hzz⟩ := Option.map_eq_some_iff.1 (show (Tryz.prog.info? 107).map (fun i => i.size) = some 4 by kernel_rfl)
  simp [loadVar,ha,sizeOf,typeInfo,hii,hzz,go_sem,h0,h1,h2,h3]
 simp [results,h,hp',asAddr,hl]
theorem next_people {w : World} {ops : Array Oper} {rest : List Oper} {o : Oper} {a : Act} {Q : Exit → Act → World → Prop} (hg : o.guard = none) (it : Operand) (hop : o.op = Op.next it false) {z r n : Nat} {D : DataW Unit} {left : Lit → Bool} {cnt : Nat} (hit : a.eval it = .pointer (some ⟨r,0,none⟩))
  (h : w.ranges Tryz.prog 3 (plainElem Tryz.prog 4) z r n D left cnt) (F1 F2 F3 : World → Prop) (hF : ∀ w',w.grownBy w' (some r) → w'.heap.size = w.heap.size → F1 w' ∧ F2 w' ∧ F3 w')
  (hDone : cnt = 0 → (∀ kl,left kl = false) → wpList Tryz.prog ops Q rest (a.put o.dst (.tuple #[.bool false])) w)
  (hMore : ∀ (x : Int) (c : Bool) (w' : World) (cnt' : Nat),left (.int .i64 x) = true → Hid (w'.ranges Tryz.prog 3 (plainElem Tryz.prog 4) z r n D (fun z => left z && !z.sameKey (.int .i64 x)) cnt') → cnt' < cnt → F1 w' → F2 w' → F3 w' → (Instr.entry (.pointer (some ⟨r,0,none⟩))).run Tryz.prog w' = .ok (.tuple #[.int .i64 x,.bool c]) w' → wpList Tryz.prog ops Q rest (a.put o.dst (.tuple #[.bool true,.int .i64 x,.bool c])) w') :
  wpList Tryz.prog ops Q (o :: rest) a w :=
 wpList_next_ranges w hg it hop 3 keyInt (plainElem Tryz.prog 4) (Value.int .i64) Value.bool (fun key kl hkey => by obtain ⟨x,rfl,_⟩ := Maps.keyOf_int_inv Tryz.underlying3 hkey;exact ⟨x,rfl⟩) (fun v y hv => plainElem_bool_inv Tryz.underlying4 hv) z r n D left cnt hit h hDone
  (fun x c kl y w' cnt' hk hl hv ha hrg hlt hgr hs hen => by
   obtain ⟨x',ex,rfl,_⟩ := Maps.keyOf_int_inv Tryz.underlying3 hk
   cases ex
   obtain ⟨f1,f2,f3⟩ := hF w' hgr hs
   exact hMore x c w' cnt' hl hrg hlt f1 f2 f3 hen)
theorem lcheck_living (g : Gt) (L : List Int) (WA : Option Addr) (wc : Nat) (w : World) (h : g.ok w w.heap.size) (hP : Ppl g.P) (h0 : 0 < g.P.length) (h12 : g.P.length ≤ 12) (hL : Ppl L) (hw : Rd w w.heap.size 1 WA L.length (ivs L)) :
  Calls Tryz.prog 51 #[g.val,.slice WA L.length wc] w fun r w' => ∃ pg pc,r = .returned (.tuple #[.agg #[.int .i64 (-1),.int .i64 g.N,.slice g.A g.P.length g.c,.slice (some ⟨pg,0,none⟩) g.P.length pc],.int .i64 0]) ∧ w'.ownsRow w.heap.size 3 1 (.slice (some ⟨pg,0,none⟩) g.P.length pc) g.P.length (ivs g.P) ∧ Below w.heap.size w w' := by
 obtain ⟨s,hs⟩ : ∃ s,w.heap.size = s := ⟨_,rfl⟩
 have HFC : Hid (∀ W,Below s w W → Calls Tryz.prog 45 #[g.val] W fun r w' => r = .returned (.int .i64 0) ∧ Below W.heap.size W w') := fun W hW => fcheck_any g W ((h.below (by rw [hs];exact hW)).more (by have := hW.size;omega))
 have HCG : Hid (∀ W bm bw mb,Below s w W → MapB W mb [] → Row W bm 145 [.map (some mb)] → Row W bw 146 [(.func (.func 82) #[] #[.pointer (some ⟨bm,0,none⟩),.pointer (some ⟨bw,0,none⟩)])] → bm ≠ mb ∧ bw ≠ mb → s ≤ mb → Calls Tryz.prog 82 #[g.val,.pointer (some ⟨bm,0,none⟩),.pointer (some ⟨bw,0,none⟩)] W fun r w' => r = .returned (.tuple #[]) ∧ MapB w' mb g.P ∧ Tch (fun g => g = mb) W w') := fun W bm bw mb hW q1 q2 q3 q4 q5 =>
  check1_gate g bm bw mb W ((h.below (by rw [hs];exact hW)).more (by have := hW.size;omega)) hP q1 q2 q3 q4 (fun b o e => by
   obtain ⟨b',o',e1,hb',_⟩ := h.rd.2 h0
   rw [e] at e1;cases e1
   omega)
 have HWL : Hid (∀ k,k < L.length → ∃ b o p,WA = some ⟨b,o,none⟩ ∧ (∀ W,Below s w W → W.cell? ⟨b,o + k,none⟩ = some (.int .i64 p)) ∧ p < 64 ∧ lastI L k < p ∧ lastI L (k + 1) = p) := fun k hk => by
  obtain ⟨_,b,o,e1,_,hc⟩ := i64at hw hk
  obtain ⟨q1,q2,q3,_⟩ := hL.last hk
  exact ⟨b,o,L.getD k 0,e1,by rw [← hs];exact hc k hk,q3,q1,by unfold lastI;rw [if_neg (by omega)];rfl⟩
 have hm := hL.len
 obtain ⟨N,gA,gc,P⟩ := g
 change Ppl P at hP
 change 0 < P.length at h0
 change P.length ≤ 12 at h12
 have HPP := Lib.hid hP
 obtain ⟨n,hnn⟩ : ∃ n,P.length = n := ⟨_,rfl⟩
 obtain ⟨m,hmm⟩ : ∃ m,L.length = m := ⟨_,rfl⟩
 show Calls _ _ #[.agg #[.int .i64 (-1),.int .i64 N,.slice gA P.length gc],_] _ fun r w' => ∃ pg pc,r = .returned (.tuple #[.agg #[.int .i64 (-1),.int .i64 N,.slice gA P.length gc,.slice (some ⟨pg,0,none⟩) P.length pc],.int .i64 0]) ∧ w'.ownsRow w.heap.size 3 1 (.slice (some ⟨pg,0,none⟩) P.length pc) P.length (ivs P) ∧ Below w.heap.size w w'
 change Hid (∀ W,Below s w W → Calls Tryz.prog 45 #[.agg #[.int .i64 (-1),.int .i64 N,.slice gA P.length gc]] W fun r w' => r = .returned (.int .i64 0) ∧ Below W.heap.size W w') at HFC
 change Hid (∀ W bm bw mb,Below s w W → MapB W mb [] → Row W bm 145 [.map (some mb)] → Row W bw 146 [(.func (.func 82) #[] #[.pointer (some ⟨bm,0,none⟩),.pointer (some ⟨bw,0,none⟩)])] → bm ≠ mb ∧ bw ≠ mb → s ≤ mb → Calls Tryz.prog 82 #[.agg #[.int .i64 (-1),.int .i64 N,.slice gA P.length gc],.pointer (some ⟨bm,0,none⟩),.pointer (some ⟨bw,0,none⟩)] W fun r w' => r = .returned (.tuple #[]) ∧ MapB w' mb P ∧ Tch (fun g => g = mb) W w') at HCG
 rw [hnn] at HFC HCG h0 h12 ⊢
 rw [hmm] at HWL hm ⊢
 have HS := Lib.hid hs
 have HNN := Lib.hid hnn
 clear h hP hL hw hs hnn hmm
 rw [HS.out]
 go_enter Tryz.func51,Tryz.ntmps51
 go_wp2_with fail
 obtain ⟨w1,hw1⟩ : ∃ x,((w.alloc (.cells #[.int .i64 (-1),.int .i64 N,.slice gA n gc] 68)).alloc (.cells #[.int .i64 0,.int .i64 0,.slice none 0 0,.slice none 0 0] 107)) = x := ⟨_,rfl⟩
 have hb1 : Below s w w1 := by rw [← hw1];rw [← HS.out];exact ((Below.refl _ w).alloc (Nat.le_refl _) _).alloc (by simp) _
 have hr0 : Row w1 s 68 [.int .i64 (-1),.int .i64 N,.slice gA n gc] := by rw [← hw1];exact (Row.fresh' _ _ _ HS.out).alloc _
 have hr1 : Row w1 (s + 1) 107 [.int .i64 0,.int .i64 0,.slice none 0 0,.slice none 0 0] := by rw [← hw1];exact Row.fresh' _ _ _ (by simp [HS.out])
 rw [hw1,HS.out]
 clear hw1
 refine (HFC.out w1 hb1).mono ?_
 rintro x w2 ⟨rfl,hb2⟩
 have HB2 : Hid (Below s w w2) := hb1.trans (hb2.mono (by have := hr0.lt;omega))
 have hg2 := hr0.below hb2 hr0.lt
 have hs2 := hr1.below hb2 hr1.lt
 clear hr0 hr1 hb1 hb2 HFC
 have hg2m := ((hg2.alloc (.map #[] 0)).alloc (.cells #[.map (some w2.heap.size)] 145)).alloc (.cells #[(.func (.func 82) #[] #[.pointer (some ⟨w2.heap.size + 1,0,none⟩),.pointer (some ⟨w2.heap.size + 1 + 1,0,none⟩)])] 146)
 have q0 := hg2m.cell (i := 0) rfl
 have q1 := hg2m.cell (i := 1) rfl
 have q2 := hg2m.cell (i := 2) rfl
 have l0 := hg2.lt
 clear hg2m
 have HG2 := Lib.hid (And.intro hg2 hs2)
 have hmm := @run_makeMap Tryz.prog
 clear hg2 hs2
 go_wp2_with fail
 obtain ⟨z,hz⟩ : ∃ x,w2.heap.size = x := ⟨_,rfl⟩
 obtain ⟨w3,hw3⟩ : ∃ x,((w2.alloc (.map #[] 0)).alloc (.cells #[.map (some z)] 145)).alloc (.cells #[(.func (.func 82) #[] #[.pointer (some ⟨z + 1,0,none⟩),.pointer (some ⟨z + 1 + 1,0,none⟩)])] 146) = x := ⟨_,rfl⟩
 have hb3 : Below w2.heap.size w2 w3 := by rw [← hw3];exact (((Below.refl _ _).alloc (Nat.le_refl _) _).alloc (by simp) _).alloc (by simp;omega) _
 have hm3 : MapB w3 z [] := by
  rw [← hw3,← hz]
  exact ((MapB.made w2).below ((Below.refl _ _).alloc (Nat.le_refl _) _)).below ((Below.refl _ _).alloc (Nat.le_refl _) _)
 have hx1 : Row w3 (z + 1) 145 [.map (some z)] := by rw [← hw3];exact (Row.fresh' _ _ _ (by simp [hz])).alloc _
 have hx2 : Row w3 (z + 1 + 1) 146 [(.func (.func 82) #[] #[.pointer (some ⟨z + 1,0,none⟩),.pointer (some ⟨z + 1 + 1,0,none⟩)])] := by rw [← hw3];exact Row.fresh' _ _ _ (by simp [hz])
 have hz3 : w3.heap.size = z + 1 + 1 + 1 := by rw [← hw3];simp [hz]
 have hsz : s + 1 < z := by have := HG2.out.2.lt;omega
 have hB3 : Below s w w3 := HB2.out.trans (hb3.mono (by omega))
 have hg3 := HG2.out.1.below hb3 HG2.out.1.lt
 have hs3 := HG2.out.2.below hb3 HG2.out.2.lt
 rw [hz,hw3]
 clear hw3 hmm q0 q1 q2 l0
 refine (HCG.out w3 (z + 1) (z + 1 + 1) z hB3 hm3 hx1 hx2 ⟨by omega,by omega⟩ (by omega)).mono ?_
 rintro x w4 ⟨rfl,hm4,ht4⟩
 have hx4 := ht4.row hx1 (by omega)
 have hg4 := ht4.row hg3 (by omega)
 have hs4 := ht4.row hs3 (by omega)
 have hB4 : Below s w w4 := hB3.trans (ht4.below (by omega) (by intro i hi e;omega))
 have hz4 : z + 1 + 1 + 1 ≤ w4.heap.size := by have := ht4.size;omega
 have c1 := hx4.cell (i := 0) rfl
 have hmsz := hm4
 obtain ⟨D,hown,hhas,hsize⟩ := hm4
 rw [HNN.out] at hown hsize
 have hlen := hown.len Tryz.underlying145
 rw [hsize] at hlen
 have n12 : ¬ (12 < (n : Int)) := by omega
 have HM4 := Lib.hid (And.intro hown (And.intro hhas hsize))
 have HR4 := Lib.hid (And.intro hg4 (And.intro hs4 (And.intro hB4 hx4)))
 clear hown hhas hsize hmsz hm3 hx1 hx2 hx4 hg3 hg4 hs3 hs4 hB3 hB4 hb3 HB2 HG2 HCG ht4 hz3 hz
 go_wp2_with fail
 clear hlen c1
 go_loopw [29,8] (fun i l wr => w4 = wr ∧ ∃ k : Nat,k ≤ m ∧ i = .int .i64 k ∧ l = .int .i64 (lastI L k)) (fun i _ _ => m - (intOf i).toNat)
 case atStart => exact ⟨rfl,0,Nat.zero_le _,rfl,rfl⟩
 case round =>
  obtain ⟨rfl,k,hk,rfl,rfl⟩ := hrel
  by_cases hlt : k < m
  ·have k1 : (k : Int) < (m : Int) := by omega
   have k0 : (0 : Int) ≤ (k : Int) := by omega
   obtain ⟨b,o,p,hWA,hc,hp,hl1,hl2⟩ := HWL.out k hlt
   subst hWA
   have q0 := hc w4 HR4.out.2.2.1
   obtain ⟨X,hX⟩ : ∃ X,lastI L k = X := ⟨_,rfl⟩
   rw [hX] at hl1 ⊢
   have HL2 := Lib.hid hl2
   have nl : ¬ (p ≤ X) := by omega
   have ng : ¬ (64 ≤ p) := by omega
   clear hc hp hl2 hX
   go_wp2
   go_roundw
   case rel => exact ⟨trivial,k + 1,by omega,by go_num,by rw [HL2.out]⟩
   case measure => simp [intOf];omega
  ·obtain rfl : k = m := by omega
   clear HWL
   have p0 := HR4.out.1.cell (i := 0) rfl
   have p1 := HR4.out.1.cell (i := 1) rfl
   have p2 := HR4.out.1.cell (i := 2) rfl
   have s0 := HR4.out.2.1.cell (i := 0) rfl
   have s1 := HR4.out.2.1.cell (i := 1) rfl
   have s2 := HR4.out.2.1.cell (i := 2) rfl
   have f0 := HR4.out.2.1.fz 0
   have f1 := HR4.out.2.1.fz 1
   have f2 := HR4.out.2.1.fz 2
   have c1 := HR4.out.2.2.2.cell (i := 0) rfl
   have HM5 : Hid ((((w4.setCell ⟨s + 1,0,none⟩ (.int .i64 (-1))).setCell ⟨s + 1,1,none⟩ (.int .i64 N)).setCell ⟨s + 1,2,none⟩ (.slice gA n gc)).ownsMap Tryz.prog 3 (plainElem Tryz.prog 4) z n D) := ((HM4.out.1.setCell (a := ⟨s + 1,0,none⟩) (by show z ≠ s + 1;omega) _).setCell (a := ⟨s + 1,1,none⟩) (by show z ≠ s + 1;omega) _).setCell (a := ⟨s + 1,2,none⟩) (by show z ≠ s + 1;omega) _
   have HR5 : Hid (Row (((w4.setCell ⟨s + 1,0,none⟩ (.int .i64 (-1))).setCell ⟨s + 1,1,none⟩ (.int .i64 N)).setCell ⟨s + 1,2,none⟩ (.slice gA n gc)) (s + 1) 107 [.int .i64 (-1),.int .i64 N,.slice gA n gc,.slice none 0 0] ∧ Below s w (((w4.setCell ⟨s + 1,0,none⟩ (.int .i64 (-1))).setCell ⟨s + 1,1,none⟩ (.int .i64 N)).setCell ⟨s + 1,2,none⟩ (.slice gA n gc)) ∧ z + 1 + 1 + 1 ≤ (((w4.setCell ⟨s + 1,0,none⟩ (.int .i64 (-1))).setCell ⟨s + 1,1,none⟩ (.int .i64 N)).setCell ⟨s + 1,2,none⟩ (.slice gA n gc)).heap.size) := by
    refine ⟨((HR4.out.2.1.put 0 (.int .i64 (-1))).put 1 (.int .i64 N)).put 2 (.slice gA n gc),((HR4.out.2.2.1.setCell (p := ⟨s + 1,0,none⟩) (by show s ≤ s + 1;omega) _).setCell (p := ⟨s + 1,1,none⟩) (by show s ≤ s + 1;omega) _).setCell (p := ⟨s + 1,2,none⟩) (by show s ≤ s + 1;omega) _,?_⟩
    simp only [World.size_setCell]
    exact hz4
   go_wp2_with (at_range;refine wpList_range_own _ rfl _ 145 rfl 3 4 keyInt Tryz.underlying145 _ z n D rfl HM5.out ?_;intro w6 hrg6 hg6 hs6)
   go_frame
   clear p0 p1 p2 s0 s1 s2 f0 f1 f2 c1
   have hr6 := HR5.out.1.grown hg6 (fun e => by cases e)
   have hB6 : Below s w w6 := HR5.out.2.1.grown hg6 (by have := HR5.out.2.2;omega) (fun g e => by cases e)
   generalize (((w4.setCell ⟨s + 1,0,none⟩ (.int .i64 (-1))).setCell ⟨s + 1,1,none⟩ (.int .i64 N)).setCell ⟨s + 1,2,none⟩ (.slice gA n gc)) = w5 at hrg6 hg6 hs6 HR5 ⊢
   obtain ⟨r,hr⟩ : ∃ x,w5.heap.size = x := ⟨_,rfl⟩
   have hrz : z + 1 + 1 + 1 ≤ r := by have := HR5.out.2.2;omega
   rw [hr] at hrg6 hs6 ⊢
   have HX6 : Hid (w6.ranges Tryz.prog 3 (plainElem Tryz.prog 4) z r n D (Maps.has D) (Maps.size D) ∧ Row w6 (s + 1) 107 [.int .i64 (-1),.int .i64 N,.slice gA n gc,.slice none 0 0] ∧ Below s w w6 ∧ w6.heap.size = r + 1) := ⟨hrg6,hr6,hB6,hs6⟩
   clear hrg6 hr6 hB6 hg6 hs6 HR5 hr HM5
   go_loopw [48] (fun _ wr => ∃ (left : Lit → Bool) (cnt : Nat) (ks : List Int) (pA : Option Addr) (pc : Nat),wr.ranges Tryz.prog 3 (plainElem Tryz.prog 4) z r n D left cnt ∧ (∀ x : Int,left (.int .i64 x) = (decide (x ∈ P) && !decide (x ∈ ks))) ∧ ks.Nodup ∧ (∀ x ∈ ks,x ∈ P) ∧ ks.length + cnt ≤ n ∧
    Row wr (s + 1) 107 [.int .i64 (-1),.int .i64 N,.slice gA n gc,.slice pA ks.length pc] ∧ wr.ownsRow (r + 1) 3 1 (.slice pA ks.length pc) ks.length (ivs ks) ∧ Below s w wr ∧ r + 1 ≤ wr.heap.size) (fun _ wr => wr.rangeLeft z r)
   case atStart =>
    refine ⟨_,_,[],none,0,HX6.out.1,fun x => ?_,List.nodup_nil,fun x hx => absurd hx (by simp),by rw [HM4.out.2.2];simp,HX6.out.2.1,World.ownsRow_nil _ _ _ _,HX6.out.2.2.1,Nat.le_of_eq HX6.out.2.2.2.symm⟩
    rw [HM4.out.2.1 x]
    simp
   case round =>
    clear HX6
    obtain ⟨left,cnt,ks,pA,pc,hrg,hleft,hnd,hsub,hcnt,hrw,how,hbw,hsz⟩ := hrel
    have HRG := Lib.hid hrg
    have HLF := Lib.hid hleft
    have HKS := Lib.hid (And.intro hnd hsub)
    have HRW := Lib.hid (And.intro hrw (And.intro how hbw))
    obtain ⟨j,hj⟩ : ∃ x,ks.length = x := ⟨_,rfl⟩
    have HJ := Lib.hid hj
    rw [hj] at hcnt
    have s3 := hrw.cell (i := 3) rfl
    rw [hj] at s3
    clear hrg hleft hnd hsub hrw how hbw hj
    have hFF : ∀ w' : World,wr.grownBy w' (some r) → w'.heap.size = wr.heap.size → w'.cell? ⟨s + 1,3,none⟩ = some (.slice pA j pc) ∧ w'.frozen? ⟨s + 1,3,none⟩ = false ∧ Hid (Below s w w' ∧ Row w' (s + 1) 107 [.int .i64 (-1),.int .i64 N,.slice gA n gc,.slice pA j pc] ∧ w'.ownsRow (r + 1) 3 1 (.slice pA j pc) j (ivs ks) ∧ r + 1 ≤ w'.heap.size) := fun w7 hg7 hs7 => by
     have hb7 : Below s w w7 := HRW.out.2.2.grown hg7 (by have := hsz;have := HS.out;omega) (fun g e => by cases e;omega)
     have hr7 := HRW.out.1.grown hg7 (fun e => by cases e;omega)
     have ho7 := HRW.out.2.1.kept hg7 (by cases ho : (Value.slice pA ks.length pc).ownBlock with | none => exact .inl rfl | some g => exact .inr (fun e => by have := (HRW.out.2.1.lt g ho).1;cases e;omega))
     rw [HJ.out] at hr7 ho7
     exact ⟨hr7.cell (i := 3) rfl,hr7.fz 3,hb7,hr7,ho7,by omega⟩
    have HFF := Lib.hid hFF
    clear hFF
    go_wp2_with (first | (at_next;refine next_people rfl _ rfl rfl HRG.out _ _ _ HFF.out (fun hc0 hl0 => ?_) (fun x c w7 cnt7 hl7 HRG7 hlt7 s3 f3 H7 hen7 => ?_)) | (refine wpList_append_rd _ rfl (.tmp 52) (.tmp 54) 23 rfl (r + 1) 3 _ (.int .i64 0) 1 8 Tryz.underlying23 rfl rfl rfl rfl rfl (by decide) (.slice pA j pc) j (ivs ks) (by rfl) (H7.out.2.2.1.alloc _) (w7.heap.size + 1) (some ⟨w7.heap.size,0,none⟩) 1 1 [.int .i64 x] (by rfl) (rd_newU w7 3 (.int .i64 x)) (by intro u hu;simp at hu;rw [hu];rfl) (by unfold maxLen;omega) (by omega) (by have := H7.out.2.2.2;simp;omega) ?_;intro v9 w9 hown9 hgrow9 _;have hr9 := (H7.out.2.1.alloc (.cells #[.int .i64 x] 3)).grown hgrow9 (fun e => by have := (H7.out.2.2.1.lt _ e.symm).1;omega);have s9 := hr9.cell (i := 3) rfl;have f9 := hr9.fz 3;obtain ⟨g9,c9,hv9,_,_⟩ := hown9.form (by omega);subst hv9;have H9 := Lib.hid (And.intro hr9 (And.intro hown9 hgrow9));clear hr9 hown9 hgrow9))
    ·have hpm : ks.Perm P := (List.perm_ext_iff_of_nodup HKS.out.1 (HPP.out.inc.imp fun h => Int.ne_of_lt h)).2 fun x => ⟨HKS.out.2 x,fun hx => by
      have h1 := HLF.out x
      rw [hl0,decide_eq_true hx] at h1
      by_cases h2 : x ∈ ks
      ·exact h2
      ·rw [decide_eq_false h2] at h1;cases h1⟩
     have hjn : j = n := by rw [← HJ.out,← HNN.out];exact hpm.length_eq
     subst hjn
     have how := HRW.out.2.1
     rw [HJ.out] at how
     obtain ⟨pg,pc2,hpv,_,_⟩ := how.form h0
     injection hpv with hpv _ hpv2
     subst hpv hpv2
     have HSO := Lib.hid (sort_any pg j pc (r + 1) ks wr how h0 h12)
     have HPM := Lib.hid hpm
     have hge := own_ge how h0
     clear hl0 hc0 hpm how
     go_wp2_with fail
     refine HSO.out.mono ?_
     rintro x8 w8 ⟨rfl,ys,hyp,hys,how8,ht8⟩
     have hye : ys = P := sorted_eq hyp (fun p q h1 h2 => hys p q h1 (by rw [hyp.length_eq,HJ.out] at h2;exact h2)) HPM.out HPP.out.inc
     subst hye
     have hr8 := ht8.row HRW.out.1 (by omega)
     have hb8 : Below s w w8 := HRW.out.2.2.trans (ht8.below (by have := HRW.out.2.2.size;have := HS.out;omega) (by intro i hi e;omega))
     rw [HJ.out] at hr8
     have s0 := hr8.cell (i := 0) rfl
     have s1 := hr8.cell (i := 1) rfl
     have s2 := hr8.cell (i := 2) rfl
     have s3 := hr8.cell (i := 3) rfl
     have f0 := hr8.fz 0
     have f1 := hr8.fz 1
     have f2 := hr8.fz 2
     have f3 := hr8.fz 3
     have H8 := Lib.hid (And.intro hr8 (And.intro how8 hb8))
     clear hyp hys how8 ht8 hr8 hb8
     go_wp2_with fail
     have hr9 : Row ((((w8.setCell ⟨s + 1,0,none⟩ (.int .i64 (-1))).setCell ⟨s + 1,1,none⟩ (.int .i64 N)).setCell ⟨s + 1,2,none⟩ (.slice gA j gc)).setCell ⟨s + 1,3,none⟩ (.slice (some ⟨pg,0,none⟩) j pc)) (s + 1) 107 [.int .i64 (-1),.int .i64 N,.slice gA j gc,.slice (some ⟨pg,0,none⟩) j pc] :=
      (((H8.out.1.put 0 (.int .i64 (-1))).put 1 (.int .i64 N)).put 2 (.slice gA j gc)).put 3 (.slice (some ⟨pg,0,none⟩) j pc)
     have hne : (Value.slice (some ⟨pg,0,none⟩) j pc).ownBlock ≠ some (s + 1) := fun e => by have e' : pg = s + 1 := Option.some.inj e;omega
     have ho9 := (((H8.out.2.1.kept (grown_setC w8 ⟨s + 1,0,none⟩ (.int .i64 (-1))) (.inr hne)).kept (grown_setC _ ⟨s + 1,1,none⟩ (.int .i64 N)) (.inr hne)).kept (grown_setC _ ⟨s + 1,2,none⟩ (.slice gA j gc)) (.inr hne)).kept (grown_setC _ ⟨s + 1,3,none⟩ (.slice (some ⟨pg,0,none⟩) j pc)) (.inr hne)
     have hb9 := (((H8.out.2.2.setCell (p := ⟨s + 1,0,none⟩) (by show s ≤ s + 1;omega) (.int .i64 (-1))).setCell (p := ⟨s + 1,1,none⟩) (by show s ≤ s + 1;omega) (.int .i64 N)).setCell (p := ⟨s + 1,2,none⟩) (by show s ≤ s + 1;omega) (.slice gA j gc)).setCell (p := ⟨s + 1,3,none⟩) (by show s ≤ s + 1;omega) (.slice (some ⟨pg,0,none⟩) j pc)
     refine bodyPost_ret (results_agg4 rfl _ _ (s + 1) (by rfl) (hr9.cell (i := 0) rfl) (hr9.cell (i := 1) rfl) (hr9.cell (i := 2) rfl) (hr9.cell (i := 3) rfl)) rfl ?_
     exact ⟨pg,pc,rfl,own_mono (by omega) ho9,hb9⟩
    ·go_wp2_with fail
     have hxx : x ∈ P ∧ ¬ x ∈ ks := by
      have h1 := HLF.out x
      rw [hl7] at h1
      simpa using h1.symm
     have hob : ∀ g,(Value.slice pA j pc).ownBlock = some g → r + 1 ≤ g := fun g hg => (H7.out.2.2.1.lt g hg).1
     have hrg9 := ((HRG7.out.alloc (.cells #[.int .i64 x] 3)).kept H9.out.2.2 (fun e => by have := hob _ e.symm;omega) (fun e => by have := hob _ e.symm;omega)).kept (grown_setC w9 ⟨s + 1,3,none⟩ (.slice (some ⟨g9,0,none⟩) (j + 1) c9)) (fun e => by have e' : z = s + 1 := Option.some.inj e;omega) (fun e => by have e' : r = s + 1 := Option.some.inj e;omega)
     have hg9 := own_ge H9.out.2.1 (by omega)
     refine ⟨⟨_,_,ks ++ [x],some ⟨g9,0,none⟩,c9,hrg9,fun y => ?_,?_,fun y hy => ?_,by rw [List.length_append,HJ.out];simp;omega,?_,?_,?_,?_⟩,?_⟩
     ·rw [HLF.out y]
      by_cases e : y = x
      ·subst e;simp [Lit.sameKey]
      ·have e2 : (Lit.int IntKind.i64 y).sameKey (Lit.int IntKind.i64 x) = false := by simp [Lit.sameKey,e]
       rw [e2];simp [e]
     ·rw [List.nodup_append]
      exact ⟨HKS.out.1,by simp,fun a ha b hb e => by rw [List.mem_singleton] at hb;subst hb;subst e;exact hxx.2 ha⟩
     ·rcases List.mem_append.1 hy with h1 | h1
      ·exact HKS.out.2 y h1
      ·rw [List.mem_singleton] at h1;subst h1;exact hxx.1
     ·have := H9.out.1.put 3 (.slice (some ⟨g9,0,none⟩) (j + 1) c9)
      rw [List.length_append,HJ.out]
      exact this
     ·rw [List.length_append,HJ.out,show ivs (ks ++ [x]) = ivs ks ++ [.int .i64 x] by simp]
      exact H9.out.2.1.kept (grown_setC w9 ⟨s + 1,3,none⟩ _) (.inr (fun e => by have e' : g9 = s + 1 := Option.some.inj e;omega))
     ·exact ((H7.out.1.alloc (by have := H7.out.2.2.2;omega) (.cells #[.int .i64 x] 3)).grown H9.out.2.2 (by rw [World.size_alloc];have := H7.out.2.2.2;omega) (fun g e => by have := hob g e;omega)).setCell (p := ⟨s + 1,3,none⟩) (by show s ≤ s + 1;omega) _
     ·rw [World.size_setCell];have h1 := H9.out.2.2.size;rw [World.size_alloc] at h1;have := H7.out.2.2.2;omega
     ·rw [hrg9.left_eq,HRG.out.left_eq];exact hlt7
end Go.Proofs.YtjcpjhlclpdpjaaGreat
namespace Go.Proofs.YtjcpjhlclpdpjaaGreat
open Go.RowKit
attribute [local go_sem] Oper.semAt_some
theorem wout_wout {P L : List Int} {p : Int} (hp : p ∈ P) : p ∈ wout P (wout P L) ↔ p ∈ L := by
 unfold wout
 simp [hp]
theorem cntW_congr {A B P : List Int} (h : ∀ p ∈ P,p ∈ A ↔ p ∈ B) : cntW A P = cntW B P := by
 unfold cntW
 congr 1
 exact List.filter_congr fun p hp => by simp [h p hp]
theorem dead_any (g : Gt) (L : List Int) (WA : Option Addr) (wc : Nat) (w : World) (h : g.ok w w.heap.size) (hP : Ppl g.P) (h0 : 0 < g.P.length) (h6 : g.P.length ≤ 6) (hL : Ppl L) (hw : Rd w w.heap.size 1 WA L.length (ivs L)) :
  Calls Tryz.prog 29 #[g.val,.slice WA L.length wc] w fun r w' => ((g.N ≤ ((cntW L g.P : Nat) : Int) ∧ r = .returned (.tuple #[.slice none 0 0,.bool false,.int .i64 0])) ∨ (¬ g.N ≤ ((cntW L g.P : Nat) : Int) ∧ ∃ e A k,e ∈ subs (wout g.P L) ∧ r = .returned (.tuple #[.slice A e.length k,.bool true,.int .i64 0]) ∧ Rd w' w'.heap.size 1 A e.length (ivs e))) ∧ Below w.heap.size w w' := by
 obtain ⟨s,hs⟩ : ∃ s,w.heap.size = s := ⟨_,rfl⟩
 have hm64 := hL.len
 have HCK : Hid (∀ W,Below s w W → Calls Tryz.prog 51 #[g.val,.slice WA L.length wc] W fun r w' => ∃ pg pc,r = .returned (.tuple #[.agg #[.int .i64 (-1),.int .i64 g.N,.slice g.A g.P.length g.c,.slice (some ⟨pg,0,none⟩) g.P.length pc],.int .i64 0]) ∧ w'.ownsRow W.heap.size 3 1 (.slice (some ⟨pg,0,none⟩) g.P.length pc) g.P.length (ivs g.P) ∧ Below W.heap.size W w') := fun W hW =>
  lcheck_living g L WA wc W ((h.below (by rw [hs];exact hW)).more (by have := hW.size;omega)) hP h0 (by omega) hL ((hw.below (by rw [hs];exact hW)).more (by have := hW.size;omega))
 have HHO : Hid (∀ W pA pc,Below s w W → Calls Tryz.prog 55 #[.agg #[.int .i64 (-1),.int .i64 g.N,.slice g.A g.P.length g.c,.slice pA g.P.length pc],.slice WA L.length wc] W fun r w' => r = .returned (.bool (decide (g.N ≤ ((cntW L g.P : Nat) : Int)))) ∧ Below W.heap.size W w') := fun W pA pc hW =>
  sholds_any g pA g.P.length pc WA L.length wc L W ((h.below (by rw [hs];exact hW)).more (by have := hW.size;omega)) ((hw.below (by rw [hs];exact hW)).more (by have := hW.size;omega)) hL rfl
 have HWO : Hid (∀ W pg pc,Below s w W → Rd W W.heap.size 1 (some ⟨pg,0,none⟩) g.P.length (ivs g.P) → g.P.length ≤ pc → pc ≤ maxLen → Calls Tryz.prog 52 #[.slice (some ⟨pg,0,none⟩) g.P.length pc,.slice WA L.length wc] W fun x w' => ∃ q : RI,x = .returned q.cell ∧ q.d = wout g.P L ∧ q.ok w' w'.heap.size ∧ Below W.heap.size W w') := fun W pg pc hW hrd h1 h2 =>
  without_any ⟨some ⟨pg,0,none⟩,pc,g.P⟩ WA L.length wc L W ⟨hrd,h1,h2⟩ h0 (by show g.P.length ≤ 4096;omega) ((hw.below (by rw [hs];exact hW)).more (by have := hW.size;omega)) (by omega)
 have HGK : Hid (∀ W,Below s w W → g.ok W W.heap.size) := fun W hW => (h.below (by rw [hs];exact hW)).more (by have := hW.size;omega)
 obtain ⟨gN,gA,gc,P⟩ := g
 obtain ⟨n,hnn⟩ : ∃ n,P.length = n := ⟨_,rfl⟩
 obtain ⟨m,hmm⟩ : ∃ m,L.length = m := ⟨_,rfl⟩
 obtain ⟨R,hR⟩ : ∃ R,decide (gN ≤ ((cntW L P : Nat) : Int)) = R := ⟨_,rfl⟩
 change Hid (∀ W,Below s w W → Calls Tryz.prog 51 #[.agg #[.int .i64 (-1),.int .i64 gN,.slice gA P.length gc],.slice WA L.length wc] W fun r w' => ∃ pg pc,r = .returned (.tuple #[.agg #[.int .i64 (-1),.int .i64 gN,.slice gA P.length gc,.slice (some ⟨pg,0,none⟩) P.length pc],.int .i64 0]) ∧ w'.ownsRow W.heap.size 3 1 (.slice (some ⟨pg,0,none⟩) P.length pc) P.length (ivs P) ∧ Below W.heap.size W w') at HCK
 change Hid (∀ W pA pc,Below s w W → Calls Tryz.prog 55 #[.agg #[.int .i64 (-1),.int .i64 gN,.slice gA P.length gc,.slice pA P.length pc],.slice WA L.length wc] W fun r w' => r = .returned (.bool (decide (gN ≤ ((cntW L P : Nat) : Int)))) ∧ Below W.heap.size W w') at HHO
 change Hid (∀ W pg pc,Below s w W → Rd W W.heap.size 1 (some ⟨pg,0,none⟩) P.length (ivs P) → P.length ≤ pc → pc ≤ maxLen → Calls Tryz.prog 52 #[.slice (some ⟨pg,0,none⟩) P.length pc,.slice WA L.length wc] W fun x w' => ∃ q : RI,x = .returned q.cell ∧ q.d = wout P L ∧ q.ok w' w'.heap.size ∧ Below W.heap.size W w') at HWO
 change 0 < P.length at h0
 change P.length ≤ 6 at h6
 change Ppl P at hP
 show Calls _ _ #[.agg #[.int .i64 (-1),.int .i64 gN,.slice gA P.length gc],_] _ fun r w' => ((gN ≤ ((cntW L P : Nat) : Int) ∧ r = .returned (.tuple #[.slice none 0 0,.bool false,.int .i64 0])) ∨ (¬ gN ≤ ((cntW L P : Nat) : Int) ∧ ∃ e A k,e ∈ subs (wout P L) ∧ r = .returned (.tuple #[.slice A e.length k,.bool true,.int .i64 0]) ∧ Rd w' w'.heap.size 1 A e.length (ivs e))) ∧ Below w.heap.size w w'
 rw [hR] at HHO
 rw [hnn] at HCK HHO HWO h0 h6 ⊢
 rw [hmm] at HCK HHO HWO hm64 ⊢
 have HNN := Lib.hid (And.intro hnn (And.intro hmm (And.intro hR hP)))
 have HS := Lib.hid hs
 have HB1 : Hid (Below s w (w.alloc (.cells #[.int .i64 (-1),.int .i64 gN,.slice gA n gc] 68))) := by show Below _ _ _;rw [← hs];exact (Below.refl _ _).alloc (Nat.le_refl _) _
 clear h hw hL hs hnn hmm hR hP
 rw [HS.out]
 cases R with
 | true =>
  go_enter Tryz.func29,Tryz.ntmps29
  go_wp2_with fail
  refine (HCK.out _ HB1.out).mono ?_
  rintro x w2 ⟨pg,pc,rfl,how,hb2⟩
  have HB2 : Hid (Below s w w2) := HB1.out.trans (hb2.mono (by have := HB1.out.size;have := HS.out;omega))
  clear how hb2
  go_wp2_with fail
  refine (HHO.out _ _ _ (HB2.out.alloc (by have := HB2.out.size;have := HS.out;omega) _)).mono ?_
  rintro x w3 ⟨rfl,hb3⟩
  have HB3 : Hid (Below s w w3) := (HB2.out.alloc (by have := HB2.out.size;have := HS.out;omega) _).trans (hb3.mono (by have := HB2.out.size;have := HS.out;simp;omega))
  clear hb3
  go_wp2_with fail
  refine bodyPost_ret (results_tmp_3 rfl _ _) rfl ?_
  exact ⟨.inl ⟨of_decide_eq_true HNN.out.2.2.1,rfl⟩,HB3.out⟩
 | false =>
  go_enter Tryz.func29,Tryz.ntmps29
  go_wp2_with fail
  refine (HCK.out _ HB1.out).mono ?_
  rintro x w2 ⟨pg,pc,rfl,how,hb2⟩
  have hB2 : Below s w w2 := HB1.out.trans (hb2.mono (by have := HB1.out.size;have := HS.out;omega))
  have hge := own_ge how h0
  obtain ⟨z,hz⟩ : ∃ x,w2.heap.size = x := ⟨_,rfl⟩
  have hsz : s ≤ z := by have := hB2.size;have := HS.out;omega
  obtain ⟨w3,hw3⟩ : ∃ x,w2.alloc (.cells #[.int .i64 (-1),.int .i64 gN,.slice gA n gc,.slice (some ⟨pg,0,none⟩) n pc] 107) = x := ⟨_,rfl⟩
  have hB3 : Below s w w3 := by rw [← hw3];exact hB2.alloc (by omega) _
  have hr3 : Row w3 z 107 [.int .i64 (-1),.int .i64 gN,.slice gA n gc,.slice (some ⟨pg,0,none⟩) n pc] := by rw [← hw3];exact Row.fresh' _ _ _ hz
  have hrd3 : Rd w3 w3.heap.size 1 (some ⟨pg,0,none⟩) n (ivs P) := by rw [← hw3];exact ((Rd.of_own how).below ((Below.refl _ _).alloc (Nat.le_refl _) _)).more (by simp)
  have H3 := Lib.hid (And.intro hB3 (And.intro hr3 (And.intro hrd3 (And.intro hge.2.2 hsz))))
  have HW3 := Lib.hid hw3
  have HZ := Lib.hid hz
  clear how hb2 hB2 hge hsz hB3 hr3 hrd3 hw3 hz
  go_wp2_with fail
  rw [HW3.out,HZ.out]
  refine (HHO.out _ _ _ H3.out.1).mono ?_
  rintro x w4 ⟨rfl,hb4⟩
  have hB4 := H3.out.1.trans (hb4.mono (by have := H3.out.2.1.lt;have := H3.out.2.2.2.2;omega))
  have hr4 := H3.out.2.1.below hb4 H3.out.2.1.lt
  have hrd4 := (H3.out.2.2.1.below hb4).more hb4.size
  have c3 := hr4.cell (i := 3) rfl
  have H4 : Hid (Below s w w4 ∧ Row w4 z 107 [.int .i64 (-1),.int .i64 gN,.slice gA n gc,.slice (some ⟨pg,0,none⟩) n pc] ∧ Rd w4 w4.heap.size 1 (some ⟨pg,0,none⟩) n (ivs P)) := ⟨hB4,hr4,hrd4⟩
  clear hb4 hB4 hr4 hrd4
  go_wp2_with fail
  refine (HWO.out w4 pg pc H4.out.1 H4.out.2.2 H3.out.2.2.2.1.1 H3.out.2.2.2.1.2).mono ?_
  rintro x w5 ⟨q,rfl,hqd,hqo,hb5⟩
  rw [RI.cell_eq]
  have hB5 : Below s w w5 := H4.out.1.trans (hb5.mono (by have := H4.out.1.size;have := HS.out;omega))
  have hr5 := H4.out.2.1.below hb5 H4.out.2.1.lt
  have hrd5 := (H4.out.2.2.below hb5).more hb5.size
  obtain ⟨qA,qc,qd⟩ := q
  change qd = _ at hqd
  subst hqd
  show (fun x w'' => _) (Ending.returned (.slice qA (wout P L).length qc)) w5
  obtain ⟨j,hj⟩ : ∃ j,(wout P L).length = j := ⟨_,rfl⟩
  have hj6 : j ≤ 6 := by rw [← hj];exact Nat.le_trans (wout_sub P L).length_le (by rw [HNN.out.1];exact h6)
  have HQ : Hid ((⟨qA,qc,wout P L⟩ : RI).ok w5 w5.heap.size) := hqo
  have H5 := Lib.hid (And.intro hB5 (And.intro hr5 (And.intro hrd5 hj)))
  rw [hj]
  clear hqo hb5 hB5 hr5 hrd5 hj c3
  go_wp2_with (go_at_call 54;refine (subsets_any _ _ _ _).mono ?_;rintro e w6 ⟨rfl,hw6⟩)
  have hb6 : Below w5.heap.size w5 w6 := by rw [← hw6];exact (Below.refl _ _).alloc (Nat.le_refl _) _
  have hB6 : Below s w w6 := H5.out.1.trans (hb6.mono (by have := H5.out.1.size;have := HS.out;omega))
  have hsb : Row w6 w5.heap.size 23 [.slice qA (wout P L).length qc] := by rw [← hw6,H5.out.2.2.2];exact Row.fresh _ _ _
  have hr6 := H5.out.2.1.below hb6 H5.out.2.1.lt
  have hrd6 := (H5.out.2.2.1.below hb6).more hb6.size
  have hq6 := ((HQ.out.below hb6).more hb6.size).1
  have hP := HNN.out.2.2.2
  have hcap := H3.out.2.2.2.1
  have HFD := Lib.hid (first_dead z (wout P L) qA qc w5.heap.size (fun e => !decide (gN ≤ ((cntW (wout P e) P : Nat) : Int))) w6 (by rw [H5.out.2.2.2];exact hj6) hsb hq6 (fun W e A k c hW he hk hrd _ _ => by
   have hle : e.length ≤ 64 := by
    have h1 := (subs_sub he).length_le
    rw [H5.out.2.2.2] at h1
    omega
   exact dead1_any ⟨gN,gA,gc,P⟩ z ⟨some ⟨pg,0,none⟩,pc,P⟩ A k c e W (HGK.out W (hB6.trans (hW.mono (by have := hB6.size;have := HS.out;omega)))) (by have := hr6.below hW hr6.lt;rw [RI.cell_eq];change Row W z _ [_,_,.slice gA P.length gc,.slice _ P.length pc];rwa [HNN.out.1]) ⟨by have := (hrd6.below hW).more hW.size;rw [← HNN.out.1] at this;exact this,by show P.length ≤ pc;rw [HNN.out.1];exact hcap.1,hcap.2⟩ hP (by show 0 < P.length;rw [HNN.out.1];exact h0) hk hrd hle))
  have HB6 := Lib.hid hB6
  rw [← H5.out.2.2.2] at *
  refine HFD.out.mono ?_
  rintro x w7 ⟨hfa,hb7⟩
  have hnR : ¬ gN ≤ ((cntW L P : Nat) : Int) := of_decide_eq_false HNN.out.2.2.1
  have hB7 : Below s w w7 := HB6.out.trans (hb7.mono (by have := HB6.out.size;have := HS.out;omega))
  rcases hfa with ⟨e,A,k,hfi,rfl,hrd,hk1,hk2⟩ | ⟨hfn,rfl⟩
  ·have he := List.mem_of_find?_eq_some hfi
   have HE := Lib.hid (And.intro he (And.intro hrd (And.intro hnR hB7)))
   clear hfi hrd hk1 hk2 he hnR hB7 hb7 HFD hsb hr6 hrd6 hq6 hb6 hB6 hP hcap hw6
   go_wp2_with fail
   refine bodyPost_ret (results_tmp_3 rfl _ _) rfl ?_
   exact ⟨.inr ⟨HE.out.2.2.1,e,HE.out.1,A,⟨k,rfl⟩,HE.out.2.1⟩,HE.out.2.2.2⟩
  ·exfalso
   have hl6 : (wout P L).length ≤ 6 := Nat.le_trans (wout_sub P L).length_le (by rw [HNN.out.1];exact h6)
   have h1 := List.find?_eq_none.1 hfn _ (subs_take hl6 (Nat.le_refl _))
   rw [List.take_length] at h1
   rw [cntW_congr (B := L) (fun p hp => wout_wout hp),decide_eq_false hnR] at h1
   exact h1 rfl
end Go.Proofs.YtjcpjhlclpdpjaaGreat
namespace Go.Proofs.YtjcpjhlclpdpjaaGreat
open Go.RowKit
theorem filter_sub {e P : List Int} (h : e.Sublist P) (hn : P.Nodup) : (P.filter fun p => decide (p ∈ e)) = e := by
 induction h with
 | slnil => rfl
 | @cons l1 l2 a h ih =>
  have h2 := List.nodup_cons.1 hn
  have ha : ¬ a ∈ l1 := fun hm => h2.1 (h.subset hm)
  rw [List.filter_cons_of_neg (by simpa using ha)]
  exact ih h2.2
 | @cons_cons l1 l2 a h ih =>
  have h2 := List.nodup_cons.1 hn
  rw [List.filter_cons_of_pos (by simp)]
  congr 1
  have e1 : (l2.filter fun p => decide (p ∈ a :: l1)) = l2.filter fun p => decide (p ∈ l1) := List.filter_congr fun p hp => by
   have hne : p ≠ a := fun e => h2.1 (e ▸ hp)
   simp [hne]
  rw [e1]
  exact ih h2.2
theorem cntW_sub {e P : List Int} (h : e.Sublist P) (hP : Ppl P) : cntW e P = e.length := by
 unfold cntW
 rw [filter_sub h (hP.inc.imp fun h => Int.ne_of_lt h)]
def ownL (P L : List Int) : List Int := wout P (wout P L)
theorem ownL_cnt {P L : List Int} (hP : Ppl P) : (ownL P L).length = cntW L P := by
 show (wout P (wout P L)).length = _
 rw [← cntW_sub (wout_sub P (wout P L)) hP]
 exact cntW_congr fun p hp => wout_wout hp
theorem ownL_sub (P L : List Int) : (ownL P L).Sublist P := wout_sub _ _
theorem living_min {P L e : List Int} {N : Nat} (hP : Ppl P) (h6 : P.length ≤ 6) (hN : N ≤ cntW L P) (h : (subs (ownL P L)).find? (fun x => decide ((N : Int) ≤ ((cntW x P : Nat) : Int))) = some e) : e.length = N ∧ e.Sublist P := by
 have hl6 : (ownL P L).length ≤ 6 := Nat.le_trans (ownL_sub P L).length_le h6
 obtain ⟨h1,h2,h3⟩ := find_min (subs_asc hl6) h
 have hs := (subs_sub h2).trans (ownL_sub P L)
 have hc := of_decide_eq_true h1
 rw [cntW_sub hs hP] at hc
 have ht := subs_take hl6 (k := N) (by rw [ownL_cnt hP];exact hN)
 have hts : ((ownL P L).take N).Sublist P := (List.take_sublist _ _).trans (ownL_sub P L)
 have h4 := h3 _ ht (by
  rw [cntW_sub hts hP,List.length_take,ownL_cnt hP]
  exact decide_eq_true (by omega))
 rw [List.length_take] at h4
 exact ⟨by omega,hs⟩
theorem living_none {P L : List Int} {N : Nat} (hP : Ppl P) (h6 : P.length ≤ 6) (hN : N ≤ cntW L P) : (subs (ownL P L)).find? (fun x => decide ((N : Int) ≤ ((cntW x P : Nat) : Int))) ≠ none := fun h => by
 have hl6 : (ownL P L).length ≤ 6 := Nat.le_trans (ownL_sub P L).length_le h6
 have h1 := List.find?_eq_none.1 h _ (subs_take hl6 (Nat.le_refl _))
 rw [List.take_length,cntW_sub (ownL_sub P L) hP,ownL_cnt hP] at h1
 exact h1 (decide_eq_true (by omega))
theorem living_no {P L e : List Int} {N : Nat} (hP : Ppl P) (hN : ¬ N ≤ cntW L P) (he : e ∈ subs (ownL P L)) : ¬ N ≤ cntW e P := fun h => by
 have hs := subs_sub he
 rw [cntW_sub (hs.trans (ownL_sub P L)) hP] at h
 have := hs.length_le
 rw [ownL_cnt hP] at this
 omega
end Go.Proofs.YtjcpjhlclpdpjaaGreat
