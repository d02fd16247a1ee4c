import Derived.Test.YtjcpjhlclpdpjaaGreatS12
set_option linter.unusedVariables false
set_option maxRecDepth 100000
set_option maxHeartbeats 16000000
namespace Go.Proofs.YtjcpjhlclpdpjaaGreat
open Go.RowKit
attribute [local go_sem] Oper.semAt_some
def aftS (k p : Int) (a : List Int × Bool) (q : Int) : List Int × Bool := if q = p then (a.1,true) else if p < q ∧ a.2 = false ∧ k = 1 then (a.1 ++ [p] ++ [q],true) else (a.1 ++ [q],a.2)
def aftT (k p : Int) (L : List Int) : List Int × Bool := L.foldl (aftS k p) ([],false)
def aft (k p : Int) (L : List Int) : List Int := if k = 1 ∧ (aftT k p L).2 = false then (aftT k p L).1 ++ [p] else (aftT k p L).1
theorem aftT_take {k p : Int} {L : List Int} {j : Nat} {q : Int} (h : L[j]? = some q) : aftT k p (L.take (j + 1)) = aftS k p (aftT k p (L.take j)) q := by
 unfold aftT
 rw [List.take_add_one,h,List.foldl_append]
 rfl
theorem rd_new (W : World) (t : TypeId) (cs : List Value) (n size : Nat) (h : cs.length = n * size) : Rd (W.alloc (.cells cs.toArray t)) (W.alloc (.cells cs.toArray t)).heap.size size (some ⟨W.heap.size,0,none⟩) n cs := by
 refine ⟨h,fun _ => ⟨_,_,rfl,by simp,fun j u hu => ?_⟩⟩
 have h := cell_of_row (W.alloc (.cells cs.toArray t)) W.heap.size j _ _ _ (World.alloc_heap_new W _)
 rw [Nat.zero_add,h]
 simpa using hu
theorem aft_step {s B2 n1 : Nat} {w wr w1 : World} {v : Value} {XS : List Value} {o : Obj} {k p : Int} (hB2 : B2 = s + 1) (hown : wr.ownsRow B2 3 1 v n1 XS) (hb : Below s w wr) (hr : Row wr s 40 [.int .i64 k,.int .i64 p]) (hsz : B2 ≤ wr.heap.size) (hg : (wr.alloc o).grownBy w1 v.ownBlock) :
  Below s w w1 ∧ Row w1 s 40 [.int .i64 k,.int .i64 p] ∧ B2 ≤ w1.heap.size := by
 have hr' : ∀ g,v.ownBlock = some g → B2 ≤ g := fun g hg => (hown.lt g hg).1
 refine ⟨(hb.alloc (by omega) o).grown hg (by simp;omega) (fun g e => by have := hr' g e;omega),(hr.alloc o).grown hg (fun e => by have := hr' s e.symm;omega),?_⟩
 have := hg.size
 simp at this
 omega
abbrev i64s (L : List Int) : List Value := L.map fun x => .int .i64 x
theorem after52_any (k p : Int) (L : List Int) (A : Option Addr) (n c : Nat) (w : World) (hL : Rd w w.heap.size 1 A n (i64s L)) (hn : n = L.length) (h64 : n ≤ 64) :
  Calls Tryz.prog 12 #[.slice A n c,.agg #[.int .i64 k,.int .i64 p]] w fun r w' => ∃ lv,r = .returned (.tuple #[lv,.bool (decide (p ∈ L) == decide (k = 2))]) ∧ w'.ownsRow w.heap.size 3 1 lv (aft k p L).length (i64s (aft k p L)) ∧ Below w.heap.size w w' := by
 have HRD : Hid (∀ W,Below w.heap.size w W → ∀ j q,L[j]? = some q → ∃ b o,A = some ⟨b,o,none⟩ ∧ W.cell? ⟨b,o + j,none⟩ = some (.int .i64 q)) := fun W hW j q hq => by
  have hj := (List.getElem?_eq_some_iff.1 hq).1
  obtain ⟨b,o,e1,hb,hc⟩ := (hL.below hW).2 (by omega)
  exact ⟨b,o,e1,hc j _ (by rw [List.getElem?_map,hq];rfl)⟩
 have HN := Lib.hid hn
 clear hL hn
 obtain ⟨ii,hii,hzz⟩ := Option.map_eq_some_iff.1 (show (Tryz.prog.info? 3).map (fun i => (i.zero,i.size,i.bytes)) = some (some (.int .i64 0),1,8) by kernel_rfl)
 simp only [Prod.mk.injEq] at hzz
 have HII : Hid (Tryz.prog.info? 3 = some ii ∧ ii.zero = some (.int .i64 0) ∧ ii.size = 1 ∧ ii.bytes = 8) := ⟨hii,hzz⟩
 clear hii hzz
 obtain ⟨s,hs⟩ : ∃ s,w.heap.size = s := ⟨_,rfl⟩
 have HSS := Lib.hid hs
 obtain ⟨B2,hB2⟩ : ∃ B,B = s + 1 := ⟨_,rfl⟩
 have HB2 := Lib.hid hB2
 have hR0 : Row (w.alloc (.cells #[.int .i64 k,.int .i64 p] 40)) s 40 [.int .i64 k,.int .i64 p] := by rw [← hs];exact Row.new w _ _
 have HR0 := Lib.hid hR0
 have HBL : Hid (Below s w (w.alloc (.cells #[.int .i64 k,.int .i64 p] 40)) ∧ B2 ≤ (w.alloc (.cells #[.int .i64 k,.int .i64 p] 40)).heap.size) := ⟨by rw [← hs];exact (Below.refl _ w).alloc (Nat.le_refl _) _,by rw [World.size_alloc,hs,hB2];exact Nat.le_refl _⟩
 clear hs hB2 hR0
 rw [HSS.out] at HRD ⊢
 go_enter Tryz.func12,Tryz.ntmps12
 go_wp2
 generalize (w.alloc (.cells #[.int .i64 k,.int .i64 p] 40)) = w0 at HR0 HBL ⊢
 rw [HSS.out]
 go_loopw [4,6,14] (fun u f i wr => ∃ (j : Nat) (v : Value) (xs : List Int) (g : Bool),j ≤ n ∧ i = .int .i64 j ∧ v = u ∧ .bool g = f ∧ aftT k p (L.take j) = (xs,g) ∧ xs.length ≤ 2 * j ∧ wr.ownsRow B2 3 1 v xs.length (i64s xs) ∧ Below s w wr ∧ Row wr s 40 [.int .i64 k,.int .i64 p] ∧ B2 ≤ wr.heap.size) (fun _ _ i _ => n - (intOf i).toNat)
 case atStart => exact ⟨0,_,[],false,Nat.zero_le _,rfl,rfl,rfl,rfl,Nat.zero_le _,World.ownsRow_nil _ _ _ _,HBL.out.1,HR0.out,HBL.out.2⟩
 case round =>
  clear HR0 HBL
  obtain ⟨j,v,xs,g,hj,rfl,hvv,hgg,haf,hxl,hown,hb,hr,hsz⟩ := hrel
  subst hvv
  subst hgg
  have HO := Lib.hid hown
  have HB := Lib.hid hb
  have HR := Lib.hid hr
  have HAF := Lib.hid haf
  clear hown hb hr haf
  have k0' := HR.out.cell (i := 0) rfl
  have p0' := HR.out.cell (i := 1) rfl
  by_cases hlt : j < n
  ·have k1 : (j : Int) < (n : Int) := by omega
   have k0 : (0 : Int) ≤ (j : Int) := by omega
   obtain ⟨q,hq⟩ : ∃ q,L[j]? = some q := by rw [HN.out] at hlt;exact ⟨_,List.getElem?_eq_getElem hlt⟩
   obtain ⟨b,o,rfl,d0⟩ := HRD.out wr HB.out j q hq
   have HAS : Hid (aftT k p (L.take (j + 1)) = aftS k p (xs,g) q) := by show _ = _;rw [aftT_take hq,HAF.out]
   obtain ⟨n1,hn1⟩ : ∃ n1,xs.length = n1 := ⟨_,rfl⟩
   obtain ⟨XS,hXS⟩ : ∃ X,i64s xs = X := ⟨_,rfl⟩
   rw [hn1] at hxl HO
   rw [hXS] at HO
   have HXX := Lib.hid (And.intro hn1 hXS)
   clear hq hn1 hXS
   by_cases hqp : q = p
   ·have e1 : (q == p) = true := by simp [hqp]
    have HAC : Hid (aftT k p (L.take (j + 1)) = (xs,true)) := by show _ = _;rw [HAS.out];unfold aftS;rw [if_pos hqp]
    clear hqp
    go_wp2_with fail
    go_roundw
    case rel => exact ⟨j + 1,v,xs,true,by omega,by go_num,rfl,rfl,HAC.out,by rw [HXX.out.1];omega,by rw [HXX.out.1,HXX.out.2];exact HO.out,HB.out,HR.out,hsz⟩
    case measure => simp [intOf];omega
   ·have e1 : (q == p) = false := by simp [hqp]
    by_cases hgt : p < q
    ·cases g with
     | true =>
      have HAC : Hid (aftT k p (L.take (j + 1)) = (xs ++ [q],true)) := by show _ = _;rw [HAS.out];unfold aftS;rw [if_neg hqp,if_neg (by simp)]
      clear hqp
      go_wp2_with (at_builtin;refine wpList_append_rd _ rfl (.tmp 44) (.tmp 46) 23 rfl B2 3 ii (.int .i64 0) 1 8 Tryz.underlying23 HII.out.1 HII.out.2.1 HII.out.2.2.1 HII.out.2.2.2 rfl (by decide) v (n1) (XS) ?hs_1 ?own_1 ?bb_1 (some ⟨wr.heap.size,0,none⟩) 1 1 [.int .i64 q] ?hx_1 ?rd_1 ?one_1 ?h63_1 ?hby_1 ?hb_1 ?kk_1;(case hs_1 => rfl);(case hx_1 => rfl);(case own_1 => exact HO.out.alloc _);(case rd_1 => exact rd_new wr 3 [.int .i64 q] 1 1 rfl);(case one_1 => intro u hu;simp at hu;rw [hu];rfl);(case h63_1 => unfold maxLen;omega);(case hby_1 => omega);(case hb_1 => simp;omega);intro v1 w1 hown1 hgrow1 _;have HE1 := Lib.hid (And.intro hown1 hgrow1);clear hown1 hgrow1)
      go_roundw
      case rel =>
       obtain ⟨s1,s2,s3⟩ := aft_step HB2.out HO.out HB.out HR.out hsz HE1.out.2
       refine ⟨j + 1,v1,xs ++ [q],true,by omega,by go_num,rfl,rfl,HAC.out,by rw [List.length_append,HXX.out.1];simp;omega,?_,s1,s2,s3⟩
       rw [List.length_append,HXX.out.1,show i64s (xs ++ [q]) = XS ++ [.int .i64 q] by rw [← HXX.out.2];simp [i64s]]
       exact HE1.out.1
      case measure => simp [intOf];omega
     | false =>
      by_cases hk1 : k = 1
      ·have e2 : (k == 1) = true := by simp [hk1]
       have HAC : Hid (aftT k p (L.take (j + 1)) = (xs ++ [p] ++ [q],true)) := by show _ = _;rw [HAS.out];unfold aftS;rw [if_neg hqp,if_pos ⟨hgt,rfl,hk1⟩]
       clear hqp hk1
       go_wp2_with (first | (at_builtin;refine wpList_append_rd _ rfl (.tmp 35) (.tmp 38) 23 rfl B2 3 ii (.int .i64 0) 1 8 Tryz.underlying23 HII.out.1 HII.out.2.1 HII.out.2.2.1 HII.out.2.2.2 rfl (by decide) v (n1) (XS) ?hs_2 ?own_2 ?bb_2 (some ⟨wr.heap.size,0,none⟩) 1 1 [.int .i64 p] ?hx_2 ?rd_2 ?one_2 ?h63_2 ?hby_2 ?hb_2 ?kk_2;(case hs_2 => rfl);(case hx_2 => rfl);(case own_2 => exact HO.out.alloc _);(case rd_2 => exact rd_new wr 3 [.int .i64 p] 1 1 rfl);(case one_2 => intro u hu;simp at hu;rw [hu];rfl);(case h63_2 => unfold maxLen;omega);(case hby_2 => omega);(case hb_2 => simp;omega);intro v1 w1 hown1 hgrow1 _;have HE1 := Lib.hid (And.intro hown1 hgrow1);have hst1 := aft_step HB2.out HO.out HB.out HR.out hsz HE1.out.2;have HS1 := Lib.hid hst1;have hsz1 := hst1.2.2;have k1' := hst1.2.1.cell (i := 0) rfl;have p1' := hst1.2.1.cell (i := 1) rfl;clear hown1 hgrow1 hst1) | (at_builtin;refine wpList_append_rd _ rfl (.tmp 40) (.tmp 42) 23 rfl B2 3 ii (.int .i64 0) 1 8 Tryz.underlying23 HII.out.1 HII.out.2.1 HII.out.2.2.1 HII.out.2.2.2 rfl (by decide) v1 (n1 + 1) (XS ++ [.int .i64 p]) ?hs_3 ?own_3 ?bb_3 (some ⟨w1.heap.size,0,none⟩) 1 1 [.int .i64 q] ?hx_3 ?rd_3 ?one_3 ?h63_3 ?hby_3 ?hb_3 ?kk_3;(case hs_3 => rfl);(case hx_3 => rfl);(case own_3 => exact HE1.out.1.alloc _);(case rd_3 => exact rd_new w1 3 [.int .i64 q] 1 1 rfl);(case one_3 => intro u hu;simp at hu;rw [hu];rfl);(case h63_3 => unfold maxLen;omega);(case hby_3 => omega);(case hb_3 => simp;omega);intro v2 w2 hown2 hgrow2 _;have HE2 := Lib.hid (And.intro hown2 hgrow2);clear hown2 hgrow2))
       go_roundw
       case rel =>
        obtain ⟨s1,s2,s3⟩ := aft_step HB2.out HE1.out.1 HS1.out.1 HS1.out.2.1 hsz1 HE2.out.2
        refine ⟨j + 1,v2,xs ++ [p] ++ [q],true,by omega,by go_num,rfl,rfl,HAC.out,by rw [List.length_append,List.length_append,HXX.out.1];simp;omega,?_,s1,s2,s3⟩
        rw [List.length_append,List.length_append,HXX.out.1,show i64s (xs ++ [p] ++ [q]) = XS ++ [.int .i64 p] ++ [.int .i64 q] by rw [← HXX.out.2];simp [i64s]]
        exact HE2.out.1
       case measure => simp [intOf];omega
      ·have e2 : (k == 1) = false := by simp [hk1]
       have HAC : Hid (aftT k p (L.take (j + 1)) = (xs ++ [q],false)) := by show _ = _;rw [HAS.out];unfold aftS;rw [if_neg hqp,if_neg (fun h => hk1 h.2.2)]
       clear hqp hk1
       go_wp2_with (at_builtin;refine wpList_append_rd _ rfl (.tmp 44) (.tmp 46) 23 rfl B2 3 ii (.int .i64 0) 1 8 Tryz.underlying23 HII.out.1 HII.out.2.1 HII.out.2.2.1 HII.out.2.2.2 rfl (by decide) v (n1) (XS) ?hs_4 ?own_4 ?bb_4 (some ⟨wr.heap.size,0,none⟩) 1 1 [.int .i64 q] ?hx_4 ?rd_4 ?one_4 ?h63_4 ?hby_4 ?hb_4 ?kk_4;(case hs_4 => rfl);(case hx_4 => rfl);(case own_4 => exact HO.out.alloc _);(case rd_4 => exact rd_new wr 3 [.int .i64 q] 1 1 rfl);(case one_4 => intro u hu;simp at hu;rw [hu];rfl);(case h63_4 => unfold maxLen;omega);(case hby_4 => omega);(case hb_4 => simp;omega);intro v1 w1 hown1 hgrow1 _;have HE1 := Lib.hid (And.intro hown1 hgrow1);clear hown1 hgrow1)
       go_roundw
       case rel =>
        obtain ⟨s1,s2,s3⟩ := aft_step HB2.out HO.out HB.out HR.out hsz HE1.out.2
        refine ⟨j + 1,v1,xs ++ [q],false,by omega,by go_num,rfl,rfl,HAC.out,by rw [List.length_append,HXX.out.1];simp;omega,?_,s1,s2,s3⟩
        rw [List.length_append,HXX.out.1,show i64s (xs ++ [q]) = XS ++ [.int .i64 q] by rw [← HXX.out.2];simp [i64s]]
        exact HE1.out.1
       case measure => simp [intOf];omega
    ·have HAC : Hid (aftT k p (L.take (j + 1)) = (xs ++ [q],g)) := by show _ = _;rw [HAS.out];unfold aftS;rw [if_neg hqp,if_neg (fun h => hgt h.1)]
     clear hqp
     go_wp2_with (at_builtin;refine wpList_append_rd _ rfl (.tmp 44) (.tmp 46) 23 rfl B2 3 ii (.int .i64 0) 1 8 Tryz.underlying23 HII.out.1 HII.out.2.1 HII.out.2.2.1 HII.out.2.2.2 rfl (by decide) v (n1) (XS) ?hs_5 ?own_5 ?bb_5 (some ⟨wr.heap.size,0,none⟩) 1 1 [.int .i64 q] ?hx_5 ?rd_5 ?one_5 ?h63_5 ?hby_5 ?hb_5 ?kk_5;(case hs_5 => rfl);(case hx_5 => rfl);(case own_5 => exact HO.out.alloc _);(case rd_5 => exact rd_new wr 3 [.int .i64 q] 1 1 rfl);(case one_5 => intro u hu;simp at hu;rw [hu];rfl);(case h63_5 => unfold maxLen;omega);(case hby_5 => omega);(case hb_5 => simp;omega);intro v1 w1 hown1 hgrow1 _;have HE1 := Lib.hid (And.intro hown1 hgrow1);clear hown1 hgrow1)
     go_roundw
     case rel =>
      obtain ⟨s1,s2,s3⟩ := aft_step HB2.out HO.out HB.out HR.out hsz HE1.out.2
      refine ⟨j + 1,v1,xs ++ [q],g,by omega,by go_num,rfl,rfl,HAC.out,by rw [List.length_append,HXX.out.1];simp;omega,?_,s1,s2,s3⟩
      rw [List.length_append,HXX.out.1,show i64s (xs ++ [q]) = XS ++ [.int .i64 q] by rw [← HXX.out.2];simp [i64s]]
      exact HE1.out.1
     case measure => simp [intOf];omega
  ·obtain rfl : n = j := by omega
   have haf := HAF.out
   rw [HN.out,List.take_length] at haf
   have HT := Lib.hid haf
   clear haf
   obtain ⟨n1,hn1⟩ : ∃ n1,xs.length = n1 := ⟨_,rfl⟩
   obtain ⟨XS,hXS⟩ : ∃ X,i64s xs = X := ⟨_,rfl⟩
   rw [hn1] at hxl HO
   rw [hXS] at HO
   have HXX := Lib.hid (And.intro hn1 hXS)
   clear hn1 hXS
   by_cases hk1 : k = 1
   ·have e2 : (k == 1) = true := by simp [hk1]
    cases g with
    | false =>
     go_wp2_with (at_builtin;refine wpList_append_rd _ rfl (.tmp 56) (.tmp 59) 23 rfl B2 3 ii (.int .i64 0) 1 8 Tryz.underlying23 HII.out.1 HII.out.2.1 HII.out.2.2.1 HII.out.2.2.2 rfl (by decide) v (n1) (XS) ?hs_9 ?own_9 ?bb_9 (some ⟨wr.heap.size,0,none⟩) 1 1 [.int .i64 p] ?hx_9 ?rd_9 ?one_9 ?h63_9 ?hby_9 ?hb_9 ?kk_9;(case hs_9 => rfl);(case hx_9 => rfl);(case own_9 => exact HO.out.alloc _);(case rd_9 => exact rd_new wr 3 [.int .i64 p] 1 1 rfl);(case one_9 => intro u hu;simp at hu;rw [hu];rfl);(case h63_9 => unfold maxLen;omega);(case hby_9 => omega);(case hb_9 => simp;omega);intro v1 w1 hown1 hgrow1 _;have HE1 := Lib.hid (And.intro hown1 hgrow1);clear hown1 hgrow1)
     obtain ⟨s1,s2,s3⟩ := aft_step HB2.out HO.out HB.out HR.out hsz HE1.out.2
     have HBQ := Lib.hid s1
     have HRQ := Lib.hid s2
     have HOQ : Hid (w1.ownsRow B2 3 1 v1 (aft k p L).length (i64s (aft k p L))) := by
      show World.ownsRow _ _ _ _ _ _ _
      unfold aft
      rw [HT.out,if_pos ⟨hk1,rfl⟩,List.length_append,HXX.out.1,show i64s (xs ++ [p]) = XS ++ [.int .i64 p] by rw [← HXX.out.2];simp [i64s]]
      exact HE1.out.1
     clear HE1 HO HB HR HXX HT s1 s2 s3
     go_loopw [9,63] (fun f i wr2 => ∃ (j : Nat) (g2 : Bool),j ≤ n ∧ i = .int .i64 j ∧ .bool g2 = f ∧ g2 = decide (p ∈ L.take j) ∧ w1 = wr2) (fun _ i _ => n - (intOf i).toNat)
     case atStart => exact ⟨0,false,Nat.zero_le _,rfl,rfl,by simp,rfl⟩
     case round =>
      obtain ⟨j,g2,hj,rfl,hgg,hg2,hww⟩ := hrel
      subst hgg
      subst hww
      have HG2 := Lib.hid hg2
      clear hg2
      by_cases hlt : j < n
      ·have k1 : (j : Int) < (n : Int) := by omega
       have k0 : (0 : Int) ≤ (j : Int) := by omega
       obtain ⟨q,hq⟩ : ∃ q,L[j]? = some q := by rw [HN.out] at hlt;exact ⟨_,List.getElem?_eq_getElem hlt⟩
       obtain ⟨b,o,rfl,d0⟩ := HRD.out _ HBQ.out j q hq
       have HQ2 : Hid (decide (p ∈ L.take (j + 1)) = (g2 || decide (q = p))) := by
        show _ = _
        rw [HG2.out]
        have h3 : (p ∈ L.take (j + 1)) ↔ (p ∈ L.take j ∨ q = p) := by rw [List.take_add_one,hq];simp [eq_comm (a := q)]
        by_cases h1 : p ∈ L.take j <;> by_cases h2 : q = p <;> simp [h3,h1,h2]
       clear hq
       have p2 := HRQ.out.cell (i := 1) rfl
       cases g2 with
       | true =>
        go_wp2_with fail
        go_roundw
        case rel => exact ⟨j + 1,true,by omega,by go_num,rfl,by rw [HQ2.out];rfl,trivial⟩
        case measure => simp [intOf];omega
       | false =>
        by_cases hqp : q = p
        ·have e5 : (q == p) = true := by simp [hqp]
         have HQ3 : Hid (true = decide (p ∈ L.take (j + 1))) := by show _ = _;rw [HQ2.out];simp [hqp]
         clear hqp
         go_wp2_with fail
         go_roundw
         case rel => exact ⟨j + 1,true,by omega,by go_num,rfl,HQ3.out,trivial⟩
         case measure => simp [intOf];omega
        ·have e5 : (q == p) = false := by simp [hqp]
         have HQ3 : Hid (false = decide (p ∈ L.take (j + 1))) := by show _ = _;rw [HQ2.out];simp [hqp]
         clear hqp
         go_wp2_with fail
         go_roundw
         case rel => exact ⟨j + 1,false,by omega,by go_num,rfl,HQ3.out,trivial⟩
         case measure => simp [intOf];omega
      ·obtain rfl : n = j := by omega
       have HG3 : Hid (g2 = decide (p ∈ L)) := by show _ = _;rw [HG2.out,HN.out,List.take_length]
       go_wp2_with fail
       rename_i Kz hKz
       refine wp_region_tree (fun w' => Row w' s 40 [.int .i64 k,.int .i64 p]) (.take 0 (.take 1 (.take 2 (.take 3 (.take 4 (.take 5 (.take 6 (.take 7 .done)))))))) (by kernel_rfl) (by kernel_rfl) (by kernel_rfl) (by kernel_rfl) (fun x _ _ _ _ h => by cases x <;> exact h) HRQ.out ?_
       iterate 8 (refine wpOT_take rfl _ (by rfl) (by intro w' hS;have kc := hS.cell (i := 0) rfl;go_simp;try with_reducible rfl) fun KK hKK => ?_;go_simp;refine hKK _ ?_;clear hKK KK)
       refine wpOT_done ?_
       show Kz _ _
       refine hKz _ _ ?_
       go_simp
       go_wp2_with fail
       refine bodyPost_ret (results_tmps_two rfl _ _) rfl ?_
       refine ⟨_,?_,ownsRow_mono (by have := HB2.out;omega) HOQ.out,HBQ.out.drew⟩
       rw [← HG3.out,hk1]
       cases g2 <;> rfl
    | true =>
     go_wp2_with fail
     have HBQ := Lib.hid HB.out
     have HRQ := Lib.hid HR.out
     have HOQ : Hid (wr.ownsRow B2 3 1 v (aft k p L).length (i64s (aft k p L))) := by
      show World.ownsRow _ _ _ _ _ _ _
      unfold aft
      rw [HT.out,if_neg (by simp),HXX.out.1,HXX.out.2]
      exact HO.out
     clear HO HB HR HXX HT
     obtain ⟨wq,hwq⟩ : ∃ wq,wq = wr := ⟨_,rfl⟩
     subst hwq
     go_loopw [9,63] (fun f i wr2 => ∃ (j : Nat) (g2 : Bool),j ≤ n ∧ i = .int .i64 j ∧ .bool g2 = f ∧ g2 = decide (p ∈ L.take j) ∧ wq = wr2) (fun _ i _ => n - (intOf i).toNat)
     case atStart => exact ⟨0,false,Nat.zero_le _,rfl,rfl,by simp,rfl⟩
     case round =>
      obtain ⟨j,g2,hj,rfl,hgg,hg2,hww⟩ := hrel
      subst hgg
      subst hww
      have HG2 := Lib.hid hg2
      clear hg2
      by_cases hlt : j < n
      ·have k1 : (j : Int) < (n : Int) := by omega
       have k0 : (0 : Int) ≤ (j : Int) := by omega
       obtain ⟨q,hq⟩ : ∃ q,L[j]? = some q := by rw [HN.out] at hlt;exact ⟨_,List.getElem?_eq_getElem hlt⟩
       obtain ⟨b,o,rfl,d0⟩ := HRD.out _ HBQ.out j q hq
       have HQ2 : Hid (decide (p ∈ L.take (j + 1)) = (g2 || decide (q = p))) := by
        show _ = _
        rw [HG2.out]
        have h3 : (p ∈ L.take (j + 1)) ↔ (p ∈ L.take j ∨ q = p) := by rw [List.take_add_one,hq];simp [eq_comm (a := q)]
        by_cases h1 : p ∈ L.take j <;> by_cases h2 : q = p <;> simp [h3,h1,h2]
       clear hq
       have p2 := HRQ.out.cell (i := 1) rfl
       cases g2 with
       | true =>
        go_wp2_with fail
        go_roundw
        case rel => exact ⟨j + 1,true,by omega,by go_num,rfl,by rw [HQ2.out];rfl,trivial⟩
        case measure => simp [intOf];omega
       | false =>
        by_cases hqp : q = p
        ·have e5 : (q == p) = true := by simp [hqp]
         have HQ3 : Hid (true = decide (p ∈ L.take (j + 1))) := by show _ = _;rw [HQ2.out];simp [hqp]
         clear hqp
         go_wp2_with fail
         go_roundw
         case rel => exact ⟨j + 1,true,by omega,by go_num,rfl,HQ3.out,trivial⟩
         case measure => simp [intOf];omega
        ·have e5 : (q == p) = false := by simp [hqp]
         have HQ3 : Hid (false = decide (p ∈ L.take (j + 1))) := by show _ = _;rw [HQ2.out];simp [hqp]
         clear hqp
         go_wp2_with fail
         go_roundw
         case rel => exact ⟨j + 1,false,by omega,by go_num,rfl,HQ3.out,trivial⟩
         case measure => simp [intOf];omega
      ·obtain rfl : n = j := by omega
       have HG3 : Hid (g2 = decide (p ∈ L)) := by show _ = _;rw [HG2.out,HN.out,List.take_length]
       go_wp2_with fail
       rename_i Kz hKz
       refine wp_region_tree (fun w' => Row w' s 40 [.int .i64 k,.int .i64 p]) (.take 0 (.take 1 (.take 2 (.take 3 (.take 4 (.take 5 (.take 6 (.take 7 .done)))))))) (by kernel_rfl) (by kernel_rfl) (by kernel_rfl) (by kernel_rfl) (fun x _ _ _ _ h => by cases x <;> exact h) HRQ.out ?_
       iterate 8 (refine wpOT_take rfl _ (by rfl) (by intro w' hS;have kc := hS.cell (i := 0) rfl;go_simp;try with_reducible rfl) fun KK hKK => ?_;go_simp;refine hKK _ ?_;clear hKK KK)
       refine wpOT_done ?_
       show Kz _ _
       refine hKz _ _ ?_
       go_simp
       go_wp2_with fail
       refine bodyPost_ret (results_tmps_two rfl _ _) rfl ?_
       refine ⟨_,?_,ownsRow_mono (by have := HB2.out;omega) HOQ.out,HBQ.out.drew⟩
       rw [← HG3.out,hk1]
       cases g2 <;> rfl
   ·have e2 : (k == 1) = false := by simp [hk1]
    go_wp2_with fail
    have HBQ := Lib.hid HB.out
    have HRQ := Lib.hid HR.out
    have HOQ : Hid (wr.ownsRow B2 3 1 v (aft k p L).length (i64s (aft k p L))) := by
     show World.ownsRow _ _ _ _ _ _ _
     unfold aft
     rw [HT.out,if_neg (fun h => hk1 h.1),HXX.out.1,HXX.out.2]
     exact HO.out
    clear HO HB HR HXX HT
    obtain ⟨wq,hwq⟩ : ∃ wq,wq = wr := ⟨_,rfl⟩
    subst hwq
    go_loopw [9,63] (fun f i wr2 => ∃ (j : Nat) (g2 : Bool),j ≤ n ∧ i = .int .i64 j ∧ .bool g2 = f ∧ g2 = decide (p ∈ L.take j) ∧ wq = wr2) (fun _ i _ => n - (intOf i).toNat)
    case atStart => exact ⟨0,false,Nat.zero_le _,rfl,rfl,by simp,rfl⟩
    case round =>
     obtain ⟨j,g2,hj,rfl,hgg,hg2,hww⟩ := hrel
     subst hgg
     subst hww
     have HG2 := Lib.hid hg2
     clear hg2
     by_cases hlt : j < n
     ·have k1 : (j : Int) < (n : Int) := by omega
      have k0 : (0 : Int) ≤ (j : Int) := by omega
      obtain ⟨q,hq⟩ : ∃ q,L[j]? = some q := by rw [HN.out] at hlt;exact ⟨_,List.getElem?_eq_getElem hlt⟩
      obtain ⟨b,o,rfl,d0⟩ := HRD.out _ HBQ.out j q hq
      have HQ2 : Hid (decide (p ∈ L.take (j + 1)) = (g2 || decide (q = p))) := by
       show _ = _
       rw [HG2.out]
       have h3 : (p ∈ L.take (j + 1)) ↔ (p ∈ L.take j ∨ q = p) := by rw [List.take_add_one,hq];simp [eq_comm (a := q)]
       by_cases h1 : p ∈ L.take j <;> by_cases h2 : q = p <;> simp [h3,h1,h2]
      clear hq
      have p2 := HRQ.out.cell (i := 1) rfl
      cases g2 with
      | true =>
       go_wp2_with fail
       go_roundw
       case rel => exact ⟨j + 1,true,by omega,by go_num,rfl,by rw [HQ2.out];rfl,trivial⟩
       case measure => simp [intOf];omega
      | false =>
       by_cases hqp : q = p
       ·have e5 : (q == p) = true := by simp [hqp]
        have HQ3 : Hid (true = decide (p ∈ L.take (j + 1))) := by show _ = _;rw [HQ2.out];simp [hqp]
        clear hqp
        go_wp2_with fail
        go_roundw
        case rel => exact ⟨j + 1,true,by omega,by go_num,rfl,HQ3.out,trivial⟩
        case measure => simp [intOf];omega
       ·have e5 : (q == p) = false := by simp [hqp]
        have HQ3 : Hid (false = decide (p ∈ L.take (j + 1))) := by show _ = _;rw [HQ2.out];simp [hqp]
        clear hqp
        go_wp2_with fail
        go_roundw
        case rel => exact ⟨j + 1,false,by omega,by go_num,rfl,HQ3.out,trivial⟩
        case measure => simp [intOf];omega
     ·obtain rfl : n = j := by omega
      have HG3 : Hid (g2 = decide (p ∈ L)) := by show _ = _;rw [HG2.out,HN.out,List.take_length]
      go_wp2_with fail
      rename_i Kz hKz
      refine wp_region_tree (fun w' => Row w' s 40 [.int .i64 k,.int .i64 p]) (.take 0 (.take 1 (.take 2 (.take 3 (.take 4 (.take 5 (.take 6 (.take 7 .done)))))))) (by kernel_rfl) (by kernel_rfl) (by kernel_rfl) (by kernel_rfl) (fun x _ _ _ _ h => by cases x <;> exact h) HRQ.out ?_
      iterate 8 (refine wpOT_take rfl _ (by rfl) (by intro w' hS;have kc := hS.cell (i := 0) rfl;go_simp;try with_reducible rfl) fun KK hKK => ?_;go_simp;refine hKK _ ?_;clear hKK KK)
      refine wpOT_done ?_
      show Kz _ _
      refine hKz _ _ ?_
      go_simp
      go_wp2_with fail
      refine bodyPost_ret (results_tmps_two rfl _ _) rfl ?_
      refine ⟨_,?_,ownsRow_mono (by have := HB2.out;omega) HOQ.out,HBQ.out.drew⟩
      rw [← HG3.out]
      rfl
end Go.Proofs.YtjcpjhlclpdpjaaGreat
