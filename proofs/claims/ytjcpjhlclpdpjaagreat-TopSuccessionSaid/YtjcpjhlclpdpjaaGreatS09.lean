import Derived.RangeFuncNested
import Derived.Shelf.Abstract
import Derived.Test.YtjcpjhlclpdpjaaGreatS08
import Derived.Test.YtjcpjhlclpdpjaaGreatS03
import Derived.Test.YtjcpjhlclpdpjaaGreatS05
set_option linter.unusedVariables false
set_option maxRecDepth 100000
set_option maxHeartbeats 16000000
namespace Go.Proofs.YtjcpjhlclpdpjaaGreat
open Go.RowKit
attribute [local go_sem] Oper.semAt_some
theorem Hs.more {e : Est} {H : HouseV} {B B' : Nat} {w : World} (h : Hs e H B w) (hB : B ≤ B') : Hs e H B' w := ⟨h.ok.more hB,Nat.lt_of_lt_of_le h.g hB,h.c0,h.c1,h.c2,h.c3,h.c4,h.v.more hB⟩
theorem kx_no {s k t : Nat} (h1 : k ≠ s + 1 + 1 + 1 + 1) (h2 : t ≠ 54) : ¬ (s ≤ k ∧ (k = s + 1 + 1 + 1 + 1 ∨ t = 54)) := fun h => h.2.elim h1 h2
def RowA (w : World) (g : Nat) (t : TypeId) (cs : Array Value) : Prop := w.heap[g]? = some (.cells cs t (0,0))
theorem Row.lift {w : World} {g : Nat} {t : TypeId} {cs : Array Value} (h : w.heap[g]? = some (.cells cs t (0,0))) : RowA w g t cs := h
theorem RowA.alloc {w : World} {g : Nat} {t : TypeId} {cs : Array Value} (h : RowA w g t cs) (o : Obj) : RowA (w.alloc o) g t cs := (Below.heap_alloc w o g (heap_lt h)).trans h
theorem Row.drop {w : World} {g : Nat} {t : TypeId} {cs : Array Value} (h : RowA w g t cs) : w.heap[g]? = some (.cells cs t (0,0)) := h
def HouseV.dj (H : HouseV) (e : Est) : DjE := ⟨e,H.vs,H.am⟩
theorem least_any (e : Est) (H : HouseV) (w : World) (hH : Hs e H w.heap.size w) (hN : HsN e H) (hok : (H.dj e).ok) (hpos : 0 < e.H.length) :
  Calls Tryz.prog 15 #[.pointer (some ⟨H.g,0,none⟩)] w fun r w' => ∃ ab all,r = .returned (.slice (some ⟨ab,0,none⟩) (H.dj e).M (H.dj e).M) ∧ w.heap.size ≤ ab ∧ QR w' ab (H.dj e).M all ∧ Fin (H.dj e) all ∧ Below w.heap.size w w' := by
 have q0 := hH.c0
 obtain ⟨hb,ho,hA,hhb,hhall⟩ := heirs_all hH.ok hpos
 have hhc := hH.ok.hc
 have h6 := hN.n
 have hM : (H.dj e).M = 2 ^ e.H.length := rfl
 have hM64 := pow_le64 h6
 obtain ⟨N,eN⟩ : ∃ N,e.H.length = N := ⟨_,rfl⟩
 obtain ⟨hc,ehc⟩ : ∃ x,e.hc = x := ⟨_,rfl⟩
 obtain ⟨M,eM⟩ : ∃ M,(H.dj e).M = M := ⟨_,rfl⟩
 rw [eN,hA,ehc] at q0
 rw [eM,eN] at hM
 rw [eN] at h6 hM64 hpos hhc
 rw [ehc] at hhc
 rw [eM]
 rw [← hM] at hM64
 have HNN : Hid (e.H.length = N ∧ (H.dj e).M = M ∧ M = 2 ^ N) := ⟨eN,eM,hM⟩
 have hw64 : wrap64 ((2 : Int) ^ N) = (M : Int) := by rw [hM];exact wrap_pow N h6
 obtain ⟨ii,hii,hzz⟩ := Option.map_eq_some_iff.1 (show (Tryz.prog.info? 54).map (fun i => (i.zero,i.size,i.bytes)) = some (some (.agg #[.int .u64 0,.int .i64 0,.int .i64 0]),3,24) by kernel_rfl)
 simp only [Prod.mk.injEq] at hzz
 have HII : Hid (Tryz.prog.info? 54 = some ii ∧ ii.zero = some (.agg #[.int .u64 0,.int .i64 0,.int .i64 0]) ∧ ii.size = 3 ∧ (ii.bytes : Int) * (M : Int) ≤ 281474976710656) := ⟨hii,hzz.1,hzz.2.1,by rw [hzz.2.2];omega⟩
 clear hii hzz
 have HW64 := Lib.hid hw64
 have HH := Lib.hid hH
 have HN := Lib.hid hN
 have HOK := Lib.hid hok
 have HHS : Hid (∀ W,Below w.heap.size w W → Hs e H w.heap.size W) := fun W hW => hH.below hW
 have HSF : Hid (∀ (m : Nat) (W : World),m < M → Below w.heap.size w W → Calls Tryz.prog 18 #[.pointer (some ⟨H.g,0,none⟩),.int .u64 (m : Int)] W fun r w' => r = .returned (.bool (e.sf H.vs m)) ∧ Below W.heap.size W w') := fun m W hm hW => safe_any e H m W ((hH.below hW).more hW.size) hN (by rw [eN,← hM];exact hm)
 have HEN : Hid (∀ (m : Nat) (W : World),m < M → Below w.heap.size w W → Calls Tryz.prog 19 #[.pointer (some ⟨H.g,0,none⟩),.int .u64 (m : Int),.int .u64 (H.am : Int)] W fun r w' => r = .returned (.bool (e.en m H.am)) ∧ Drw W w') := fun m W hm hW => enough_any e H w.heap.size m H.am W (hH.below hW) hN (by rw [eN,← hM];exact hm) hN.am
 have hg := hH.g
 obtain ⟨s,hs⟩ : ∃ s,w.heap.size = s := ⟨_,rfl⟩
 have HSS := Lib.hid hs
 rw [hs] at HHS HSF HEN
 have hg2 : H.g < s := by rw [← hs];exact hg
 clear hH hN hok eN ehc eM hM hhall hg
 refine (callsIn_wide (n := 9)).1 ?_
 refine callsIn_of_wp_marks Tryz.func15 rfl trivial ?_ rfl
 simp only [Tryz.ntmps15,List.size_toArray,List.length_cons,List.length_nil,Nat.reduceAdd,Nat.reduceSub,Array.replicate_succ,Array.replicate_zero,List.push_toArray,List.append_toArray,List.nil_append,List.cons_append]
 gi_wp2_with (gi_at_make;refine wpListIn_make_cells rfl (.tmp 15) (.tmp 15) 51 rfl 54 ii (.agg #[.int .u64 0,.int .i64 0,.int .i64 0]) Tryz.underlying51 HII.out.1 HII.out.2.1 3 HII.out.2.2.1 .i64 .i64 M (by rw [← HW64.out];rfl) (by rw [← HW64.out];rfl) HII.out.2.2.2 (by omega) ?_)
 clear hs
 have HL0 : Hid (Lx s H.g M (s + 1 + 1 + 1) 0 w ((((((w.alloc (.cells #[.pointer (some ⟨H.g,0,none⟩)] 87)).alloc (.cells (madeCells #[.int .u64 0,.int .i64 0,.int .i64 0] (M * 3)) 54)).alloc (.cells #[.slice (some ⟨s + 1,0,none⟩) M M] 51)).alloc (.cells #[] 54)).alloc (.cells #[.slice (some ⟨s + 1 + 1 + 1,0,none⟩) 0 0] 89)).alloc (.cells #[.pointer (some ⟨s + 1 + 1 + 1 + 1,0,none⟩)] 88)) (List.replicate M dE) []) := by
  have e0 := HSS.out
  have r1 := (((((Row.new w 87 [.pointer (some ⟨H.g,0,none⟩)]).alloc (.cells (madeCells #[.int .u64 0,.int .i64 0,.int .i64 0] (M * 3)) 54)).alloc (.cells #[.slice (some ⟨s + 1,0,none⟩) M M] 51)).alloc (.cells #[] 54)).alloc (.cells #[.slice (some ⟨s + 1 + 1 + 1,0,none⟩) 0 0] 89)).alloc (.cells #[.pointer (some ⟨s + 1 + 1 + 1 + 1,0,none⟩)] 88)
  have ra := (((((Row.lift (w := (w.alloc (.cells #[.pointer (some ⟨H.g,0,none⟩)] 87)).alloc (.cells (madeCells #[.int .u64 0,.int .i64 0,.int .i64 0] (M * 3)) 54)) (heap_alloc_new (w.alloc (.cells #[.pointer (some ⟨H.g,0,none⟩)] 87)) (.cells (madeCells #[.int .u64 0,.int .i64 0,.int .i64 0] (M * 3)) 54))).alloc (.cells #[.slice (some ⟨s + 1,0,none⟩) M M] 51)).alloc (.cells #[] 54)).alloc (.cells #[.slice (some ⟨s + 1 + 1 + 1,0,none⟩) 0 0] 89)).alloc (.cells #[.pointer (some ⟨s + 1 + 1 + 1 + 1,0,none⟩)] 88))
  have r3 := (((Row.new ((w.alloc (.cells #[.pointer (some ⟨H.g,0,none⟩)] 87)).alloc (.cells (madeCells #[.int .u64 0,.int .i64 0,.int .i64 0] (M * 3)) 54)) 51 [.slice (some ⟨s + 1,0,none⟩) M M]).alloc (.cells #[] 54)).alloc (.cells #[.slice (some ⟨s + 1 + 1 + 1,0,none⟩) 0 0] 89)).alloc (.cells #[.pointer (some ⟨s + 1 + 1 + 1 + 1,0,none⟩)] 88)
  have rg := ((Row.new (((w.alloc (.cells #[.pointer (some ⟨H.g,0,none⟩)] 87)).alloc (.cells (madeCells #[.int .u64 0,.int .i64 0,.int .i64 0] (M * 3)) 54)).alloc (.cells #[.slice (some ⟨s + 1,0,none⟩) M M] 51)) 54 []).alloc (.cells #[.slice (some ⟨s + 1 + 1 + 1,0,none⟩) 0 0] 89)).alloc (.cells #[.pointer (some ⟨s + 1 + 1 + 1 + 1,0,none⟩)] 88)
  have rq := (Row.new ((((w.alloc (.cells #[.pointer (some ⟨H.g,0,none⟩)] 87)).alloc (.cells (madeCells #[.int .u64 0,.int .i64 0,.int .i64 0] (M * 3)) 54)).alloc (.cells #[.slice (some ⟨s + 1,0,none⟩) M M] 51)).alloc (.cells #[] 54)) 89 [.slice (some ⟨s + 1 + 1 + 1,0,none⟩) 0 0]).alloc (.cells #[.pointer (some ⟨s + 1 + 1 + 1 + 1,0,none⟩)] 88)
  have r4 := Row.new (((((w.alloc (.cells #[.pointer (some ⟨H.g,0,none⟩)] 87)).alloc (.cells (madeCells #[.int .u64 0,.int .i64 0,.int .i64 0] (M * 3)) 54)).alloc (.cells #[.slice (some ⟨s + 1,0,none⟩) M M] 51)).alloc (.cells #[] 54)).alloc (.cells #[.slice (some ⟨s + 1 + 1 + 1,0,none⟩) 0 0] 89)) 88 [.pointer (some ⟨s + 1 + 1 + 1 + 1,0,none⟩)]
  simp only [World.size_alloc,e0] at r1 ra r3 rg rq r4
  refine ⟨r1,r3,r4,QR.made (by unfold maxLen;omega) (Row.drop ra),by simp,⟨rq,QR.empty rg,by omega⟩,Heap.nil,.inl rfl,?_⟩
  have hb := ((((((Below.refl w.heap.size w).alloc (Nat.le_refl _) (.cells #[.pointer (some ⟨H.g,0,none⟩)] 87)).alloc (by simp) (.cells (madeCells #[.int .u64 0,.int .i64 0,.int .i64 0] (M * 3)) 54)).alloc (by simp;omega) (.cells #[.slice (some ⟨s + 1,0,none⟩) M M] 51)).alloc (by simp;omega) (.cells #[] 54)).alloc (by simp;omega) (.cells #[.slice (some ⟨s + 1 + 1 + 1,0,none⟩) 0 0] 89)).alloc (by simp;omega) (.cells #[.pointer (some ⟨s + 1 + 1 + 1 + 1,0,none⟩)] 88)
  rw [e0] at hb
  exact hb
 generalize ((((((w.alloc (.cells #[.pointer (some ⟨H.g,0,none⟩)] 87)).alloc (.cells (madeCells #[.int .u64 0,.int .i64 0,.int .i64 0] (M * 3)) 54)).alloc (.cells #[.slice (some ⟨s + 1,0,none⟩) M M] 51)).alloc (.cells #[] 54)).alloc (.cells #[.slice (some ⟨s + 1 + 1 + 1,0,none⟩) 0 0] 89)).alloc (.cells #[.pointer (some ⟨s + 1 + 1 + 1 + 1,0,none⟩)] 88)) = w0 at HL0 ⊢
 clear q0 hw64
 gi_loopw [21] (fun i wr => ∃ (k gq cap : Nat) (all q : List Ent),k ≤ M ∧ i = .int .i64 k ∧ Lx s H.g M gq cap w wr all q ∧ Ini (H.dj e) k all q) (fun i _ => M - (intOf i).toNat)
 case atStart => exact ⟨0,_,_,_,_,Nat.zero_le _,rfl,HL0.out,by have := Ini.start (H.dj e);rwa [HNN.out.2.1] at this⟩
 case round =>
  clear HL0
  obtain ⟨k,gq,cap,all,q,hk,rfl,hL,hI⟩ := hrel
  have HL := Lib.hid hL
  have HI := Lib.hid hI
  clear hL hI
  by_cases hlt : k < M
  ·have k1 : (k : Int) < (M : Int) := by omega
   have k0 : (0 : Int) ≤ (k : Int) := by omega
   have c3 := HL.out.r3.cell (i := 0) rfl
   have HKL : Hid (k < all.length) := by show _ < _;rw [HL.out.al];exact hlt
   gi_wp2_with (refine wpListIn_store_ent rfl (.tmp 29) (.tmp 28) rfl (s + 1) M all k ⟨k,-1,0⟩ HKL.out HL.out.ra (by rfl) (by rfl) ?_;intro w1 hr1 hg1)
   have HL1 : Hid (Lx s H.g M gq cap w w1 (all.set k ⟨k,-1,0⟩) q) := HL.out.store hr1 (List.length_set ..) hg1
   clear HL hr1 hg1 c3 HKL
   rename_i Kz hKz
   obtain ⟨T,hT⟩ : ∃ T,e.sf H.vs k = T := ⟨_,rfl⟩
   obtain ⟨U,hU⟩ : ∃ U,e.en k H.am = U := ⟨_,rfl⟩
   have HT := Lib.hid hT
   have HU := Lib.hid hU
   clear hT hU
   cases T with
   | false =>
    refine wpIn_region_treeM (fun w' => Lx s H.g M gq cap w w' (all.set k ⟨k,-1,0⟩) q) (.take 0 (.take 1 (.one 2 (.take 3 (.take 4 (.take 5 (.take 6 (.take 7 (.take 8 (.take 9 (.one 10 (.take 11 .done)))))))))))) (by kernel_rfl) (by kernel_rfl) (by kernel_rfl) (by kernel_rfl) (by kernel_rfl) HL1.out.drew ?_
    iterate 2 (refine wpOTI_take rfl _ (by rfl) (fun _ => rfl) (by intro w' hS;have c1 := hS.r1.cell (i := 0) rfl;have c2 := (HHS.out _ hS.bel).c2;go_simp;try with_reducible rfl) fun KK hKK => ?_;go_simp;refine hKK _ ?_;clear hKK KK)
    refine wpOTI_one rfl (by rfl) fun KK hKK => ?_
    go_simp
    refine ⟨trivial,(callsIn_wide.2 (HSF.out k _ hlt HL1.out.drew.bel)).mono ?_⟩
    rintro x w2 ⟨rfl,hb2⟩
    rw [HT.out]
    refine hKK _ _ (HL1.out.drew.below hb2) ?_
    clear hKK KK
    have HL2 := Lib.hid (HL1.out.drew.below hb2)
    clear hb2
    refine wpOTI_take rfl _ (by rfl) (fun _ => rfl) (by intro w' hS;have c1 := hS.r1.cell (i := 0) rfl;have c2 := (HHS.out _ hS.bel).c2;go_simp;try with_reducible rfl) fun KK hKK => ?_
    iterate 6 (go_simp;refine hKK _ ?_;clear hKK KK;refine wpOTI_skip rfl (by rfl) (fun _ => rfl) fun KK hKK => ?_)
    go_simp
    refine hKK _ ?_
    clear hKK KK
    refine wpOTI_pass (fun _ => trivial) rfl (by rfl) HL2.out fun KK hKK => ?_
    go_simp
    refine hKK _ ?_
    clear hKK KK
    have HL3 := HL2
    refine wpOTI_take rfl _ (by rfl) (fun _ => rfl) (by intro w' hS;have c1 := hS.r1.cell (i := 0) rfl;have c2 := (HHS.out _ hS.bel).c2;go_simp;try with_reducible rfl) fun KK hKK => ?_
    go_simp
    refine hKK _ ?_
    clear hKK KK
    refine wpOTI_done ?_
    show Kz _ _
    refine hKz _ _ ?_
    go_simp
    have HI4 := Lib.hid (HI.out.no (by rw [HNN.out.2.1];exact hlt) (fun h => by have := show (H.dj e).sf k = _ from congrArg (· = true) HT.out;rw [this] at h;exact absurd h.1 (by simp)))
    gi_wp2_with fail
    go_roundw
    case rel => exact ⟨k + 1,gq,cap,_,q,by omega,by go_num,HL3.out,HI4.out⟩
    case measure => simp [intOf];omega
   | true =>
    cases U with
    | false =>
     refine wpIn_region_treeM (fun w' => Lx s H.g M gq cap w w' (all.set k ⟨k,-1,0⟩) q) (.take 0 (.take 1 (.one 2 (.take 3 (.take 4 (.take 5 (.take 6 (.take 7 (.take 8 (.take 9 (.one 10 (.take 11 .done)))))))))))) (by kernel_rfl) (by kernel_rfl) (by kernel_rfl) (by kernel_rfl) (by kernel_rfl) HL1.out.drew ?_
     iterate 2 (refine wpOTI_take rfl _ (by rfl) (fun _ => rfl) (by intro w' hS;have c1 := hS.r1.cell (i := 0) rfl;have c2 := (HHS.out _ hS.bel).c2;go_simp;try with_reducible rfl) fun KK hKK => ?_;go_simp;refine hKK _ ?_;clear hKK KK)
     refine wpOTI_one rfl (by rfl) fun KK hKK => ?_
     go_simp
     refine ⟨trivial,(callsIn_wide.2 (HSF.out k _ hlt HL1.out.drew.bel)).mono ?_⟩
     rintro x w2 ⟨rfl,hb2⟩
     rw [HT.out]
     refine hKK _ _ (HL1.out.drew.below hb2) ?_
     clear hKK KK
     have HL2 := Lib.hid (HL1.out.drew.below hb2)
     clear hb2
     iterate 7 (refine wpOTI_take rfl _ (by rfl) (fun _ => rfl) (by intro w' hS;have c1 := hS.r1.cell (i := 0) rfl;have c2 := (HHS.out _ hS.bel).c2;go_simp;try with_reducible rfl) fun KK hKK => ?_;go_simp;refine hKK _ ?_;clear hKK KK)
     refine wpOTI_one rfl (by rfl) fun KK hKK => ?_
     go_simp
     refine ⟨trivial,(callsIn_wide.2 (HEN.out k _ hlt HL2.out.bel)).mono ?_⟩
     rintro x w3 ⟨rfl,hb3⟩
     rw [HU.out]
     refine hKK _ _ (HL2.out.below (hb3.below _)) ?_
     clear hKK KK
     have HL3 := Lib.hid (HL2.out.below (hb3.below _))
     clear hb3
     refine wpOTI_take rfl _ (by rfl) (fun _ => rfl) (by intro w' hS;have c1 := hS.r1.cell (i := 0) rfl;have c2 := (HHS.out _ hS.bel).c2;go_simp;try with_reducible rfl) fun KK hKK => ?_
     go_simp
     refine hKK _ ?_
     clear hKK KK
     refine wpOTI_done ?_
     show Kz _ _
     refine hKz _ _ ?_
     go_simp
     have HI4 := Lib.hid (HI.out.no (by rw [HNN.out.2.1];exact hlt) (fun h => by have := show (H.dj e).lv k = _ from congrArg (· = true) HU.out;rw [this] at h;exact absurd h.2 (by simp)))
     gi_wp2_with fail
     go_roundw
     case rel => exact ⟨k + 1,gq,cap,_,q,by omega,by go_num,HL3.out,HI4.out⟩
     case measure => simp [intOf];omega
    | true =>
     refine wpIn_region_treeM (fun w' => Lx s H.g M gq cap w w' (all.set k ⟨k,-1,0⟩) q) (.take 0 (.take 1 (.one 2 (.take 3 (.take 4 (.take 5 (.take 6 (.take 7 (.take 8 (.take 9 (.one 10 (.take 11 .done)))))))))))) (by kernel_rfl) (by kernel_rfl) (by kernel_rfl) (by kernel_rfl) (by kernel_rfl) HL1.out.drew ?_
     iterate 2 (refine wpOTI_take rfl _ (by rfl) (fun _ => rfl) (by intro w' hS;have c1 := hS.r1.cell (i := 0) rfl;have c2 := (HHS.out _ hS.bel).c2;go_simp;try with_reducible rfl) fun KK hKK => ?_;go_simp;refine hKK _ ?_;clear hKK KK)
     refine wpOTI_one rfl (by rfl) fun KK hKK => ?_
     go_simp
     refine ⟨trivial,(callsIn_wide.2 (HSF.out k _ hlt HL1.out.drew.bel)).mono ?_⟩
     rintro x w2 ⟨rfl,hb2⟩
     rw [HT.out]
     refine hKK _ _ (HL1.out.drew.below hb2) ?_
     clear hKK KK
     have HL2 := Lib.hid (HL1.out.drew.below hb2)
     clear hb2
     iterate 7 (refine wpOTI_take rfl _ (by rfl) (fun _ => rfl) (by intro w' hS;have c1 := hS.r1.cell (i := 0) rfl;have c2 := (HHS.out _ hS.bel).c2;go_simp;try with_reducible rfl) fun KK hKK => ?_;go_simp;refine hKK _ ?_;clear hKK KK)
     refine wpOTI_one rfl (by rfl) fun KK hKK => ?_
     go_simp
     refine ⟨trivial,(callsIn_wide.2 (HEN.out k _ hlt HL2.out.bel)).mono ?_⟩
     rintro x w3 ⟨rfl,hb3⟩
     rw [HU.out]
     refine hKK _ _ (HL2.out.below (hb3.below _)) ?_
     clear hKK KK
     have HL3 := Lib.hid (HL2.out.below (hb3.below _))
     clear hb3
     refine wpOTI_take rfl _ (by rfl) (fun _ => rfl) (by intro w' hS;have c1 := hS.r1.cell (i := 0) rfl;have c2 := (HHS.out _ hS.bel).c2;go_simp;try with_reducible rfl) fun KK hKK => ?_
     go_simp
     refine hKK _ ?_
     clear hKK KK
     refine wpOTI_done ?_
     show Kz _ _
     refine hKz _ _ ?_
     go_simp
     have HI2 := HI.out
     have hp := hpush_any (s + 1 + 1 + 1 + 1) gq cap q ⟨k,0,0⟩ w3 HL3.out.qm (by have := HI2.ql;omega) HL3.out.hp
     have HP : Hid (Calls Tryz.prog 37 #[.iface 88 (.pointer (some ⟨s + 1 + 1 + 1 + 1,0,none⟩)),.iface 54 (.agg #[.int .u64 (k : Int),.int .i64 0,.int .i64 0])] w3 fun r w' => r = .returned (.tuple #[]) ∧ ∃ g' cap' l',Qm w' (s + 1 + 1 + 1 + 1) g' cap' l' ∧ l'.length = q.length + 1 ∧ (∀ y,y ∈ l' ↔ y ∈ q ∨ y = ⟨k,0,0⟩) ∧ Heap l' l'.length ∧ (g' = gq ∨ w3.heap.size ≤ g') ∧ Chg (fun k => k = s + 1 + 1 + 1 + 1 ∨ k = gq) w3 w') := hp
     clear hp HI2
     have c4 := HL3.out.r4.cell (i := 0) rfl
     gi_wp2_with fail
     refine ⟨trivial,(callsIn_wide.2 HP.out).mono ?_⟩
     rintro x w4 ⟨rfl,gq4,cap4,q4,hq1,hq2,hq3,hq4,hq5,hq6⟩
     have HL4 := Lib.hid (HL3.out.queue hq6 hq1 hq4 hq5)
     have HI4 := Lib.hid (HI.out.yes (by rw [HNN.out.2.1];exact hlt) HT.out HU.out hq3 hq2)
     clear HP hq1 hq2 hq3 hq4 hq5 hq6 c4
     gi_wp2_with fail
     go_roundw
     case rel => exact ⟨k + 1,gq4,cap4,_,q4,by omega,by go_num,HL4.out,HI4.out⟩
     case measure => simp [intOf];omega
  ·obtain rfl : k = M := by omega
   have HD0 := Lib.hid (Ini.dj HOK.out (by rw [HNN.out.2.1];exact HI.out))
   gi_wp2_with fail
   obtain ⟨J,hJ⟩ : ∃ J : Nat → Act → World → Prop,J = fun n a' w' => a'.tmps.size = 117 ∧ a'.tmps.getD 1 undef = .pointer (some ⟨s,0,none⟩) ∧ a'.tmps.getD 3 undef = .pointer (some ⟨s + 1 + 1,0,none⟩) ∧ a'.tmps.getD 4 undef = .pointer (some ⟨s + 1 + 1 + 1 + 1 + 1,0,none⟩) ∧
    Marks (s + 1 + 1 + 1 + 1 + 1 + 1) w'.heap.size a'.defers w' ∧ ∃ (gq cap : Nat) (all q : List Ent),Lx s H.g k gq cap w w' all q ∧ Dj (H.dj e) (fun _ _ => False) all q ∧ q.length ≤ 64 + 160 * nset all ∧ n = (64 - nset all) * 200 + q.length := ⟨_,rfl⟩
   refine wpIn_loop_ghost J ?_ ?_
   ·rw [hJ]
    exact ⟨_,rfl,rfl,rfl,rfl,Marks.nil _ _ _,gq,cap,all,q,HL.out,HD0.out.1,by have := HI.out.ql;omega,rfl⟩
   ·clear HL HI HD0 HW64 HII
    have HJ := Lib.hid hJ
    intro n a' wr hinv
    rw [hJ] at hinv
    clear hJ
    obtain ⟨h117,e1,e3,e4,hm,gq,cap,all,q,hL,hD,hql,hn⟩ := hinv
    obtain ⟨T,ds⟩ := a'
    dsimp only at h117 e1 e3 e4 hm
    obtain ⟨v,hT,hv⟩ := arr_fun T 117 h117
    have e : ((List.range 117).map v).toArray = #[v 0,v 1,v 2,v 3,v 4,v 5,v 6,v 7,v 8,v 9,v 10,v 11,v 12,v 13,v 14,v 15,v 16,v 17,v 18,v 19,v 20,v 21,v 22,v 23,v 24,v 25,v 26,v 27,v 28,v 29,v 30,v 31,v 32,v 33,v 34,v 35,v 36,v 37,v 38,v 39,v 40,v 41,v 42,v 43,v 44,v 45,v 46,v 47,v 48,v 49,v 50,v 51,v 52,v 53,v 54,v 55,v 56,v 57,v 58,v 59,v 60,v 61,v 62,v 63,v 64,v 65,v 66,v 67,v 68,v 69,v 70,v 71,v 72,v 73,v 74,v 75,v 76,v 77,v 78,v 79,v 80,v 81,v 82,v 83,v 84,v 85,v 86,v 87,v 88,v 89,v 90,v 91,v 92,v 93,v 94,v 95,v 96,v 97,v 98,v 99,v 100,v 101,v 102,v 103,v 104,v 105,v 106,v 107,v 108,v 109,v 110,v 111,v 112,v 113,v 114,v 115,v 116] := rfl
    rw [show v 1 = _ from (hv 1).symm.trans e1,show v 3 = _ from (hv 3).symm.trans e3,show v 4 = _ from (hv 4).symm.trans e4] at e
    rw [hT,e]
    have HL := Lib.hid hL
    have HD := Lib.hid hD
    have HM := Lib.hid hm
    have HQ := Lib.hid (And.intro hql hn)
    have c4 := HL.out.r4.cell (i := 0) rfl
    have cq := HL.out.qm.ptr.cell (i := 0) rfl
    clear hT hv e e1 e3 e4 h117 hL hD hm hql hn
    cases q with
    | nil =>
     have cq' : wr.cell? ⟨s + 1 + 1 + 1 + 1,0,none⟩ = some (.slice (some ⟨gq,0,none⟩) 0 cap) := cq
     have c3 := HL.out.r3.cell (i := 0) rfl
     clear cq
     gi_wp2_with (refine ⟨trivial,?_⟩;gi_at_call 38;refine (callsIn_wide.2 (qlen_any _ _ _ _)).mono ?_;rintro e w' ⟨rfl,rfl⟩)
     refine leaves_marks ds _ HM.out fun w' hb' => ?_
     exact ⟨_,results_tmp rfl _ _ _,s + 1,all,rfl,by rw [HSS.out];omega,HL.out.ra.heap (hb'.block (s + 1) (by omega)),by have := HD.out.fin HOK.out;exact this,by rw [HSS.out];exact HL.out.bel.trans (hb'.mono (by omega))⟩
    | cons y0 q0 =>
     obtain ⟨q,hqq⟩ : ∃ q,y0 :: q0 = q := ⟨_,rfl⟩
     have hq0 : 0 < q.length := by rw [← hqq];simp
     rw [hqq] at HL HD HQ cq
     clear hqq
     gi_wp2_with (refine ⟨trivial,?_⟩;gi_at_call 38;refine (callsIn_wide.2 (qlen_any _ _ _ _)).mono ?_;rintro e w' ⟨rfl,rfl⟩)
     have HPP : Hid (Calls Tryz.prog 39 #[.iface 88 (.pointer (some ⟨s + 1 + 1 + 1 + 1,0,none⟩))] wr fun r w' => ∃ (xm : Nat) (xc xs : Int) (l' : List Ent),r = .returned (.iface 54 (.agg #[.int .u64 (xm : Int),.int .i64 xc,.int .i64 xs])) ∧ Qm w' (s + 1 + 1 + 1 + 1) gq cap l' ∧ l'.length + 1 = q.length ∧ (∀ y,y ∈ q ↔ y ∈ l' ∨ y = ⟨xm,xc,xs⟩) ∧ Heap l' l'.length ∧ (∀ y ∈ q,¬ ltE y ⟨xm,xc,xs⟩) ∧ Chg (fun k => k = s + 1 + 1 + 1 + 1 ∨ k = gq) wr w') :=
      (hpop_any (s + 1 + 1 + 1 + 1) gq cap q wr HL.out.qm (by have := HQ.out.1;have := nset_le all;have := HL.out.al;omega) hq0 HL.out.hp).mono (by rintro r w' ⟨⟨xm,xc,xs⟩,l',h⟩;exact ⟨xm,xc,xs,l',h⟩)
     refine ⟨trivial,(callsIn_wide.2 HPP.out).mono ?_⟩
     rintro e2 w1 ⟨xm,xc,xs,q1,rfl,hq1,hq2,hq3,hq4,hq5,hq6⟩
     have HL1 := Lib.hid (HL.out.queue hq6 hq1 hq4 (.inl rfl))
     have HX := Lib.hid (And.intro hq2 (And.intro hq3 hq5))
     have hjx := HD.out.qj ⟨xm,xc,xs⟩ ((hq3 _).2 (.inr rfl))
     have HJX := Lib.hid hjx
     have hxm : xm < k := by have := hjx.lt;rw [HNN.out.2.1] at this;exact this
     have HM1 := Lib.hid (HM.out.chg hq6 HL.out.isCells (Nat.le_refl _))
     have HSZ := Lib.hid hq6.size
     clear HPP hq1 hq2 hq3 hq4 hq5 hq6 hjx c4 cq HM
     have hta := assert_reached #[.int .u64 (xm : Int),.int .i64 xc,.int .i64 xs] w1
     have HL2 : Hid (Lx s H.g k gq cap w (w1.alloc (.cells #[.int .u64 (xm : Int),.int .i64 xc,.int .i64 xs] 54)) all q1) := HL1.out.alloc _
     have c3 := HL2.out.r3.cell (i := 0) rfl
     have ca := (HL2.out.ra.cell (k := xm) (by rw [HL2.out.al];exact hxm)).2.1
     obtain ⟨CC,hCC⟩ : ∃ C,(all.getD xm dE).c = C := ⟨_,rfl⟩
     rw [hCC] at ca
     have i0 : (0 : Int) ≤ (xm : Int) := by omega
     have i1 : (xm : Int) < (k : Int) := by omega
     by_cases hst : 0 ≤ CC
     ·have HST : Hid (stl all xm) := by show 0 ≤ (all.getD xm dE).c;rw [hCC];exact hst
      clear hCC
      gi_wp2_with fail
      rw [HJ.out]
      refine ⟨_,?_,rfl,rfl,rfl,rfl,(HM1.out.keep ((Below.refl _ w1).alloc HSZ.out _)).more (by have := HSZ.out;simp;omega),gq,cap,all,q1,HL2.out,HD.out.drop HX.out.2.1 HST.out,?_,rfl⟩
      ·have := HQ.out.2;have := HX.out.1;omega
      ·have := HQ.out.1;have := HX.out.1;omega
     ·have HST : Hid (¬ stl all xm) := by show ¬ 0 ≤ (all.getD xm dE).c;rw [hCC];exact hst
      clear hCC
      have HKX : Hid (xm < all.length) := by show _ < _;rw [HL2.out.al];exact hxm
      have HXB : Hid (Row (w1.alloc (.cells #[.int .u64 (xm : Int),.int .i64 xc,.int .i64 xs] 54)) w1.heap.size 54 [.int .u64 (xm : Int),.int .i64 xc,.int .i64 xs]) := Row.new w1 _ _
      have HLS : Hid (∀ w2,QR w2 (s + 1) k (all.set xm ⟨xm,xc,xs⟩) → (w1.alloc (.cells #[.int .u64 (xm : Int),.int .i64 xc,.int .i64 xs] 54)).grownBy w2 (some (s + 1)) → Lx s H.g k gq cap w w2 (all.set xm ⟨xm,xc,xs⟩) q1 ∧ Row w2 w1.heap.size 54 [.int .u64 (xm : Int),.int .i64 xc,.int .i64 xs]) := fun w2 h1 h2 =>
       ⟨HL2.out.store h1 (List.length_set ..) h2,HXB.out.grown h2 (fun e => by have := HL1.out.lt;have := Option.some.inj e;omega)⟩
      gi_wp2_with (first | (refine wpListIn_store_ent rfl (.tmp 71) (.tmp 70) rfl (s + 1) k all xm ⟨xm,xc,xs⟩ HKX.out HL2.out.ra (by rfl) (by rfl) ?_;intro w2 hr2 hg2;have HW2 := Lib.hid (HLS.out w2 hr2 hg2);have HG2 := Lib.hid hg2;clear hr2 hg2;have c1 := HW2.out.1.r1.cell (i := 0) rfl;have cx := HW2.out.2.cell (i := 0) rfl) | (refine ⟨trivial,?_⟩;gi_at_call 16;refine (callsIn_wide.2 (ways_any _ _ _)).mono ?_;rintro e w' ⟨rfl,rfl⟩))
      clear c3 ca hta i0 i1 hst
      obtain ⟨bx,hbx⟩ : ∃ b,w1.heap.size = b := ⟨_,rfl⟩
      obtain ⟨z,hz⟩ : ∃ z,w2.heap.size = z := ⟨_,rfl⟩
      have hbz : s + 1 + 1 + 1 + 1 + 1 < z := by rw [← hz];exact HW2.out.1.lt.1
      have hL3 : Lx s H.g k gq cap w ((w2.alloc (.cells #[.pointer (some ⟨H.g,0,none⟩)] 87)).alloc (.cells #[.int .u64 (xm : Int)] 45)) (all.set xm ⟨xm,xc,xs⟩) q1 := (HW2.out.1.alloc _).alloc _
      have hRX : Row ((w2.alloc (.cells #[.pointer (some ⟨H.g,0,none⟩)] 87)).alloc (.cells #[.int .u64 (xm : Int)] 45)) bx 54 [.int .u64 (xm : Int),.int .i64 xc,.int .i64 xs] := by rw [← hbx];exact (HW2.out.2.alloc _).alloc _
      have hRh : Row ((w2.alloc (.cells #[.pointer (some ⟨H.g,0,none⟩)] 87)).alloc (.cells #[.int .u64 (xm : Int)] 45)) z 87 [.pointer (some ⟨H.g,0,none⟩)] := by rw [← hz];exact (Row.new w2 _ _).alloc _
      have hRm : Row ((w2.alloc (.cells #[.pointer (some ⟨H.g,0,none⟩)] 87)).alloc (.cells #[.int .u64 (xm : Int)] 45)) (z + 1) 45 [.int .u64 (xm : Int)] := by
       have := Row.new (w2.alloc (.cells #[.pointer (some ⟨H.g,0,none⟩)] 87)) 45 [.int .u64 (xm : Int)]
       rw [World.size_alloc,hz] at this
       exact this
      have hMK : Marks (s + 1 + 1 + 1 + 1 + 1 + 1) ((w2.alloc (.cells #[.pointer (some ⟨H.g,0,none⟩)] 87)).alloc (.cells #[.int .u64 (xm : Int)] 45)).heap.size ds ((w2.alloc (.cells #[.pointer (some ⟨H.g,0,none⟩)] 87)).alloc (.cells #[.int .u64 (xm : Int)] 45)) := by
       have m1 := HM1.out.keep ((Below.refl _ w1).alloc HSZ.out (.cells #[.int .u64 (xm : Int),.int .i64 xc,.int .i64 xs] 54))
       have m2 := m1.chg (Chg.of_grown (ex := fun k => k = s + 1) HG2.out (fun k e => (Option.some.inj e).symm)) (by
        intro k' e' o' ho'
        subst e'
        obtain ⟨cur,hcur,_⟩ := HL2.out.ra
        rw [hcur] at ho';cases ho';rfl) (by have := HSZ.out;simp;omega)
       have hs2 := HG2.out.size
       rw [World.size_alloc] at hs2
       exact (m2.keep (((Below.refl _ w2).alloc (by have := HSZ.out;omega) _).alloc (by have := HSZ.out;simp;omega) _)).more (by have := HSZ.out;simp;omega)
      have hbg : gq < bx := by rw [← hbx];exact HL1.out.lt.2
      have hbs : s + 1 + 1 + 1 + 1 + 1 < bx := by rw [← hbx];exact HL1.out.lt.1
      have hxs : xs ≤ 64 := by have := HD.out.qs _ ((HX.out.2.1 _).2 (.inr rfl));have := nset_le all;have := HL.out.al;simp only at *;omega
      have hxc0 : 0 ≤ xc := HJX.out.c0
      have hxs0 : 0 ≤ xs := HJX.out.s0
      have hxc1 : xc ≤ 67108864 := by have := HJX.out.cb;simp only at this;omega
      have hDX := XO.start (HD.out.settle HOK.out HX.out.2.1 HX.out.2.2 HST.out)
      have hn2 : nset (all.set xm ⟨xm,xc,xs⟩) = nset all + 1 := nset_set all xm _ HKX.out HST.out HJX.out.c0
      have hMM := nset_le (all.set xm ⟨xm,xc,xs⟩)
      rw [hL3.al,hn2] at hMM
      have HDX := Lib.hid hDX
      have HN2 := Lib.hid (And.intro hn2 hMM)
      obtain ⟨allx,hallx⟩ : ∃ a,all.set xm ⟨xm,xc,xs⟩ = a := ⟨_,rfl⟩
      rw [hallx] at hL3 HDX HN2
      have hgx : allx.getD xm dE = ⟨xm,xc,xs⟩ := by rw [← hallx,getD_set all xm xm _ HKX.out,if_pos rfl]
      have HGX := Lib.hid hgx
      have hmax : ∀ j,j < k → stl allx j → ¬ ltE ⟨xm,xc,xs⟩ (allx.getD j dE) := fun j hj hs' => by
       rw [← hallx,getD_set all xm j _ HKX.out]
       by_cases e' : xm = j
       ·rw [if_pos e'];unfold ltE;omega
       ·rw [if_neg e']
        refine HD.out.ord j (by rw [HNN.out.2.1];exact hj) ?_ _ ((HX.out.2.1 _).2 (.inr rfl))
        unfold stl at hs' ⊢
        rwa [← hallx,getD_set all xm j _ HKX.out,if_neg e'] at hs'
      have HMX := Lib.hid hmax
      rw [hbx,hz]
      generalize ((w2.alloc (.cells #[.pointer (some ⟨H.g,0,none⟩)] 87)).alloc (.cells #[.int .u64 (xm : Int)] 45)) = W0 at hL3 hRX hRh hRm hMK ⊢
      clear c1 cx HW2 HG2 HLS HXB HKX HL2 HL1 HM1 HSZ hDX hn2 hMM hallx hgx hmax HST hbx hz
      have hs3 : s ≤ W0.heap.size := by have := hL3.lt;omega
      have hHS := HHS.out W0 hL3.bel
      have HQ1 : Hid (q1.length + 1 = q.length) := HX.out.1
      refine wpIn_rangeFunc_ownH rfl (by omega) (gf := 40) (lb := #[.pointer (some ⟨z,0,none⟩),.pointer (some ⟨z + 1,0,none⟩)]) rfl trivial (enters_of Tryz.func40 (by kernel_rfl) rfl)
       (encs := fun y : {y : Way // y ∈ e.wall xm} => encW y.1) (Kp := KeepQ (fun k t => s ≤ k ∧ (k = s + 1 + 1 + 1 + 1 ∨ t = 54))) (S := fun ys => ys.map Subtype.val = e.wall xm) (Sp := fun pre => e.wpre xm (pre.map Subtype.val)) (N := 12) (w0 := W0)
       (ways_seq Fence.wide (9 - 1) trivial (fun _ => trivial) rfl (by omega) z (z + 1) H.g s _ e xm (by rw [HNN.out.1];exact h6) (by omega) (by rw [HNN.out.1];exact hpos) (fun k t h1 h2 => by omega) hg2 (kx_no (by omega) (by decide)) (kx_no (by omega) (by decide)) W0 (fun k hk => kx_no (by have := hL3.lt;omega) (by decide)) hRh hRm hHS.c0 (by have := hL3.lt;omega) hHS.ok.h hs3 hHS.ok.hc)
       (fun h1 h2 => h1.trans h2) (fun W lo ob ob' h1 h2 h3 h4 => KeepQ.putObj W lo ob ob' h2 h3) (Below.refl _ _) (fun _ => rfl)
       (fun pre W => LI (H.dj e) s H.g k gq w W0 W allx (XO ⟨xm,xc,xs⟩ (pre.map Subtype.val)) (q1.length + 12 * pre.length)) (fun _ _ _ => False)
       (fun pre W W' row h hg hr => LI.grown hs3 h hg hr) (fun _ _ _ _ _ h _ _ => h) (LI.start hL3 HDX.out (by simp))
       (fun y a' W => ∃ Bb,(Row W Bb 59 [.int .i64 y.1.k,.int .i64 y.1.p,.int .u64 (y.1.t : Int),.int .i64 y.1.c]) ∧ a'.tmps.size = 117 ∧ a'.tmps.getD 1 undef = .pointer (some ⟨s,0,none⟩) ∧ a'.tmps.getD 3 undef = .pointer (some ⟨s + 1 + 1,0,none⟩) ∧ a'.tmps.getD 4 undef = .pointer (some ⟨s + 1 + 1 + 1 + 1 + 1,0,none⟩) ∧ a'.tmps.getD 7 undef = .pointer (some ⟨bx,0,none⟩) ∧ a'.tmps.getD 8 undef = .pointer (some ⟨Bb,0,none⟩) ∧ a'.defers = [])
       (fun y a' _ X' Y' row hs hg hr' => by
        obtain ⟨Bb,h1,h2⟩ := hs
        exact ⟨Bb,(grownBy_keeps_cells hg (fun r e => (hr' r e).2) h1 rfl).trans h1,h2⟩)
       ?assign ?body ?done ?stop
      case assign =>
       rintro lo pre y W K hI hK
       gi_wp2
       exact hK _ _ ((KeepsOthers.alloc _ _).from _) ((KeepQ.refl _).alloc _) (hI.alloc _) ⟨W.heap.size,Row.new W _ _,rfl,rfl,rfl,rfl,rfl,rfl,rfl⟩
      case body =>
       rintro lo pre ⟨⟨yk,yp,yt,yc⟩,hy⟩ a' W hlo ⟨rl,hrl⟩ hI ⟨Bb,hRb,h117,e1,e3,e4,e7,e8,hdf⟩ hlen
       obtain ⟨T2,ds2⟩ := a'
       dsimp only at h117 e1 e3 e4 e7 e8 hdf hRb
       subst hdf
       obtain ⟨v2,hT,hv⟩ := arr_fun T2 117 h117
       have e' : ((List.range 117).map v2).toArray = #[v2 0,v2 1,v2 2,v2 3,v2 4,v2 5,v2 6,v2 7,v2 8,v2 9,v2 10,v2 11,v2 12,v2 13,v2 14,v2 15,v2 16,v2 17,v2 18,v2 19,v2 20,v2 21,v2 22,v2 23,v2 24,v2 25,v2 26,v2 27,v2 28,v2 29,v2 30,v2 31,v2 32,v2 33,v2 34,v2 35,v2 36,v2 37,v2 38,v2 39,v2 40,v2 41,v2 42,v2 43,v2 44,v2 45,v2 46,v2 47,v2 48,v2 49,v2 50,v2 51,v2 52,v2 53,v2 54,v2 55,v2 56,v2 57,v2 58,v2 59,v2 60,v2 61,v2 62,v2 63,v2 64,v2 65,v2 66,v2 67,v2 68,v2 69,v2 70,v2 71,v2 72,v2 73,v2 74,v2 75,v2 76,v2 77,v2 78,v2 79,v2 80,v2 81,v2 82,v2 83,v2 84,v2 85,v2 86,v2 87,v2 88,v2 89,v2 90,v2 91,v2 92,v2 93,v2 94,v2 95,v2 96,v2 97,v2 98,v2 99,v2 100,v2 101,v2 102,v2 103,v2 104,v2 105,v2 106,v2 107,v2 108,v2 109,v2 110,v2 111,v2 112,v2 113,v2 114,v2 115,v2 116] := rfl
       rw [show v2 1 = _ from (hv 1).symm.trans e1,show v2 3 = _ from (hv 3).symm.trans e3,show v2 4 = _ from (hv 4).symm.trans e4,show v2 7 = _ from (hv 7).symm.trans e7,show v2 8 = _ from (hv 8).symm.trans e8] at e'
       rw [hT,e']
       obtain ⟨gq2,cap2,q2,hL,hC,hG,hD,hB⟩ := hI
       have htt := HOK.out.tt xm (by rw [HNN.out.2.1];exact hxm) _ hy
       rw [HNN.out.2.1] at htt
       have hyt : yt < k := htt.1
       have c3 := hL.r3.cell (i := 0) rfl
       have c1 := hL.r1.cell (i := 0) rfl
       have cb := hRb.cell (i := 2) rfl
       have ca := (hL.ra.cell (k := yt) (by rw [hL.al];exact hyt)).2.1
       obtain ⟨CC,hCC⟩ : ∃ C,(allx.getD yt dE).c = C := ⟨_,rfl⟩
       rw [hCC] at ca
       have i0 : (0 : Int) ≤ (yt : Int) := by omega
       have i1 : (yt : Int) < (k : Int) := by omega
       have HLB := Lib.hid (And.intro hL (And.intro hC (And.intro hG (And.intro hD hB))))
       have HRB := Lib.hid hRb
       have HTT := Lib.hid htt
       have HYY := Lib.hid hy
       have HRL := Lib.hid hrl
       have HSY := Lib.hid (HSF.out yt)
       have HBD : Hid (q2.length ≤ q1.length + 12 * (pre ++ [(⟨⟨yk,yp,yt,yc⟩,hy⟩ : {y : Way // y ∈ e.wall xm})]).length) := by show _ ≤ _;rw [List.length_append];omega
       have HMP : Hid ((pre ++ [(⟨⟨yk,yp,yt,yc⟩,hy⟩ : {y : Way // y ∈ e.wall xm})]).map Subtype.val = pre.map Subtype.val ++ [⟨yk,yp,yt,yc⟩]) := by show _ = _;simp
       clear hL hC hG hD hB hRb hT hv e' e1 e3 e4 e7 e8 h117 htt hrl
       by_cases hst : 0 ≤ CC
       ·have HST : Hid (stl allx yt) := by show 0 ≤ (allx.getD yt dE).c;rw [hCC];exact hst
        clear hCC
        gi_wp2_with fail
        refine ⟨trivial,?_⟩
        gi_wp2_with fail
        have sub := LI.start HLB.out.1 (XO.skip (b := ⟨yk,yp,yt,yc⟩) HLB.out.2.2.2.1 (.inl HST.out)) HBD.out
        rw [← HMP.out] at sub
        exact ⟨(LI.keeps HLB.out.1 sub _).1,(LI.keeps HLB.out.1 sub 0).2,LI.next HLB.out.2.2.1 HLB.out.2.1 sub⟩
       ·have HST : Hid (¬ stl allx yt) := by show ¬ 0 ≤ (allx.getD yt dE).c;rw [hCC];exact hst
        clear hCC
        gi_wp2_with fail
        refine ⟨trivial,(CallsIn.inRound lo (callsIn_wide.2 (HSY.out W hyt HLB.out.1.bel))).mono ?_⟩
        rintro e5 w5 ⟨rfl,hb5⟩
        have HB5 := Lib.hid hb5
        have hL5 := HLB.out.1.below hb5
        have c1 := hL5.r1.cell (i := 0) rfl
        have HRB5 := Lib.hid (HRB.out.below hb5 HRB.out.lt)
        have cb := HRB5.out.cell (i := 2) rfl
        have HL5 := Lib.hid hL5
        obtain ⟨U,hU⟩ : ∃ U,e.sf H.vs yt = U := ⟨_,rfl⟩
        have HU := Lib.hid hU
        rw [hU]
        clear hb5 hL5 hU c3 ca
        cases U with
        | false =>
         gi_wp2_with fail
         have sub := (LI.start HLB.out.1 (XO.skip (b := ⟨yk,yp,yt,yc⟩) HLB.out.2.2.2.1 (.inr (fun h => by have h2 : e.sf H.vs yt = true := h;rw [HU.out] at h2;cases h2))) HBD.out).below HB5.out
         rw [← HMP.out] at sub
         exact ⟨(LI.keeps HLB.out.1 sub _).1,(LI.keeps HLB.out.1 sub 0).2,LI.next HLB.out.2.2.1 HLB.out.2.1 sub⟩
        | true =>
         gi_wp2_with (refine ⟨trivial,?_⟩;gi_at_call 16;refine (CallsIn.inRound lo (callsIn_wide.2 (ways_any _ _ _))).mono ?_;rintro e w' ⟨rfl,rfl⟩)
         clear c1 cb
         obtain ⟨z2,hz2⟩ : ∃ z,w5.heap.size = z := ⟨_,rfl⟩
         have hbW : Below W.heap.size W ((w5.alloc (.cells #[.pointer (some ⟨H.g,0,none⟩)] 87)).alloc (.cells #[.int .u64 (yt : Int)] 45)) := HB5.out.trans (((Below.refl w5.heap.size w5).alloc (Nat.le_refl _) _).alloc (by simp) _ |>.mono HB5.out.size)
         have hL6 : Lx s H.g k gq2 cap2 w ((w5.alloc (.cells #[.pointer (some ⟨H.g,0,none⟩)] 87)).alloc (.cells #[.int .u64 (yt : Int)] 45)) allx q2 := (HL5.out.alloc _).alloc _
         have hRh2 : Row ((w5.alloc (.cells #[.pointer (some ⟨H.g,0,none⟩)] 87)).alloc (.cells #[.int .u64 (yt : Int)] 45)) z2 87 [.pointer (some ⟨H.g,0,none⟩)] := by rw [← hz2];exact (Row.new w5 _ _).alloc _
         have hRm2 : Row ((w5.alloc (.cells #[.pointer (some ⟨H.g,0,none⟩)] 87)).alloc (.cells #[.int .u64 (yt : Int)] 45)) (z2 + 1) 45 [.int .u64 (yt : Int)] := by
          have := Row.new (w5.alloc (.cells #[.pointer (some ⟨H.g,0,none⟩)] 87)) 45 [.int .u64 (yt : Int)]
          rw [World.size_alloc,hz2] at this
          exact this
         have hbz2 : s + 1 + 1 + 1 + 1 + 1 < z2 := by rw [← hz2];exact HL5.out.lt.1
         have hRB6 : Row ((w5.alloc (.cells #[.pointer (some ⟨H.g,0,none⟩)] 87)).alloc (.cells #[.int .u64 (yt : Int)] 45)) Bb 59 [.int .i64 yk,.int .i64 yp,.int .u64 (yt : Int),.int .i64 yc] := (HRB5.out.alloc _).alloc _
         have hnb : gq2 ≠ bx := by have h1 := HLB.out.2.2.1;have h2 := hRX.lt;omega
         have hRX5 := HLB.out.2.1.row hRX (by omega)
         have hRX6 : Row ((w5.alloc (.cells #[.pointer (some ⟨H.g,0,none⟩)] 87)).alloc (.cells #[.int .u64 (yt : Int)] 45)) bx 54 [.int .u64 (xm : Int),.int .i64 xc,.int .i64 xs] := hRX5.below hbW hRX5.lt
         have hlr : ((w5.alloc (.cells #[.pointer (some ⟨H.g,0,none⟩)] 87)).alloc (.cells #[.int .u64 (yt : Int)] 45)).heap[lo]? = some (.loop rl) := (hbW.block lo (heap_lt HRL.out)).trans HRL.out
         have hnB : Bb ≠ s + 1 + 1 + 1 + 1 ∧ Bb ≠ gq2 := by
          constructor
          ·intro h1
           have h2 := HRB.out
           rw [h1] at h2
           have h3 := (show W.heap[s + 1 + 1 + 1 + 1]? = _ from HLB.out.1.qm.ptr).symm.trans h2
           cases h3
          ·intro h1
           obtain ⟨cur,h3,_⟩ := HLB.out.1.qm.row
           rw [← h1] at h3
           have h4 := h3.symm.trans HRB.out
           cases h4
         rw [hz2]
         generalize ((w5.alloc (.cells #[.pointer (some ⟨H.g,0,none⟩)] 87)).alloc (.cells #[.int .u64 (yt : Int)] 45)) = W6 at hbW hL6 hRh2 hRm2 hRB6 hRX6 hlr ⊢
         clear hz2 HRB5 HL5 HB5
         have hs6 : s ≤ W6.heap.size := by have := hL6.lt;omega
         have hHS6 := HHS.out W6 hL6.bel
         refine wpIn_rangeFunc_ownN (l₀ := lo) (r₀ := rl) rfl hlr (by omega) (gf := 40) (lb := #[.pointer (some ⟨z2,0,none⟩),.pointer (some ⟨z2 + 1,0,none⟩)]) rfl trivial (enters_of Tryz.func40 (by kernel_rfl) rfl)
          (encs := fun y : {y : Way // y ∈ e.wall yt} => encW y.1) (Kp := KeepQ (fun k t => s ≤ k ∧ (k = s + 1 + 1 + 1 + 1 ∨ t = 54))) (S := fun ys => ys.map Subtype.val = e.wall yt) (Sp := fun pre => e.wpre yt (pre.map Subtype.val)) (N := 12) (w0 := W6)
          (SeqStopsK.inRound lo (ways_seq Fence.wide (9 - 1 - 1 - 1) trivial (fun _ => trivial) rfl (by omega) z2 (z2 + 1) H.g s _ e yt (by rw [HNN.out.1];exact h6) (by omega) (by rw [HNN.out.1];exact hpos) (fun k t h1 h2 => by omega) hg2 (kx_no (by omega) (by decide)) (kx_no (by omega) (by decide)) W6 (fun k hk => kx_no (by have := hL6.lt;omega) (by decide)) hRh2 hRm2 hHS6.c0 (by have := hL6.lt;omega) hHS6.ok.h hs6 hHS6.ok.hc))
          (fun h1 h2 => h1.trans h2) (fun W lo ob ob' h1 h2 h3 h4 => KeepQ.putObj W lo ob ob' h2 h3) (Below.refl _ _) (fun _ => rfl)
          (fun pre2 W' => LI (H.dj e) s H.g k gq2 w W6 W' allx (XI ⟨xm,xc,xs⟩ (pre.map Subtype.val) yt (pre2.map Subtype.val)) (q1.length + 12 * pre.length + pre2.length)) (fun _ _ _ => False)
          (fun pre2 W W' row h hg hr => LI.grown hs6 h hg hr) (fun _ _ _ _ _ h _ _ => h) (LI.start hL6 (XI.start HLB.out.2.2.2.1 yt) (by have := HLB.out.2.2.2.2;simpa using this))
          (fun y a' W => ∃ Bc,(Row W Bc 59 [.int .i64 y.1.k,.int .i64 y.1.p,.int .u64 (y.1.t : Int),.int .i64 y.1.c]) ∧ a'.tmps.size = 117 ∧ a'.tmps.getD 4 undef = .pointer (some ⟨s + 1 + 1 + 1 + 1 + 1,0,none⟩) ∧ a'.tmps.getD 7 undef = .pointer (some ⟨bx,0,none⟩) ∧ a'.tmps.getD 8 undef = .pointer (some ⟨Bb,0,none⟩) ∧ a'.tmps.getD 9 undef = .pointer (some ⟨Bc,0,none⟩) ∧ a'.defers = [])
          (fun y a' _ X' Y' row hs hg hr' => by
           obtain ⟨Bc,h1,h2⟩ := hs
           exact ⟨Bc,(grownBy_keeps_cells hg (fun r e => (hr' r e).2) h1 rfl).trans h1,h2⟩)
          ?assign2 ?body2 ?done2 ?stop2
         case assign2 =>
          rintro lo2 pre2 y W7 K hI hK
          gi_wp2
          exact hK _ _ ((KeepsOthers.alloc _ _).from _) ((KeepQ.refl _).alloc _) (hI.alloc _) ⟨W7.heap.size,Row.new W7 _ _,rfl,rfl,rfl,rfl,rfl,rfl⟩
         case body2 =>
          rintro lo2 pre2 ⟨⟨ck,cp,ct,cc⟩,hcy⟩ a' W7 hlo2 _ hI ⟨Bc,hRc,h117,e4,e7,e8,e9,hdf⟩ hlen2
          obtain ⟨T3,ds3⟩ := a'
          dsimp only at h117 e4 e7 e8 e9 hdf hRc
          subst hdf
          obtain ⟨v3,hT,hv⟩ := arr_fun T3 117 h117
          have e' : ((List.range 117).map v3).toArray = #[v3 0,v3 1,v3 2,v3 3,v3 4,v3 5,v3 6,v3 7,v3 8,v3 9,v3 10,v3 11,v3 12,v3 13,v3 14,v3 15,v3 16,v3 17,v3 18,v3 19,v3 20,v3 21,v3 22,v3 23,v3 24,v3 25,v3 26,v3 27,v3 28,v3 29,v3 30,v3 31,v3 32,v3 33,v3 34,v3 35,v3 36,v3 37,v3 38,v3 39,v3 40,v3 41,v3 42,v3 43,v3 44,v3 45,v3 46,v3 47,v3 48,v3 49,v3 50,v3 51,v3 52,v3 53,v3 54,v3 55,v3 56,v3 57,v3 58,v3 59,v3 60,v3 61,v3 62,v3 63,v3 64,v3 65,v3 66,v3 67,v3 68,v3 69,v3 70,v3 71,v3 72,v3 73,v3 74,v3 75,v3 76,v3 77,v3 78,v3 79,v3 80,v3 81,v3 82,v3 83,v3 84,v3 85,v3 86,v3 87,v3 88,v3 89,v3 90,v3 91,v3 92,v3 93,v3 94,v3 95,v3 96,v3 97,v3 98,v3 99,v3 100,v3 101,v3 102,v3 103,v3 104,v3 105,v3 106,v3 107,v3 108,v3 109,v3 110,v3 111,v3 112,v3 113,v3 114,v3 115,v3 116] := rfl
          rw [show v3 4 = _ from (hv 4).symm.trans e4,show v3 7 = _ from (hv 7).symm.trans e7,show v3 8 = _ from (hv 8).symm.trans e8,show v3 9 = _ from (hv 9).symm.trans e9] at e'
          rw [hT,e']
          obtain ⟨gq3,cap3,q3,hL,hC,hG,hD,hB⟩ := hI
          have htt := HOK.out.tt yt (by rw [HNN.out.2.1];exact hyt) _ hcy
          rw [HNN.out.2.1] at htt
          obtain ⟨t1,t2,t3,t4⟩ := htt
          have t2 : 0 ≤ cc := t2
          have t3 : cc ≤ 1048576 := t3
          have hRX7 := hC.row hRX6 (by omega)
          have hRB7 := hC.row hRB6 (by have := hnB.1;have := hnB.2;omega)
          have x0 := hRX7.cell (i := 0) rfl
          have x1 := hRX7.cell (i := 1) rfl
          have x2 := hRX7.cell (i := 2) rfl
          have b2 := hRB7.cell (i := 2) rfl
          have g2 := hRc.cell (i := 2) rfl
          have g3 := hRc.cell (i := 3) rfl
          have c4 := hL.r4.cell (i := 0) rfl
          have HL7 := Lib.hid (And.intro hL (And.intro hC (And.intro hG (And.intro hD hB))))
          have HCY := Lib.hid hcy
          have HBD2 : Hid (q3.length ≤ q1.length + 12 * pre.length + pre2.length) := hB
          have HMP2 : Hid ((pre2 ++ [(⟨⟨ck,cp,ct,cc⟩,hcy⟩ : {y : Way // y ∈ e.wall yt})]).map Subtype.val = pre2.map Subtype.val ++ [⟨ck,cp,ct,cc⟩]) := by show _ = _;simp
          have HLN2 : Hid ((pre2 ++ [(⟨⟨ck,cp,ct,cc⟩,hcy⟩ : {y : Way // y ∈ e.wall yt})]).length = pre2.length + 1) := by show _ = _;simp
          clear hL hC hG hD hB hRc hT hv e' e4 e7 e8 e9 h117 hRX7 hRB7
          by_cases hcx : ct = xm
          ·have hent := HL7.out.2.2.2.1.entry HOK.out (i := yt) (t := xm) (by rw [HNN.out.2.1];exact hyt) (by rw [HNN.out.2.1];exact hxm) HU.out (by show 0 ≤ (allx.getD xm dE).c;rw [HGX.out];exact hxc0) ⟨ck,cp,ct,cc⟩ HCY.out hcx (by rw [HGX.out,HNN.out.2.1];exact HMX.out)
           rw [HGX.out] at hent
           have HEN2 := Lib.hid hent
           have hcq : ((ct : Int) == (xm : Int)) = true := by rw [hcx];simp
           have HCX := Lib.hid hcx
           have hp := hpush_any (s + 1 + 1 + 1 + 1) gq3 cap3 q3 ⟨yt,xc + cc,xs + 1⟩ W7 HL7.out.1.qm (by have := HBD2.out;have := HQ.out.1;have := HQ1.out;have := HN2.out.1;have := HN2.out.2;omega) HL7.out.1.hp
           have HP : Hid (Calls Tryz.prog 37 #[.iface 88 (.pointer (some ⟨s + 1 + 1 + 1 + 1,0,none⟩)),.iface 54 (.agg #[.int .u64 (yt : Int),.int .i64 (xc + cc),.int .i64 (xs + 1)])] W7 fun r w' => r = .returned (.tuple #[]) ∧ ∃ g' cap' l',Qm w' (s + 1 + 1 + 1 + 1) g' cap' l' ∧ l'.length = q3.length + 1 ∧ (∀ y,y ∈ l' ↔ y ∈ q3 ∨ y = ⟨yt,xc + cc,xs + 1⟩) ∧ Heap l' l'.length ∧ (g' = gq3 ∨ W7.heap.size ≤ g') ∧ Chg (fun k => k = s + 1 + 1 + 1 + 1 ∨ k = gq3) W7 w') := hp
           clear hp hent hcx
           gi_wp2_with fail
           refine ⟨trivial,(CallsIn.inRound lo2 (callsIn_wide.2 HP.out)).mono ?_⟩
           rintro e8 W8 ⟨rfl,gq4,cap4,q4,p1,p2,p3,p4,p5,p6⟩
           have HP4 := Lib.hid (And.intro p1 (And.intro p2 (And.intro p3 (And.intro p4 (And.intro p5 p6)))))
           clear p1 p2 p3 p4 p5 p6 HP x0 x1 x2 b2 g2 g3 c4
           gi_wp2_with fail
           obtain ⟨p1,p2,p3,p4,p5,p6⟩ := HP4.out
           have sub : LI (H.dj e) s H.g k gq3 w W7 W8 allx (XI ⟨xm,xc,xs⟩ (pre.map Subtype.val) yt (pre2.map Subtype.val ++ [⟨ck,cp,ct,cc⟩])) (q1.length + 12 * pre.length + (pre2 ++ [(⟨⟨ck,cp,ct,cc⟩,hcy⟩ : {y : Way // y ∈ e.wall yt})]).length) :=
            ⟨gq4,cap4,q4,HL7.out.1.queue p6 p1 p4 p5,p6,p5,XI.yes (b := ⟨yk,yp,yt,yc⟩) (c := ⟨ck,cp,ct,cc⟩) (HL7.out.2.2.2.1.push p3 HEN2.out.1 HEN2.out.2.1 HEN2.out.2.2) (by rw [show (Way.mk ck cp ct cc).t = xm from HCX.out,HGX.out];exact (p3 _).2 (.inr rfl)),by have := HBD2.out;have := HLN2.out;omega⟩
           rw [← HMP2.out] at sub
           exact ⟨(LI.keeps HL7.out.1 sub _).1,(LI.keeps HL7.out.1 sub 0).2,LI.next HL7.out.2.2.1 HL7.out.2.1 sub⟩
          ·have hcq : ((ct : Int) == (xm : Int)) = false := by simp;omega
           have HCX := Lib.hid hcx
           clear hcx
           gi_wp2_with fail
           have sub : LI (H.dj e) s H.g k gq3 w W7 W7 allx (XI ⟨xm,xc,xs⟩ (pre.map Subtype.val) yt (pre2.map Subtype.val ++ [⟨ck,cp,ct,cc⟩])) (q1.length + 12 * pre.length + (pre2 ++ [(⟨⟨ck,cp,ct,cc⟩,hcy⟩ : {y : Way // y ∈ e.wall yt})]).length) :=
            LI.start HL7.out.1 (XI.no (b := ⟨yk,yp,yt,yc⟩) (c := ⟨ck,cp,ct,cc⟩) HL7.out.2.2.2.1 HCX.out) (by have := HBD2.out;have := HLN2.out;omega)
           rw [← HMP2.out] at sub
           exact ⟨(LI.keeps HL7.out.1 sub _).1,(LI.keeps HL7.out.1 sub 0).2,LI.next HL7.out.2.2.1 HL7.out.2.1 sub⟩
         case done2 =>
          rintro ys2 W7 hys2 hI
          have HI := Lib.hid hI
          have HYS := Lib.hid hys2
          clear hI hys2
          gi_wp2_with fail
          obtain ⟨gq3,cap3,q3,g1,g2,g3,g4,g5⟩ := HI.out
          rw [HYS.out] at g4
          have hw12 : ys2.length ≤ 12 := by
           have h1 := congrArg List.length HYS.out
           rw [List.length_map] at h1
           have h2 := wk_len e yt 0 e.H.length
           have h3 := wk_len e yt 1 e.H.length
           have h4 : (e.wall yt).length = (e.wk yt 0 e.H.length).length + (e.wk yt 1 e.H.length).length := by unfold Est.wall;rw [List.length_append]
           have h5 := HNN.out.1
           omega
          have sub : LI (H.dj e) s H.g k gq2 w W W7 allx (XO ⟨xm,xc,xs⟩ (pre.map Subtype.val ++ [⟨yk,yp,yt,yc⟩])) (q1.length + 12 * (pre ++ [(⟨⟨yk,yp,yt,yc⟩,hy⟩ : {y : Way // y ∈ e.wall xm})]).length) :=
           LI.base hbW ⟨gq3,cap3,q3,g1,g2,g3,XI.done (b := ⟨yk,yp,yt,yc⟩) g4,by rw [List.length_append];simp only [List.length_cons,List.length_nil];omega⟩
          rw [← HMP.out] at sub
          exact ⟨(LI.keeps HLB.out.1 sub _).1,(LI.keeps HLB.out.1 sub 0).2,LI.next HLB.out.2.2.1 HLB.out.2.1 sub⟩
         case stop2 =>
          rintro c pre2 W7 _ h
          exact h.elim
      case done =>
       rintro Dm ys W hDm hys hI hK
       have HI := Lib.hid hI
       have HK := Lib.hid (And.intro hDm hK)
       have HYS := Lib.hid hys
       clear hI hK hDm hys
       gi_wp2_with fail
       obtain ⟨gq',cap',q',hL,hC,hG,hD,hB⟩ := HI.out
       rw [HYS.out] at hD
       have hw12 : ys.length ≤ 12 := by
        have h1 := congrArg List.length HYS.out
        rw [List.length_map] at h1
        have h2 := wk_len e xm 0 e.H.length
        have h3 := wk_len e xm 1 e.H.length
        have h4 : (e.wall xm).length = (e.wk xm 0 e.H.length).length + (e.wk xm 1 e.H.length).length := by unfold Est.wall;rw [List.length_append]
        have h5 := HNN.out.1
        omega
       rw [HJ.out]
       have hKl := heap_lt HK.out.2
       refine ⟨_,?_,rfl,rfl,rfl,rfl,(hMK.chg hC hL3.isCells (Nat.le_refl _)).cons (by have := HK.out.1;have := hL3.lt;omega) HK.out.1 hKl HK.out.2,gq',cap',allx,q',hL,XO.done HOK.out hD,?_,rfl⟩
       ·have := HQ.out.2;have := HQ1.out;have := HN2.out.1;have := HN2.out.2;omega
       ·have := HQ.out.1;have := HQ1.out;have := HN2.out.1;have := HN2.out.2;omega
      case stop =>
       rintro Dm c pre W _ _ h _
       exact h.elim
end Go.Proofs.YtjcpjhlclpdpjaaGreat
namespace Go.Proofs.YtjcpjhlclpdpjaaGreat
open Go.RowKit
attribute [local go_sem] Oper.semAt_some
def Est.st (e : Est) (l : List Int) : Nat := orPow (l.map e.ix)
def Est.hv (e : Est) (g vb : Nat) : HouseV := ⟨g,e.st e.m.d,e.st e.a.d,some ⟨vb,0,none⟩,e.V.length,e.V.map fun r => e.st r.d⟩
def Est.hcells (e : Est) (vb : Nat) : List Value := [.slice e.hA e.H.length e.hc,.int .u64 ((e.st e.m.d : Nat) : Int),.int .u64 ((e.st e.a.d : Nat) : Int),.slice e.n.A e.n.d.length e.n.c,.slice (some ⟨vb,0,none⟩) e.V.length e.V.length]
theorem Est.hs {e : Est} {w : World} {B g vb : Nat} (h : e.ok w B) (hg : g < B) (hv : vb < B) (hr : Row w g 48 (e.hcells vb)) (hvr : Row w vb 45 (e.V.map fun r => .int .u64 ((e.st r.d : Nat) : Int))) : Hs e (e.hv g vb) B w := by
 refine ⟨h,hg,hr.cell (i := 0) rfl,hr.cell (i := 1) rfl,hr.cell (i := 2) rfl,hr.cell (i := 3) rfl,?_,?_⟩
 ·have := hr.cell (i := 4) rfl
  show w.cell? ⟨g,4,none⟩ = some (Value.slice (some ⟨vb,0,none⟩) (e.V.map fun r => e.st r.d).length e.V.length)
  rw [List.length_map]
  exact this
 ·show Rd w B 1 (some ⟨vb,0,none⟩) (e.V.map fun r => e.st r.d).length ((e.V.map fun r => e.st r.d).map fun m => Value.int .u64 ((m : Nat) : Int))
  refine ⟨by simp,fun _ => ⟨vb,0,rfl,hv,fun i v hiv => ?_⟩⟩
  refine hvr.cell (i := 0 + i) ?_
  rw [Nat.zero_add]
  rw [List.map_map] at hiv
  exact hiv
theorem Est.st_lt {e : Est} {l : List Int} (h : e.isH l l.length) : e.st l < 2 ^ e.H.length := by
 refine orPow_lt fun i hi => ?_
 obtain ⟨p,hp,rfl⟩ := List.mem_map.1 hi
 have := h.good p hp
 unfold Est.ix
 omega
theorem Est.hsn {e : Est} {w : World} {B : Nat} (h : e.ok w B) (hR : e.Right) (hn : e.H.length ≤ 6) (hv : e.V.length ≤ 16) (g vb : Nat) : HsN e (e.hv g vb) := by
 have hcm := h.n.2.2
 unfold maxLen at hcm
 refine ⟨hn,hR.nl,h.n.2.1,hcm,by show (e.V.map fun r => e.st r.d).length ≤ 16;rw [List.length_map];exact hv,Est.st_lt hR.m,Est.st_lt hR.a,fun v hv' => ?_⟩
 obtain ⟨r,hr,rfl⟩ := List.mem_map.1 hv'
 exact Est.st_lt (hR.v r hr)
theorem wall_mem {e : Est} {m : Nat} {w : Way} (h : w ∈ e.wall m) : ∃ κ i,κ < 2 ∧ i < e.H.length ∧ pos m κ i = true ∧ w = e.way m κ i := by
 unfold Est.wall at h
 rw [List.mem_append] at h
 have key : ∀ κ,κ < 2 → w ∈ e.wk m κ e.H.length → ∃ κ i,κ < 2 ∧ i < e.H.length ∧ pos m κ i = true ∧ w = e.way m κ i := fun κ hκ hw => by
  obtain ⟨i,hi,rfl⟩ := List.mem_map.1 hw
  obtain ⟨h1,h2⟩ := List.mem_filter.1 hi
  exact ⟨κ,i,hκ,List.mem_range.1 h1,h2,rfl⟩
 exact h.elim (key 0 (by omega)) (key 1 (by omega))
theorem flip_bit (m i : Nat) : (m ^^^ 2 ^ i).testBit i = !m.testBit i := by rw [Nat.testBit_xor,Nat.testBit_two_pow_self];simp
theorem flip_flip (m i : Nat) : (m ^^^ 2 ^ i) ^^^ 2 ^ i = m := by rw [Nat.xor_assoc,Nat.xor_self,Nat.xor_zero]
theorem Est.djok {e : Est} (hR : e.Right) (hn : e.H.length ≤ 6) (vs : List Nat) (am : Nat) : (DjE.mk e vs am).ok := by
 refine ⟨fun m hm w hw => ?_,fun m hm w hw => ?_,pow_le64 hn⟩
 ·obtain ⟨κ,i,h1,h2,h3,rfl⟩ := wall_mem hw
  have hk := hR.h i h2
  refine ⟨Nat.xor_lt_two_pow hm (Nat.pow_lt_pow_right (by omega) h2),?_,?_,fun h => ?_⟩
  ·show 0 ≤ e.prc κ i;unfold Est.prc;split
   ·exact hk.j0
   ·exact hk.l0
  ·show e.prc κ i ≤ _;unfold Est.prc;split
   ·exact hk.j1
   ·exact hk.l1
  ·have h4 := flip_bit m i
   rw [show m ^^^ 2 ^ i = m from h] at h4
   cases hb : m.testBit i <;> rw [hb] at h4 <;> cases h4
 ·obtain ⟨κ,i,h1,h2,h3,rfl⟩ := wall_mem hw
  refine ⟨e.way (m ^^^ 2 ^ i) (1 - κ) i,way_mem (by omega) h2 ?_,flip_flip m i⟩
  show pos (m ^^^ 2 ^ i) (1 - κ) i = true
  unfold pos at h3 ⊢
  rw [flip_bit]
  rcases (show κ = 0 ∨ κ = 1 by omega) with rfl | rfl <;> cases hb : m.testBit i <;> rw [hb] at h3 <;> simp_all
structure Est.Fit (e : Est) (w : World) : Prop where
 ok : e.ok w w.heap.size
 right : e.Right
 n : e.H.length ≤ 6
 v : e.V.length ≤ 16
theorem Est.Fit.below {e : Est} {w w' : World} (h : e.Fit w) (hb : Below w.heap.size w w') : e.Fit w' := ⟨(h.ok.below hb).more hb.size,h.right,h.n,h.v⟩
def Est.D (e : Est) : DjE := ⟨e,e.V.map fun r => e.st r.d,e.st e.a.d⟩
theorem Est.enters {e : Est} {w : World} (h : e.Fit w) : Calls Tryz.prog 13 #[.agg e.cells.toArray] w fun x w' => ∃ vb,x = .returned (.tuple #[.agg (e.hcells vb).toArray,.int .i64 0]) ∧ Row w' vb 45 (e.V.map fun r => .int .u64 ((e.st r.d : Nat) : Int)) ∧ w.heap.size < vb ∧ Below w.heap.size w w' := enter_any e w h.ok h.right h.n h.v
theorem Est.leasts {e : Est} {w : World} (h : e.Fit w) {g vb : Nat} (hg : g < w.heap.size) (hr : Row w g 48 (e.hcells vb)) (hvr : Row w vb 45 (e.V.map fun r => .int .u64 ((e.st r.d : Nat) : Int))) :
  Calls Tryz.prog 15 #[.pointer (some ⟨g,0,none⟩)] w fun r w' => ∃ ab all,r = .returned (.slice (some ⟨ab,0,none⟩) e.D.M e.D.M) ∧ w.heap.size ≤ ab ∧ QR w' ab e.D.M all ∧ Fin e.D all ∧ Below w.heap.size w w' :=
 least_any e (e.hv g vb) w (Est.hs h.ok hg hvr.lt hr hvr) (Est.hsn h.ok h.right h.n h.v g vb) (Est.djok h.right h.n _ _) h.right.h1
theorem check_any (e : Est) (w : World) (h : e.Fit w) : Calls Tryz.prog 4 #[.agg e.cells.toArray] w fun r w' => r = .returned (.int .i64 0) ∧ Below w.heap.size w w' := by
 have hX := boxed1 e w
 have HI : Hid ((Tryz.prog.info? 26).map (·.size) = some e.cells.length) := by show _ = _;kernel_rfl
 have HF : Hid (e.Fit w) := h
 obtain ⟨CS,hCS⟩ : ∃ CS,e.cells = CS := ⟨_,rfl⟩
 rw [hCS] at HI
 have HEN : Hid (∀ W,Boxed1 e w W → Calls Tryz.prog 13 #[.agg CS.toArray] W fun x w' => ∃ vb,x = .returned (.tuple #[.agg (e.hcells vb).toArray,.int .i64 0]) ∧ Row w' vb 45 (e.V.map fun r => .int .u64 ((e.st r.d : Nat) : Int)) ∧ W.heap.size < vb ∧ Below W.heap.size W w') := fun W hW => by
  rw [← hCS]
  exact Est.enters (h.below hW.bel)
 have HCS : Hid (∀ W,Boxed1 e w W → ∀ i v,CS[i]? = some v → W.cell? ⟨w.heap.size,i,none⟩ = some v) := fun W hW i v hv => hW.row i v (by rw [hCS];exact hv)
 rw [hCS] at hX ⊢
 clear h hCS
 have HX := Lib.hid hX
 clear hX
 go_enter Tryz.func4,Tryz.ntmps4
 go_wp2_with (first | (refine wpList_load_cells rfl 26 (.tmp 1) rfl ⟨w.heap.size,0,none⟩ (by rfl) CS _ (fun i v hv => by rw [Addr.add_flat,Nat.zero_add];exact HCS.out _ HX.out i v hv) Tryz.underlying26 (by rfl) HI.out ?_) | fail)
 refine (HEN.out _ HX.out).mono ?_
 rintro x w1 ⟨vb,rfl,hv,hb,hbl⟩
 have HB := Lib.hid (HX.out.next hbl).bel
 clear hv hb hbl
 go_wp2
 go_ret
 exact ⟨rfl,HB.out⟩
end Go.Proofs.YtjcpjhlclpdpjaaGreat
