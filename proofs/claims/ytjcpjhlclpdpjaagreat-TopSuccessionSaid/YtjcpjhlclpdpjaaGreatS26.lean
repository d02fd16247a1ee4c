import Derived.Maps.OwnSet
import Derived.Maps.RangeWalk
import Derived.Maps.Views
import Derived.Test.YtjcpjhlclpdpjaaGreatS25
import Derived.Test.YtjcpjhlclpdpjaaGreatS16
set_option linter.unusedVariables false
set_option maxRecDepth 100000
set_option maxHeartbeats 16000000
namespace Go.Proofs.YtjcpjhlclpdpjaaGreat
open Go.RowKit
attribute [local go_sem] Oper.semAt_some
def FirstA (E : List (List Int)) (c : List Int → Bool) (r : Ending) (W : World) : Prop :=
 (∃ e A k,E.find? c = some e ∧ r = .returned (.tuple #[.slice A e.length k,.bool true]) ∧ Rd W W.heap.size 1 A e.length (ivs e) ∧ e.length ≤ k ∧ k ≤ maxLen) ∨ (E.find? c = none ∧ r = .returned (.tuple #[.slice none 0 0,.bool false]))
theorem results_cc {P : Program} {fn : Func} {p q : Tmp} {ty tz : TypeId} (h : fn.results = #[.cell p ty,.cell q tz]) (tmps : Array Value) (w : World) (g1 g2 : Nat) (v1 v2 : Value)
  (hp : tmps.getD p undef = .pointer (some ⟨g1,0,none⟩)) (hq : tmps.getD q undef = .pointer (some ⟨g2,0,none⟩)) (hc : w.cell? ⟨g1,0,none⟩ = some v1) (hc2 : w.cell? ⟨g2,0,none⟩ = some v2) (ha : (isAgg ty).run P w = .ok false w) (ha2 : (isAgg tz).run P w = .ok false w) : (results fn tmps).run P w = .ok (.tuple #[v1,v2]) w := by
 have hp' : tmps[p]?.getD undef = .pointer (some ⟨g1,0,none⟩) := by simpa using hp
 have hq' : tmps[q]?.getD undef = .pointer (some ⟨g2,0,none⟩) := by simpa using hq
 simp [results,h,hp',hq',asAddr,loadVar,ha,ha2,hc,hc2]
theorem Rd.grownC {W W' : World} {A : Option Addr} {n : Nat} {xs : List Value} (h : Rd W W.heap.size 1 A n xs) {row : Option Nat} (hg : W.grownBy W' row) (hr : ∀ r,row = some r → ∃ o : Obj,W.heap[r]? = some o ∧ o.isCells = false) : Rd W' W'.heap.size 1 A n xs := by
 refine ⟨h.1,fun h0 => ?_⟩
 obtain ⟨b,o,e,hb,hc⟩ := h.2 h0
 refine ⟨b,o,e,Nat.lt_of_lt_of_le hb hg.size,fun j u hu => ?_⟩
 have h1 := hc j u hu
 obtain ⟨ob,h2,h3⟩ := cell_isc h1
 exact (World.cell?_of_block (grownBy_keeps_cells hg hr h2 h3)).trans h1
theorem Row.uncell {W : World} {g : Nat} {t : TypeId} {cs : List Value} {o : Nat} {v : Value} (h : Row W g t cs) (hc : W.cell? ⟨g,o,none⟩ = some v) : v ∈ cs := by
 unfold Row at h
 simp [World.cell?,h] at hc
 exact List.mem_of_getElem? hc
theorem find_pre {E pre rem : List (List Int)} {c : List Int → Bool} (h : E = pre ++ rem) (hp : ∀ x ∈ pre,c x = false) : E.find? c = rem.find? c := by
 rw [h,List.find?_append]
 have : pre.find? c = none := List.find?_eq_none.2 fun x hx => by rw [hp x hx];simp
 rw [this];rfl
structure FM (s : Nat) (w : World) (fv : Value) (xv mv : Value) (W : World) : Prop where
 bel : Below s w W
 r0 : Row W s 60 [fv]
 r1 : Row W (s + 1) 23 [xv]
 r2 : Row W (s + 1 + 1) 4 [mv]
theorem FM.grown {s : Nat} {w : World} {fv xv mv : Value} {W W' : World} (h : FM s w fv xv mv W) (hs : w.heap.size = s) {row : Option Nat} (hg : W.grownBy W' row) (hr : ∀ r,row = some r → s + 1 + 1 < r) : FM s w fv xv mv W' :=
 ⟨h.bel.grown hg (by have := h.r0.lt;omega) (fun g e => by have := hr g e;omega),h.r0.grown hg (fun e => by have := hr _ e.symm;omega),h.r1.grown hg (fun e => by have := hr _ e.symm;omega),h.r2.grown hg (fun e => by have := hr _ e.symm;omega)⟩
theorem FM.next {s : Nat} {w : World} {fv xv mv : Value} {W W' : World} (h : FM s w fv xv mv W) (hs : w.heap.size = s) (hb : Below W.heap.size W W') : FM s w fv xv mv W' := h.grown hs (grown_of_below hb) (fun r e => by cases e)
theorem first_holds (sv : Value) (P : List Int) (PA : Option Addr) (pc sb : Nat) (cd : List Int → Bool) (w : World) (hn : P.length ≤ 6) (hsb : Row w sb 23 [.slice PA P.length pc]) (hrd : Rd w w.heap.size 1 PA P.length (ivs P))
  (hp : ∀ W e A k c,Below w.heap.size w W → e ∈ subs P → k = e.length → Rd W W.heap.size 1 A k (ivs e) → k ≤ c → c ≤ maxLen → Calls Tryz.prog 55 #[sv,.slice A k c] W fun r w' => r = .returned (.bool (cd e)) ∧ Below W.heap.size W w') :
  Calls Tryz.prog 53 #[.func (.func 87) #[] #[.pointer (some ⟨sb,0,none⟩)],(.func (.func 55) #[sv] #[])] w fun r w' => FirstA (subs P) cd r w' ∧ Below w.heap.size w w' := by
 obtain ⟨s,hs⟩ : ∃ s,w.heap.size = s := ⟨_,rfl⟩
 rw [hs] at hp hrd ⊢
 have hbl := hsb.lt
 rw [hs] at hbl
 have HP := Lib.hid hp
 have HS := Lib.hid hs
 have HRD := Lib.hid (And.intro hrd hsb)
 have HF0 : Hid (FM s w (.func (.func 55) #[sv] #[]) (.slice none 0 0) (.bool false) (((w.alloc (.cells #[(.func (.func 55) #[sv] #[])] 60)).alloc (.cells #[.slice none 0 0] 23)).alloc (.cells #[.bool false] 4))) :=
  ⟨by rw [← hs];exact (((Below.refl _ w).alloc (Nat.le_refl _) _).alloc (by simp) _).alloc (by simp;omega) _,((Row.fresh' _ _ _ hs).alloc _).alloc _,(Row.fresh' _ _ _ (by simp [hs])).alloc _,Row.fresh' _ _ _ (by simp [hs])⟩
 clear hp hs hsb hrd
 refine (callsIn_wide (n := 9)).1 ?_
 refine callsIn_of_wp_marks Tryz.func53 rfl trivial ?_ rfl
 simp only [Tryz.ntmps53,List.size_toArray,List.length_cons,List.length_nil,Nat.reduceAdd,Nat.reduceSub,Array.replicate_succ,Array.replicate_zero,List.push_toArray,List.append_toArray,List.nil_append,List.cons_append]
 gi_wp2_with fail
 rw [HS.out]
 generalize (((w.alloc (.cells #[(.func (.func 55) #[sv] #[])] 60)).alloc (.cells #[.slice none 0 0] 23)).alloc (.cells #[.bool false] 4)) = w1 at HF0 ⊢
 have hz1 : s + 1 + 1 < w1.heap.size := HF0.out.r2.lt
 have hss := HS.out
 refine wpIn_range_hands (F := Fence.wide) (σ := List (List Int)) rfl (by omega) (gf := 87) (lb := #[.pointer (some ⟨sb,0,none⟩)]) (by rfl) trivial (enters_of Tryz.func87 (by kernel_rfl) rfl)
  (fun (rem : List (List Int)) W => FM s w (.func (.func 55) #[sv] #[]) (.slice none 0 0) (.bool false) W ∧ w1.heap.size ≤ W.heap.size ∧ ∃ pre,subs P = pre ++ rem ∧ ∀ x ∈ pre,cd x = false)
  (fun cx (rem : List (List Int)) W => cx = .ret ∧ w1.heap.size ≤ W.heap.size ∧ ∃ e A k,(subs P).find? cd = some e ∧ FM s w (.func (.func 55) #[sv] #[]) (.slice A e.length k) (.bool true) W ∧ Rd W W.heap.size 1 A e.length (ivs e) ∧ e.length ≤ k ∧ k ≤ maxLen)
  (fun (rem : List (List Int)) vs rem' W => ∃ e,rem = e :: rem' ∧ ∃ A' c',vs = #[.slice A' e.length c'] ∧ Rd W W.heap.size 1 A' e.length (ivs e) ∧ e.length ≤ c' ∧ c' ≤ maxLen) (subs P) (fun (rem : List (List Int)) => rem = []) w1 (Below.refl _ _) ?hsq
  ?oi ?oix ⟨HF0.out,Nat.le_refl _,[],rfl,fun x hx => absurd hx (by simp)⟩ (fun _ _ _ _ h => by obtain ⟨e,_,A',c',h,_⟩ := h;rw [h];rfl)
  (fun (rem : List (List Int)) a' W => (∃ e A' c',e ∈ subs P ∧ a'.tmps.getD 6 undef = .slice A' e.length c' ∧ Rd W W.heap.size 1 A' e.length (ivs e) ∧ e.length ≤ c' ∧ c' ≤ maxLen ∧ FM s w (.func (.func 55) #[sv] #[]) (.slice none 0 0) (.bool false) W ∧ w1.heap.size ≤ W.heap.size ∧ ∃ pre,subs P = pre ++ e :: rem ∧ ∀ x ∈ pre,cd x = false) ∧ a'.tmps.size = 14 ∧ a'.tmps.getD 3 undef = .pointer (some ⟨s,0,none⟩) ∧ a'.tmps.getD 4 undef = .pointer (some ⟨s + 1,0,none⟩) ∧ a'.tmps.getD 5 undef = .pointer (some ⟨s + 1 + 1,0,none⟩) ∧ a'.defers = []) ?oa ?assign ?body ?done ?stop
 case hsq =>
  refine subsets1_hands P PA pc sb s hn w1 _ ?_
  rintro rem W ⟨q1,q2,_⟩
  exact ⟨HRD.out.2.below q1.bel hbl,HRD.out.1.below q1.bel,by have := q1.bel.size;omega⟩
 case oi =>
  rintro rem W W' row ⟨q1,q2,q3⟩ hg hr
  exact ⟨q1.grown hss hg (fun r e => by have := (hr r e).1;omega),Nat.le_trans q2 hg.size,q3⟩
 case oix =>
  rintro cx rem W W' row ⟨q0,q2,e,A,k,q3,q4,q5,q6⟩ hg hr
  exact ⟨q0,Nat.le_trans q2 hg.size,e,A,k,q3,q4.grown hss hg (fun r e => by have := (hr r e).1;omega),q5.grownC hg (fun r e => (hr r e).2),q6⟩
 case oa =>
  rintro rem a' _ W W' row ⟨⟨e,A',c',p1,p2,p3,p4,p5,p6,p7,p8⟩,q7⟩ hg hr
  exact ⟨⟨e,A',c',p1,p2,p3.grownC hg (fun r e => (hr r e).2),p4,p5,p6.grown hss hg (fun r e => by have := (hr r e).1;omega),Nat.le_trans p7 hg.size,p8⟩,q7⟩
 case assign =>
  rintro l rem vs rem' W K ⟨q1,q2,pre,q3,q4⟩ ⟨e,rfl,A',c',rfl,h1,h2,h3⟩ hK
  have HK := Lib.hid hK
  rw [show ∀ (a : Value),(#[8] : Array Tmp).zip #[a] = #[(8,a)] from fun a => by simp]
  clear hK
  gi_wp2
  exact HK.out _ _ (KeepsFrom.refl _ _) ⟨⟨e,A',c',by rw [q3];simp,by rfl,h1,h2,h3,q1,q2,pre,q3,q4⟩,by rfl,by rfl,by rfl,by rfl,by rfl⟩
 case body =>
  rintro l rem a' W hl ⟨⟨e,A',c',he,e6,hrd,hc1,hc2,hfm,hsz,pre,hpre,hno⟩,h14,e3,e4,e5,hdf⟩
  obtain ⟨T2,ds2⟩ := a'
  dsimp only at h14 e3 e4 e5 e6 hdf
  subst hdf
  obtain ⟨v3,hT,hv⟩ := arr_fun T2 14 h14
  have e' : ((List.range 14).map v3).toArray = #[v3 0,v3 1,v3 2,v3 3,v3 4,v3 5,v3 6,v3 7,v3 8,v3 9,v3 10,v3 11,v3 12,v3 13] := rfl
  rw [show v3 3 = _ from (hv 3).symm.trans e3,show v3 4 = _ from (hv 4).symm.trans e4,show v3 5 = _ from (hv 5).symm.trans e5,show v3 6 = _ from (hv 6).symm.trans e6] at e'
  rw [hT,e']
  clear hT hv e' e3 e4 e5 e6 h14
  have hC := HP.out W e A' e.length c' hfm.bel he rfl hrd hc1 hc2
  have c0 := hfm.r0.cell (i := 0) rfl
  have HE := Lib.hid (And.intro hrd (And.intro hc1 (And.intro hc2 (And.intro hfm (And.intro hpre hno)))))
  obtain ⟨b,hb⟩ : ∃ b,cd e = b := ⟨_,rfl⟩
  rw [hb] at hC
  have HB := Lib.hid hb
  obtain ⟨L,hL⟩ : ∃ L,e.length = L := ⟨_,rfl⟩
  rw [hL] at hC ⊢
  have HL := Lib.hid hL
  have HC := Lib.hid hC
  clear hC hrd hfm hpre hno hb hL hc1 hc2
  cases b with
  | true =>
   gi_wp2_with fail
   refine ⟨trivial,(CallsIn.inRound l (callsIn_wide.2 HC.out)).mono ?_⟩
   rintro x w3 ⟨rfl,hb3⟩
   have hf3 := HE.out.2.2.2.1.next hss hb3
   have x1 := hf3.r1.cell (i := 0) rfl
   have x2 := hf3.r2.cell (i := 0) rfl
   have g1 := hf3.r1.fz 0
   have g2 := hf3.r2.fz 0
   have H3 := Lib.hid (And.intro hf3 hb3)
   clear hf3 hb3 c0
   gi_wp2_with fail
   have hf4 : FM s w (.func (.func 55) #[sv] #[]) (.slice A' L c') (.bool true) ((w3.setCell ⟨s + 1,0,none⟩ (.slice A' L c')).setCell ⟨s + 1 + 1,0,none⟩ (.bool true)) :=
    ⟨(H3.out.1.bel.setCell (p := ⟨s + 1,0,none⟩) (by show s ≤ s + 1;omega) _).setCell (p := ⟨s + 1 + 1,0,none⟩) (by show s ≤ s + 1 + 1;omega) _,(H3.out.1.r0.away (p := ⟨s + 1,0,none⟩) (by show s ≠ s + 1;omega) _).away (p := ⟨s + 1 + 1,0,none⟩) (by show s ≠ s + 1 + 1;omega) _,(H3.out.1.r1.put 0 (.slice A' L c')).away (p := ⟨s + 1 + 1,0,none⟩) (by show s + 1 ≠ s + 1 + 1;omega) _,(H3.out.1.r2.away (p := ⟨s + 1,0,none⟩) (by show s + 1 + 1 ≠ s + 1;omega) (.slice A' L c')).put 0 (.bool true)⟩
   have ht4 : Tch (fun g => g = s + 1 ∨ g = s + 1 + 1) W ((w3.setCell ⟨s + 1,0,none⟩ (.slice A' L c')).setCell ⟨s + 1 + 1,0,none⟩ (.bool true)) := ((Tch.of_bel H3.out.2).set (p := ⟨s + 1,0,none⟩) (.inr (.inl rfl)) _).set (p := ⟨s + 1 + 1,0,none⟩) (.inr (.inr rfl)) _
   obtain ⟨hrd,hc1,hc2,hfm,hpre,hno⟩ := HE.out
   refine ⟨ht4.keepsFrom (by rintro k (rfl | rfl) o ho;exact hfm.r1.isc ho;exact hfm.r2.isc ho),rfl,Nat.le_trans hsz ht4.size,e,A',c',?_,by rw [HL.out];exact hf4,?_,hc1,hc2⟩
   ·rw [find_pre hpre hno,List.find?_cons,HB.out]
   ·refine ⟨hrd.1,fun h0 => ?_⟩
    obtain ⟨b,o,e1,hb,hc⟩ := hrd.2 h0
    refine ⟨b,o,e1,Nat.lt_of_lt_of_le hb ht4.size,fun j u hu => ?_⟩
    have h1 := hc j u hu
    obtain ⟨x,_,rfl⟩ := List.mem_map.1 (List.mem_of_getElem? hu)
    refine (ht4.cell (p := ⟨b,o + j,none⟩) hb ?_).trans h1
    rintro (rfl | rfl)
    ·have := hfm.r1.uncell h1;simp at this
    ·have := hfm.r2.uncell h1;simp at this
  | false =>
   gi_wp2_with fail
   refine ⟨trivial,(CallsIn.inRound l (callsIn_wide.2 HC.out)).mono ?_⟩
   rintro x w3 ⟨rfl,hb3⟩
   have H3 := Lib.hid hb3
   clear hb3 c0
   gi_wp2_with fail
   obtain ⟨hrd,hc1,hc2,hfm,hpre,hno⟩ := HE.out
   refine ⟨(Tch.of_bel (ex := fun _ => False) H3.out).keepsFrom (fun k h => h.elim),hfm.next hss H3.out,Nat.le_trans hsz H3.out.size,pre ++ [e],by rw [hpre];simp,fun x hx => ?_⟩
   rcases List.mem_append.1 hx with h | h
   ·exact hno x h
   ·rw [List.mem_singleton] at h;rw [h];exact HB.out
 case done =>
  rintro D rem W hD hrem ⟨hfm,hsz,pre,hpre,hno⟩ hd
  subst hrem
  have hfn : (subs P).find? cd = none := by
   rw [hpre,List.append_nil]
   exact List.find?_eq_none.2 fun x hx => by rw [hno x hx];simp
  have hm : Marks (s + 1 + 1 + 1) W.heap.size [{ target := .collected D,args := #[] }] W := (Marks.nil (s + 1 + 1 + 1) (s + 1 + 1 + 1) W).cons (by omega) (by omega) (heap_lt hd) hd
  have c1 := hfm.r1.cell (i := 0) rfl
  have f1 := hfm.r1.fz 0
  have c2 := hfm.r2.cell (i := 0) rfl
  have f2 := hfm.r2.fz 0
  have HFM := Lib.hid (And.intro hfm (And.intro hm hfn))
  clear hfm hm hd hfn hpre hno
  gi_wp2_with fail
  show LeavesInM _ _ _ _ _ _ _ _ _
  obtain ⟨hfm,hm,hfn⟩ := HFM.out
  have hr1 : Row ((W.setCell ⟨s + 1,0,none⟩ (.slice none 0 0)).setCell ⟨s + 1 + 1,0,none⟩ (.bool false)) (s + 1) 23 [.slice none 0 0] := (hfm.r1.put 0 (.slice none 0 0)).away (p := ⟨s + 1 + 1,0,none⟩) (by show s + 1 ≠ s + 1 + 1;omega) _
  have hr2 : Row ((W.setCell ⟨s + 1,0,none⟩ (.slice none 0 0)).setCell ⟨s + 1 + 1,0,none⟩ (.bool false)) (s + 1 + 1) 4 [.bool false] := (hfm.r2.away (p := ⟨s + 1,0,none⟩) (by show s + 1 + 1 ≠ s + 1;omega) (.slice none 0 0)).put 0 (.bool false)
  have ht : Tch (fun g => g = s + 1 ∨ g = s + 1 + 1) W ((W.setCell ⟨s + 1,0,none⟩ (.slice none 0 0)).setCell ⟨s + 1 + 1,0,none⟩ (.bool false)) := ((Tch.refl _ W).set (p := ⟨s + 1,0,none⟩) (.inr (.inl rfl)) _).set (p := ⟨s + 1 + 1,0,none⟩) (.inr (.inr rfl)) _
  refine leaves_marksU (C := W.heap.size) _ _ (hm.tch ht (fun g h1 h2 => by omega) (Nat.le_refl _)) fun w' hb' hc' => ?_
  have hz1 : Row w' (s + 1) 23 [.slice none 0 0] := hc' _ _ hr1 rfl
  have hz2 : Row w' (s + 1 + 1) 4 [.bool false] := hc' _ _ hr2 rfl
  refine ⟨_,results_cc rfl _ _ (s + 1) (s + 1 + 1) _ _ (by rfl) (by rfl) (hz1.cell (i := 0) rfl) (hz2.cell (i := 0) rfl) (isAgg_ints _) (isAgg_bool' _),.inr ⟨hfn,rfl⟩,?_⟩
  exact (hfm.bel.trans (ht.below (by have := hfm.bel.size;omega) (by rintro i hi (e | e) <;> omega))).trans (hb'.mono (by omega))
 case stop =>
  rintro D cx rem W hD ⟨rfl,hsz,e,A,k,hfi,hfm,hrd,hk1,hk2⟩ hd
  have hm : Marks (s + 1 + 1 + 1) W.heap.size [{ target := .collected D,args := #[] }] W := (Marks.nil (s + 1 + 1 + 1) (s + 1 + 1 + 1) W).cons (by omega) (by omega) (heap_lt hd) hd
  have HFM := Lib.hid (And.intro hfm (And.intro hm (And.intro hfi (And.intro hrd (And.intro hk1 hk2)))))
  clear hfm hm hd hfi hrd hk1 hk2
  gi_wp2_with fail
  show LeavesInM _ _ _ _ _ _ _ _ _
  obtain ⟨hfm,hm,hfi,hrd,hk1,hk2⟩ := HFM.out
  refine leaves_marksU (C := W.heap.size) _ _ hm fun w' hb' hc' => ?_
  have hz1 : Row w' (s + 1) 23 [.slice A e.length k] := hc' _ _ hfm.r1 rfl
  have hz2 : Row w' (s + 1 + 1) 4 [.bool true] := hc' _ _ hfm.r2 rfl
  refine ⟨_,results_cc rfl _ _ (s + 1) (s + 1 + 1) _ _ (by rfl) (by rfl) (hz1.cell (i := 0) rfl) (hz2.cell (i := 0) rfl) (isAgg_ints _) (isAgg_bool' _),.inl ⟨e,A,k,hfi,rfl,⟨hrd.1,fun h0 => ?_⟩,hk1,hk2⟩,hfm.bel.trans (hb'.mono (by omega))⟩
  obtain ⟨b,o,e1,hb,hcc⟩ := hrd.2 h0
  refine ⟨b,o,e1,Nat.lt_of_lt_of_le hb hb'.size,fun j u hu => ?_⟩
  have h1 := hcc j u hu
  obtain ⟨ob,h2,h3⟩ := cell_isc h1
  exact (World.cell?_of_block ((hc' _ _ h2 h3).trans h2.symm)).trans h1
theorem first_dead (bs : Nat) (P : List Int) (PA : Option Addr) (pc sb : Nat) (cd : List Int → Bool) (w : World) (hn : P.length ≤ 6) (hsb : Row w sb 23 [.slice PA P.length pc]) (hrd : Rd w w.heap.size 1 PA P.length (ivs P))
  (hp : ∀ W e A k c,Below w.heap.size w W → e ∈ subs P → k = e.length → Rd W W.heap.size 1 A k (ivs e) → k ≤ c → c ≤ maxLen → Calls Tryz.prog 56 #[.slice A k c,.pointer (some ⟨bs,0,none⟩)] W fun r w' => r = .returned (.bool (cd e)) ∧ Below W.heap.size W w') :
  Calls Tryz.prog 53 #[.func (.func 87) #[] #[.pointer (some ⟨sb,0,none⟩)],(.func (.func 56) #[] #[.pointer (some ⟨bs,0,none⟩)])] w fun r w' => FirstA (subs P) cd r w' ∧ Below w.heap.size w w' := by
 obtain ⟨s,hs⟩ : ∃ s,w.heap.size = s := ⟨_,rfl⟩
 rw [hs] at hp hrd ⊢
 have hbl := hsb.lt
 rw [hs] at hbl
 have HP := Lib.hid hp
 have HS := Lib.hid hs
 have HRD := Lib.hid (And.intro hrd hsb)
 have HF0 : Hid (FM s w (.func (.func 56) #[] #[.pointer (some ⟨bs,0,none⟩)]) (.slice none 0 0) (.bool false) (((w.alloc (.cells #[(.func (.func 56) #[] #[.pointer (some ⟨bs,0,none⟩)])] 60)).alloc (.cells #[.slice none 0 0] 23)).alloc (.cells #[.bool false] 4))) :=
  ⟨by rw [← hs];exact (((Below.refl _ w).alloc (Nat.le_refl _) _).alloc (by simp) _).alloc (by simp;omega) _,((Row.fresh' _ _ _ hs).alloc _).alloc _,(Row.fresh' _ _ _ (by simp [hs])).alloc _,Row.fresh' _ _ _ (by simp [hs])⟩
 clear hp hs hsb hrd
 refine (callsIn_wide (n := 9)).1 ?_
 refine callsIn_of_wp_marks Tryz.func53 rfl trivial ?_ rfl
 simp only [Tryz.ntmps53,List.size_toArray,List.length_cons,List.length_nil,Nat.reduceAdd,Nat.reduceSub,Array.replicate_succ,Array.replicate_zero,List.push_toArray,List.append_toArray,List.nil_append,List.cons_append]
 gi_wp2_with fail
 rw [HS.out]
 generalize (((w.alloc (.cells #[(.func (.func 56) #[] #[.pointer (some ⟨bs,0,none⟩)])] 60)).alloc (.cells #[.slice none 0 0] 23)).alloc (.cells #[.bool false] 4)) = w1 at HF0 ⊢
 have hz1 : s + 1 + 1 < w1.heap.size := HF0.out.r2.lt
 have hss := HS.out
 refine wpIn_range_hands (F := Fence.wide) (σ := List (List Int)) rfl (by omega) (gf := 87) (lb := #[.pointer (some ⟨sb,0,none⟩)]) (by rfl) trivial (enters_of Tryz.func87 (by kernel_rfl) rfl)
  (fun (rem : List (List Int)) W => FM s w (.func (.func 56) #[] #[.pointer (some ⟨bs,0,none⟩)]) (.slice none 0 0) (.bool false) W ∧ w1.heap.size ≤ W.heap.size ∧ ∃ pre,subs P = pre ++ rem ∧ ∀ x ∈ pre,cd x = false)
  (fun cx (rem : List (List Int)) W => cx = .ret ∧ w1.heap.size ≤ W.heap.size ∧ ∃ e A k,(subs P).find? cd = some e ∧ FM s w (.func (.func 56) #[] #[.pointer (some ⟨bs,0,none⟩)]) (.slice A e.length k) (.bool true) W ∧ Rd W W.heap.size 1 A e.length (ivs e) ∧ e.length ≤ k ∧ k ≤ maxLen)
  (fun (rem : List (List Int)) vs rem' W => ∃ e,rem = e :: rem' ∧ ∃ A' c',vs = #[.slice A' e.length c'] ∧ Rd W W.heap.size 1 A' e.length (ivs e) ∧ e.length ≤ c' ∧ c' ≤ maxLen) (subs P) (fun (rem : List (List Int)) => rem = []) w1 (Below.refl _ _) ?hsq
  ?oi ?oix ⟨HF0.out,Nat.le_refl _,[],rfl,fun x hx => absurd hx (by simp)⟩ (fun _ _ _ _ h => by obtain ⟨e,_,A',c',h,_⟩ := h;rw [h];rfl)
  (fun (rem : List (List Int)) a' W => (∃ e A' c',e ∈ subs P ∧ a'.tmps.getD 6 undef = .slice A' e.length c' ∧ Rd W W.heap.size 1 A' e.length (ivs e) ∧ e.length ≤ c' ∧ c' ≤ maxLen ∧ FM s w (.func (.func 56) #[] #[.pointer (some ⟨bs,0,none⟩)]) (.slice none 0 0) (.bool false) W ∧ w1.heap.size ≤ W.heap.size ∧ ∃ pre,subs P = pre ++ e :: rem ∧ ∀ x ∈ pre,cd x = false) ∧ a'.tmps.size = 14 ∧ a'.tmps.getD 3 undef = .pointer (some ⟨s,0,none⟩) ∧ a'.tmps.getD 4 undef = .pointer (some ⟨s + 1,0,none⟩) ∧ a'.tmps.getD 5 undef = .pointer (some ⟨s + 1 + 1,0,none⟩) ∧ a'.defers = []) ?oa ?assign ?body ?done ?stop
 case hsq =>
  refine subsets1_hands P PA pc sb s hn w1 _ ?_
  rintro rem W ⟨q1,q2,_⟩
  exact ⟨HRD.out.2.below q1.bel hbl,HRD.out.1.below q1.bel,by have := q1.bel.size;omega⟩
 case oi =>
  rintro rem W W' row ⟨q1,q2,q3⟩ hg hr
  exact ⟨q1.grown hss hg (fun r e => by have := (hr r e).1;omega),Nat.le_trans q2 hg.size,q3⟩
 case oix =>
  rintro cx rem W W' row ⟨q0,q2,e,A,k,q3,q4,q5,q6⟩ hg hr
  exact ⟨q0,Nat.le_trans q2 hg.size,e,A,k,q3,q4.grown hss hg (fun r e => by have := (hr r e).1;omega),q5.grownC hg (fun r e => (hr r e).2),q6⟩
 case oa =>
  rintro rem a' _ W W' row ⟨⟨e,A',c',p1,p2,p3,p4,p5,p6,p7,p8⟩,q7⟩ hg hr
  exact ⟨⟨e,A',c',p1,p2,p3.grownC hg (fun r e => (hr r e).2),p4,p5,p6.grown hss hg (fun r e => by have := (hr r e).1;omega),Nat.le_trans p7 hg.size,p8⟩,q7⟩
 case assign =>
  rintro l rem vs rem' W K ⟨q1,q2,pre,q3,q4⟩ ⟨e,rfl,A',c',rfl,h1,h2,h3⟩ hK
  have HK := Lib.hid hK
  rw [show ∀ (a : Value),(#[8] : Array Tmp).zip #[a] = #[(8,a)] from fun a => by simp]
  clear hK
  gi_wp2
  exact HK.out _ _ (KeepsFrom.refl _ _) ⟨⟨e,A',c',by rw [q3];simp,by rfl,h1,h2,h3,q1,q2,pre,q3,q4⟩,by rfl,by rfl,by rfl,by rfl,by rfl⟩
 case body =>
  rintro l rem a' W hl ⟨⟨e,A',c',he,e6,hrd,hc1,hc2,hfm,hsz,pre,hpre,hno⟩,h14,e3,e4,e5,hdf⟩
  obtain ⟨T2,ds2⟩ := a'
  dsimp only at h14 e3 e4 e5 e6 hdf
  subst hdf
  obtain ⟨v3,hT,hv⟩ := arr_fun T2 14 h14
  have e' : ((List.range 14).map v3).toArray = #[v3 0,v3 1,v3 2,v3 3,v3 4,v3 5,v3 6,v3 7,v3 8,v3 9,v3 10,v3 11,v3 12,v3 13] := rfl
  rw [show v3 3 = _ from (hv 3).symm.trans e3,show v3 4 = _ from (hv 4).symm.trans e4,show v3 5 = _ from (hv 5).symm.trans e5,show v3 6 = _ from (hv 6).symm.trans e6] at e'
  rw [hT,e']
  clear hT hv e' e3 e4 e5 e6 h14
  have hC := HP.out W e A' e.length c' hfm.bel he rfl hrd hc1 hc2
  have c0 := hfm.r0.cell (i := 0) rfl
  have HE := Lib.hid (And.intro hrd (And.intro hc1 (And.intro hc2 (And.intro hfm (And.intro hpre hno)))))
  obtain ⟨b,hb⟩ : ∃ b,cd e = b := ⟨_,rfl⟩
  rw [hb] at hC
  have HB := Lib.hid hb
  obtain ⟨L,hL⟩ : ∃ L,e.length = L := ⟨_,rfl⟩
  rw [hL] at hC ⊢
  have HL := Lib.hid hL
  have HC := Lib.hid hC
  clear hC hrd hfm hpre hno hb hL hc1 hc2
  cases b with
  | true =>
   gi_wp2_with fail
   refine ⟨trivial,(CallsIn.inRound l (callsIn_wide.2 HC.out)).mono ?_⟩
   rintro x w3 ⟨rfl,hb3⟩
   have hf3 := HE.out.2.2.2.1.next hss hb3
   have x1 := hf3.r1.cell (i := 0) rfl
   have x2 := hf3.r2.cell (i := 0) rfl
   have g1 := hf3.r1.fz 0
   have g2 := hf3.r2.fz 0
   have H3 := Lib.hid (And.intro hf3 hb3)
   clear hf3 hb3 c0
   gi_wp2_with fail
   have hf4 : FM s w (.func (.func 56) #[] #[.pointer (some ⟨bs,0,none⟩)]) (.slice A' L c') (.bool true) ((w3.setCell ⟨s + 1,0,none⟩ (.slice A' L c')).setCell ⟨s + 1 + 1,0,none⟩ (.bool true)) :=
    ⟨(H3.out.1.bel.setCell (p := ⟨s + 1,0,none⟩) (by show s ≤ s + 1;omega) _).setCell (p := ⟨s + 1 + 1,0,none⟩) (by show s ≤ s + 1 + 1;omega) _,(H3.out.1.r0.away (p := ⟨s + 1,0,none⟩) (by show s ≠ s + 1;omega) _).away (p := ⟨s + 1 + 1,0,none⟩) (by show s ≠ s + 1 + 1;omega) _,(H3.out.1.r1.put 0 (.slice A' L c')).away (p := ⟨s + 1 + 1,0,none⟩) (by show s + 1 ≠ s + 1 + 1;omega) _,(H3.out.1.r2.away (p := ⟨s + 1,0,none⟩) (by show s + 1 + 1 ≠ s + 1;omega) (.slice A' L c')).put 0 (.bool true)⟩
   have ht4 : Tch (fun g => g = s + 1 ∨ g = s + 1 + 1) W ((w3.setCell ⟨s + 1,0,none⟩ (.slice A' L c')).setCell ⟨s + 1 + 1,0,none⟩ (.bool true)) := ((Tch.of_bel H3.out.2).set (p := ⟨s + 1,0,none⟩) (.inr (.inl rfl)) _).set (p := ⟨s + 1 + 1,0,none⟩) (.inr (.inr rfl)) _
   obtain ⟨hrd,hc1,hc2,hfm,hpre,hno⟩ := HE.out
   refine ⟨ht4.keepsFrom (by rintro k (rfl | rfl) o ho;exact hfm.r1.isc ho;exact hfm.r2.isc ho),rfl,Nat.le_trans hsz ht4.size,e,A',c',?_,by rw [HL.out];exact hf4,?_,hc1,hc2⟩
   ·rw [find_pre hpre hno,List.find?_cons,HB.out]
   ·refine ⟨hrd.1,fun h0 => ?_⟩
    obtain ⟨b,o,e1,hb,hc⟩ := hrd.2 h0
    refine ⟨b,o,e1,Nat.lt_of_lt_of_le hb ht4.size,fun j u hu => ?_⟩
    have h1 := hc j u hu
    obtain ⟨x,_,rfl⟩ := List.mem_map.1 (List.mem_of_getElem? hu)
    refine (ht4.cell (p := ⟨b,o + j,none⟩) hb ?_).trans h1
    rintro (rfl | rfl)
    ·have := hfm.r1.uncell h1;simp at this
    ·have := hfm.r2.uncell h1;simp at this
  | false =>
   gi_wp2_with fail
   refine ⟨trivial,(CallsIn.inRound l (callsIn_wide.2 HC.out)).mono ?_⟩
   rintro x w3 ⟨rfl,hb3⟩
   have H3 := Lib.hid hb3
   clear hb3 c0
   gi_wp2_with fail
   obtain ⟨hrd,hc1,hc2,hfm,hpre,hno⟩ := HE.out
   refine ⟨(Tch.of_bel (ex := fun _ => False) H3.out).keepsFrom (fun k h => h.elim),hfm.next hss H3.out,Nat.le_trans hsz H3.out.size,pre ++ [e],by rw [hpre];simp,fun x hx => ?_⟩
   rcases List.mem_append.1 hx with h | h
   ·exact hno x h
   ·rw [List.mem_singleton] at h;rw [h];exact HB.out
 case done =>
  rintro D rem W hD hrem ⟨hfm,hsz,pre,hpre,hno⟩ hd
  subst hrem
  have hfn : (subs P).find? cd = none := by
   rw [hpre,List.append_nil]
   exact List.find?_eq_none.2 fun x hx => by rw [hno x hx];simp
  have hm : Marks (s + 1 + 1 + 1) W.heap.size [{ target := .collected D,args := #[] }] W := (Marks.nil (s + 1 + 1 + 1) (s + 1 + 1 + 1) W).cons (by omega) (by omega) (heap_lt hd) hd
  have c1 := hfm.r1.cell (i := 0) rfl
  have f1 := hfm.r1.fz 0
  have c2 := hfm.r2.cell (i := 0) rfl
  have f2 := hfm.r2.fz 0
  have HFM := Lib.hid (And.intro hfm (And.intro hm hfn))
  clear hfm hm hd hfn hpre hno
  gi_wp2_with fail
  show LeavesInM _ _ _ _ _ _ _ _ _
  obtain ⟨hfm,hm,hfn⟩ := HFM.out
  have hr1 : Row ((W.setCell ⟨s + 1,0,none⟩ (.slice none 0 0)).setCell ⟨s + 1 + 1,0,none⟩ (.bool false)) (s + 1) 23 [.slice none 0 0] := (hfm.r1.put 0 (.slice none 0 0)).away (p := ⟨s + 1 + 1,0,none⟩) (by show s + 1 ≠ s + 1 + 1;omega) _
  have hr2 : Row ((W.setCell ⟨s + 1,0,none⟩ (.slice none 0 0)).setCell ⟨s + 1 + 1,0,none⟩ (.bool false)) (s + 1 + 1) 4 [.bool false] := (hfm.r2.away (p := ⟨s + 1,0,none⟩) (by show s + 1 + 1 ≠ s + 1;omega) (.slice none 0 0)).put 0 (.bool false)
  have ht : Tch (fun g => g = s + 1 ∨ g = s + 1 + 1) W ((W.setCell ⟨s + 1,0,none⟩ (.slice none 0 0)).setCell ⟨s + 1 + 1,0,none⟩ (.bool false)) := ((Tch.refl _ W).set (p := ⟨s + 1,0,none⟩) (.inr (.inl rfl)) _).set (p := ⟨s + 1 + 1,0,none⟩) (.inr (.inr rfl)) _
  refine leaves_marksU (C := W.heap.size) _ _ (hm.tch ht (fun g h1 h2 => by omega) (Nat.le_refl _)) fun w' hb' hc' => ?_
  have hz1 : Row w' (s + 1) 23 [.slice none 0 0] := hc' _ _ hr1 rfl
  have hz2 : Row w' (s + 1 + 1) 4 [.bool false] := hc' _ _ hr2 rfl
  refine ⟨_,results_cc rfl _ _ (s + 1) (s + 1 + 1) _ _ (by rfl) (by rfl) (hz1.cell (i := 0) rfl) (hz2.cell (i := 0) rfl) (isAgg_ints _) (isAgg_bool' _),.inr ⟨hfn,rfl⟩,?_⟩
  exact (hfm.bel.trans (ht.below (by have := hfm.bel.size;omega) (by rintro i hi (e | e) <;> omega))).trans (hb'.mono (by omega))
 case stop =>
  rintro D cx rem W hD ⟨rfl,hsz,e,A,k,hfi,hfm,hrd,hk1,hk2⟩ hd
  have hm : Marks (s + 1 + 1 + 1) W.heap.size [{ target := .collected D,args := #[] }] W := (Marks.nil (s + 1 + 1 + 1) (s + 1 + 1 + 1) W).cons (by omega) (by omega) (heap_lt hd) hd
  have HFM := Lib.hid (And.intro hfm (And.intro hm (And.intro hfi (And.intro hrd (And.intro hk1 hk2)))))
  clear hfm hm hd hfi hrd hk1 hk2
  gi_wp2_with fail
  show LeavesInM _ _ _ _ _ _ _ _ _
  obtain ⟨hfm,hm,hfi,hrd,hk1,hk2⟩ := HFM.out
  refine leaves_marksU (C := W.heap.size) _ _ hm fun w' hb' hc' => ?_
  have hz1 : Row w' (s + 1) 23 [.slice A e.length k] := hc' _ _ hfm.r1 rfl
  have hz2 : Row w' (s + 1 + 1) 4 [.bool true] := hc' _ _ hfm.r2 rfl
  refine ⟨_,results_cc rfl _ _ (s + 1) (s + 1 + 1) _ _ (by rfl) (by rfl) (hz1.cell (i := 0) rfl) (hz2.cell (i := 0) rfl) (isAgg_ints _) (isAgg_bool' _),.inl ⟨e,A,k,hfi,rfl,⟨hrd.1,fun h0 => ?_⟩,hk1,hk2⟩,hfm.bel.trans (hb'.mono (by omega))⟩
  obtain ⟨b,o,e1,hb,hcc⟩ := hrd.2 h0
  refine ⟨b,o,e1,Nat.lt_of_lt_of_le hb hb'.size,fun j u hu => ?_⟩
  have h1 := hcc j u hu
  obtain ⟨ob,h2,h3⟩ := cell_isc h1
  exact (World.cell?_of_block ((hc' _ _ h2 h3).trans h2.symm)).trans h1
theorem first_margin (bs bw : Nat) (P : List Int) (PA : Option Addr) (pc sb : Nat) (cd : List Int → Bool) (w : World) (hn : P.length ≤ 6) (hsb : Row w sb 23 [.slice PA P.length pc]) (hrd : Rd w w.heap.size 1 PA P.length (ivs P))
  (hp : ∀ W e A k c,Below w.heap.size w W → e ∈ subs P → k = e.length → Rd W W.heap.size 1 A k (ivs e) → k ≤ c → c ≤ maxLen → Calls Tryz.prog 57 #[.slice A k c,.pointer (some ⟨bs,0,none⟩),.pointer (some ⟨bw,0,none⟩)] W fun r w' => r = .returned (.bool (cd e)) ∧ Below W.heap.size W w') :
  Calls Tryz.prog 53 #[.func (.func 87) #[] #[.pointer (some ⟨sb,0,none⟩)],(.func (.func 57) #[] #[.pointer (some ⟨bs,0,none⟩),.pointer (some ⟨bw,0,none⟩)])] w fun r w' => FirstA (subs P) cd r w' ∧ Below w.heap.size w w' := by
 obtain ⟨s,hs⟩ : ∃ s,w.heap.size = s := ⟨_,rfl⟩
 rw [hs] at hp hrd ⊢
 have hbl := hsb.lt
 rw [hs] at hbl
 have HP := Lib.hid hp
 have HS := Lib.hid hs
 have HRD := Lib.hid (And.intro hrd hsb)
 have HF0 : Hid (FM s w (.func (.func 57) #[] #[.pointer (some ⟨bs,0,none⟩),.pointer (some ⟨bw,0,none⟩)]) (.slice none 0 0) (.bool false) (((w.alloc (.cells #[(.func (.func 57) #[] #[.pointer (some ⟨bs,0,none⟩),.pointer (some ⟨bw,0,none⟩)])] 60)).alloc (.cells #[.slice none 0 0] 23)).alloc (.cells #[.bool false] 4))) :=
  ⟨by rw [← hs];exact (((Below.refl _ w).alloc (Nat.le_refl _) _).alloc (by simp) _).alloc (by simp;omega) _,((Row.fresh' _ _ _ hs).alloc _).alloc _,(Row.fresh' _ _ _ (by simp [hs])).alloc _,Row.fresh' _ _ _ (by simp [hs])⟩
 clear hp hs hsb hrd
 refine (callsIn_wide (n := 9)).1 ?_
 refine callsIn_of_wp_marks Tryz.func53 rfl trivial ?_ rfl
 simp only [Tryz.ntmps53,List.size_toArray,List.length_cons,List.length_nil,Nat.reduceAdd,Nat.reduceSub,Array.replicate_succ,Array.replicate_zero,List.push_toArray,List.append_toArray,List.nil_append,List.cons_append]
 gi_wp2_with fail
 rw [HS.out]
 generalize (((w.alloc (.cells #[(.func (.func 57) #[] #[.pointer (some ⟨bs,0,none⟩),.pointer (some ⟨bw,0,none⟩)])] 60)).alloc (.cells #[.slice none 0 0] 23)).alloc (.cells #[.bool false] 4)) = w1 at HF0 ⊢
 have hz1 : s + 1 + 1 < w1.heap.size := HF0.out.r2.lt
 have hss := HS.out
 refine wpIn_range_hands (F := Fence.wide) (σ := List (List Int)) rfl (by omega) (gf := 87) (lb := #[.pointer (some ⟨sb,0,none⟩)]) (by rfl) trivial (enters_of Tryz.func87 (by kernel_rfl) rfl)
  (fun (rem : List (List Int)) W => FM s w (.func (.func 57) #[] #[.pointer (some ⟨bs,0,none⟩),.pointer (some ⟨bw,0,none⟩)]) (.slice none 0 0) (.bool false) W ∧ w1.heap.size ≤ W.heap.size ∧ ∃ pre,subs P = pre ++ rem ∧ ∀ x ∈ pre,cd x = false)
  (fun cx (rem : List (List Int)) W => cx = .ret ∧ w1.heap.size ≤ W.heap.size ∧ ∃ e A k,(subs P).find? cd = some e ∧ FM s w (.func (.func 57) #[] #[.pointer (some ⟨bs,0,none⟩),.pointer (some ⟨bw,0,none⟩)]) (.slice A e.length k) (.bool true) W ∧ Rd W W.heap.size 1 A e.length (ivs e) ∧ e.length ≤ k ∧ k ≤ maxLen)
  (fun (rem : List (List Int)) vs rem' W => ∃ e,rem = e :: rem' ∧ ∃ A' c',vs = #[.slice A' e.length c'] ∧ Rd W W.heap.size 1 A' e.length (ivs e) ∧ e.length ≤ c' ∧ c' ≤ maxLen) (subs P) (fun (rem : List (List Int)) => rem = []) w1 (Below.refl _ _) ?hsq
  ?oi ?oix ⟨HF0.out,Nat.le_refl _,[],rfl,fun x hx => absurd hx (by simp)⟩ (fun _ _ _ _ h => by obtain ⟨e,_,A',c',h,_⟩ := h;rw [h];rfl)
  (fun (rem : List (List Int)) a' W => (∃ e A' c',e ∈ subs P ∧ a'.tmps.getD 6 undef = .slice A' e.length c' ∧ Rd W W.heap.size 1 A' e.length (ivs e) ∧ e.length ≤ c' ∧ c' ≤ maxLen ∧ FM s w (.func (.func 57) #[] #[.pointer (some ⟨bs,0,none⟩),.pointer (some ⟨bw,0,none⟩)]) (.slice none 0 0) (.bool false) W ∧ w1.heap.size ≤ W.heap.size ∧ ∃ pre,subs P = pre ++ e :: rem ∧ ∀ x ∈ pre,cd x = false) ∧ a'.tmps.size = 14 ∧ a'.tmps.getD 3 undef = .pointer (some ⟨s,0,none⟩) ∧ a'.tmps.getD 4 undef = .pointer (some ⟨s + 1,0,none⟩) ∧ a'.tmps.getD 5 undef = .pointer (some ⟨s + 1 + 1,0,none⟩) ∧ a'.defers = []) ?oa ?assign ?body ?done ?stop
 case hsq =>
  refine subsets1_hands P PA pc sb s hn w1 _ ?_
  rintro rem W ⟨q1,q2,_⟩
  exact ⟨HRD.out.2.below q1.bel hbl,HRD.out.1.below q1.bel,by have := q1.bel.size;omega⟩
 case oi =>
  rintro rem W W' row ⟨q1,q2,q3⟩ hg hr
  exact ⟨q1.grown hss hg (fun r e => by have := (hr r e).1;omega),Nat.le_trans q2 hg.size,q3⟩
 case oix =>
  rintro cx rem W W' row ⟨q0,q2,e,A,k,q3,q4,q5,q6⟩ hg hr
  exact ⟨q0,Nat.le_trans q2 hg.size,e,A,k,q3,q4.grown hss hg (fun r e => by have := (hr r e).1;omega),q5.grownC hg (fun r e => (hr r e).2),q6⟩
 case oa =>
  rintro rem a' _ W W' row ⟨⟨e,A',c',p1,p2,p3,p4,p5,p6,p7,p8⟩,q7⟩ hg hr
  exact ⟨⟨e,A',c',p1,p2,p3.grownC hg (fun r e => (hr r e).2),p4,p5,p6.grown hss hg (fun r e => by have := (hr r e).1;omega),Nat.le_trans p7 hg.size,p8⟩,q7⟩
 case assign =>
  rintro l rem vs rem' W K ⟨q1,q2,pre,q3,q4⟩ ⟨e,rfl,A',c',rfl,h1,h2,h3⟩ hK
  have HK := Lib.hid hK
  rw [show ∀ (a : Value),(#[8] : Array Tmp).zip #[a] = #[(8,a)] from fun a => by simp]
  clear hK
  gi_wp2
  exact HK.out _ _ (KeepsFrom.refl _ _) ⟨⟨e,A',c',by rw [q3];simp,by rfl,h1,h2,h3,q1,q2,pre,q3,q4⟩,by rfl,by rfl,by rfl,by rfl,by rfl⟩
 case body =>
  rintro l rem a' W hl ⟨⟨e,A',c',he,e6,hrd,hc1,hc2,hfm,hsz,pre,hpre,hno⟩,h14,e3,e4,e5,hdf⟩
  obtain ⟨T2,ds2⟩ := a'
  dsimp only at h14 e3 e4 e5 e6 hdf
  subst hdf
  obtain ⟨v3,hT,hv⟩ := arr_fun T2 14 h14
  have e' : ((List.range 14).map v3).toArray = #[v3 0,v3 1,v3 2,v3 3,v3 4,v3 5,v3 6,v3 7,v3 8,v3 9,v3 10,v3 11,v3 12,v3 13] := rfl
  rw [show v3 3 = _ from (hv 3).symm.trans e3,show v3 4 = _ from (hv 4).symm.trans e4,show v3 5 = _ from (hv 5).symm.trans e5,show v3 6 = _ from (hv 6).symm.trans e6] at e'
  rw [hT,e']
  clear hT hv e' e3 e4 e5 e6 h14
  have hC := HP.out W e A' e.length c' hfm.bel he rfl hrd hc1 hc2
  have c0 := hfm.r0.cell (i := 0) rfl
  have HE := Lib.hid (And.intro hrd (And.intro hc1 (And.intro hc2 (And.intro hfm (And.intro hpre hno)))))
  obtain ⟨b,hb⟩ : ∃ b,cd e = b := ⟨_,rfl⟩
  rw [hb] at hC
  have HB := Lib.hid hb
  obtain ⟨L,hL⟩ : ∃ L,e.length = L := ⟨_,rfl⟩
  rw [hL] at hC ⊢
  have HL := Lib.hid hL
  have HC := Lib.hid hC
  clear hC hrd hfm hpre hno hb hL hc1 hc2
  cases b with
  | true =>
   gi_wp2_with fail
   refine ⟨trivial,(CallsIn.inRound l (callsIn_wide.2 HC.out)).mono ?_⟩
   rintro x w3 ⟨rfl,hb3⟩
   have hf3 := HE.out.2.2.2.1.next hss hb3
   have x1 := hf3.r1.cell (i := 0) rfl
   have x2 := hf3.r2.cell (i := 0) rfl
   have g1 := hf3.r1.fz 0
   have g2 := hf3.r2.fz 0
   have H3 := Lib.hid (And.intro hf3 hb3)
   clear hf3 hb3 c0
   gi_wp2_with fail
   have hf4 : FM s w (.func (.func 57) #[] #[.pointer (some ⟨bs,0,none⟩),.pointer (some ⟨bw,0,none⟩)]) (.slice A' L c') (.bool true) ((w3.setCell ⟨s + 1,0,none⟩ (.slice A' L c')).setCell ⟨s + 1 + 1,0,none⟩ (.bool true)) :=
    ⟨(H3.out.1.bel.setCell (p := ⟨s + 1,0,none⟩) (by show s ≤ s + 1;omega) _).setCell (p := ⟨s + 1 + 1,0,none⟩) (by show s ≤ s + 1 + 1;omega) _,(H3.out.1.r0.away (p := ⟨s + 1,0,none⟩) (by show s ≠ s + 1;omega) _).away (p := ⟨s + 1 + 1,0,none⟩) (by show s ≠ s + 1 + 1;omega) _,(H3.out.1.r1.put 0 (.slice A' L c')).away (p := ⟨s + 1 + 1,0,none⟩) (by show s + 1 ≠ s + 1 + 1;omega) _,(H3.out.1.r2.away (p := ⟨s + 1,0,none⟩) (by show s + 1 + 1 ≠ s + 1;omega) (.slice A' L c')).put 0 (.bool true)⟩
   have ht4 : Tch (fun g => g = s + 1 ∨ g = s + 1 + 1) W ((w3.setCell ⟨s + 1,0,none⟩ (.slice A' L c')).setCell ⟨s + 1 + 1,0,none⟩ (.bool true)) := ((Tch.of_bel H3.out.2).set (p := ⟨s + 1,0,none⟩) (.inr (.inl rfl)) _).set (p := ⟨s + 1 + 1,0,none⟩) (.inr (.inr rfl)) _
   obtain ⟨hrd,hc1,hc2,hfm,hpre,hno⟩ := HE.out
   refine ⟨ht4.keepsFrom (by rintro k (rfl | rfl) o ho;exact hfm.r1.isc ho;exact hfm.r2.isc ho),rfl,Nat.le_trans hsz ht4.size,e,A',c',?_,by rw [HL.out];exact hf4,?_,hc1,hc2⟩
   ·rw [find_pre hpre hno,List.find?_cons,HB.out]
   ·refine ⟨hrd.1,fun h0 => ?_⟩
    obtain ⟨b,o,e1,hb,hc⟩ := hrd.2 h0
    refine ⟨b,o,e1,Nat.lt_of_lt_of_le hb ht4.size,fun j u hu => ?_⟩
    have h1 := hc j u hu
    obtain ⟨x,_,rfl⟩ := List.mem_map.1 (List.mem_of_getElem? hu)
    refine (ht4.cell (p := ⟨b,o + j,none⟩) hb ?_).trans h1
    rintro (rfl | rfl)
    ·have := hfm.r1.uncell h1;simp at this
    ·have := hfm.r2.uncell h1;simp at this
  | false =>
   gi_wp2_with fail
   refine ⟨trivial,(CallsIn.inRound l (callsIn_wide.2 HC.out)).mono ?_⟩
   rintro x w3 ⟨rfl,hb3⟩
   have H3 := Lib.hid hb3
   clear hb3 c0
   gi_wp2_with fail
   obtain ⟨hrd,hc1,hc2,hfm,hpre,hno⟩ := HE.out
   refine ⟨(Tch.of_bel (ex := fun _ => False) H3.out).keepsFrom (fun k h => h.elim),hfm.next hss H3.out,Nat.le_trans hsz H3.out.size,pre ++ [e],by rw [hpre];simp,fun x hx => ?_⟩
   rcases List.mem_append.1 hx with h | h
   ·exact hno x h
   ·rw [List.mem_singleton] at h;rw [h];exact HB.out
 case done =>
  rintro D rem W hD hrem ⟨hfm,hsz,pre,hpre,hno⟩ hd
  subst hrem
  have hfn : (subs P).find? cd = none := by
   rw [hpre,List.append_nil]
   exact List.find?_eq_none.2 fun x hx => by rw [hno x hx];simp
  have hm : Marks (s + 1 + 1 + 1) W.heap.size [{ target := .collected D,args := #[] }] W := (Marks.nil (s + 1 + 1 + 1) (s + 1 + 1 + 1) W).cons (by omega) (by omega) (heap_lt hd) hd
  have c1 := hfm.r1.cell (i := 0) rfl
  have f1 := hfm.r1.fz 0
  have c2 := hfm.r2.cell (i := 0) rfl
  have f2 := hfm.r2.fz 0
  have HFM := Lib.hid (And.intro hfm (And.intro hm hfn))
  clear hfm hm hd hfn hpre hno
  gi_wp2_with fail
  show LeavesInM _ _ _ _ _ _ _ _ _
  obtain ⟨hfm,hm,hfn⟩ := HFM.out
  have hr1 : Row ((W.setCell ⟨s + 1,0,none⟩ (.slice none 0 0)).setCell ⟨s + 1 + 1,0,none⟩ (.bool false)) (s + 1) 23 [.slice none 0 0] := (hfm.r1.put 0 (.slice none 0 0)).away (p := ⟨s + 1 + 1,0,none⟩) (by show s + 1 ≠ s + 1 + 1;omega) _
  have hr2 : Row ((W.setCell ⟨s + 1,0,none⟩ (.slice none 0 0)).setCell ⟨s + 1 + 1,0,none⟩ (.bool false)) (s + 1 + 1) 4 [.bool false] := (hfm.r2.away (p := ⟨s + 1,0,none⟩) (by show s + 1 + 1 ≠ s + 1;omega) (.slice none 0 0)).put 0 (.bool false)
  have ht : Tch (fun g => g = s + 1 ∨ g = s + 1 + 1) W ((W.setCell ⟨s + 1,0,none⟩ (.slice none 0 0)).setCell ⟨s + 1 + 1,0,none⟩ (.bool false)) := ((Tch.refl _ W).set (p := ⟨s + 1,0,none⟩) (.inr (.inl rfl)) _).set (p := ⟨s + 1 + 1,0,none⟩) (.inr (.inr rfl)) _
  refine leaves_marksU (C := W.heap.size) _ _ (hm.tch ht (fun g h1 h2 => by omega) (Nat.le_refl _)) fun w' hb' hc' => ?_
  have hz1 : Row w' (s + 1) 23 [.slice none 0 0] := hc' _ _ hr1 rfl
  have hz2 : Row w' (s + 1 + 1) 4 [.bool false] := hc' _ _ hr2 rfl
  refine ⟨_,results_cc rfl _ _ (s + 1) (s + 1 + 1) _ _ (by rfl) (by rfl) (hz1.cell (i := 0) rfl) (hz2.cell (i := 0) rfl) (isAgg_ints _) (isAgg_bool' _),.inr ⟨hfn,rfl⟩,?_⟩
  exact (hfm.bel.trans (ht.below (by have := hfm.bel.size;omega) (by rintro i hi (e | e) <;> omega))).trans (hb'.mono (by omega))
 case stop =>
  rintro D cx rem W hD ⟨rfl,hsz,e,A,k,hfi,hfm,hrd,hk1,hk2⟩ hd
  have hm : Marks (s + 1 + 1 + 1) W.heap.size [{ target := .collected D,args := #[] }] W := (Marks.nil (s + 1 + 1 + 1) (s + 1 + 1 + 1) W).cons (by omega) (by omega) (heap_lt hd) hd
  have HFM := Lib.hid (And.intro hfm (And.intro hm (And.intro hfi (And.intro hrd (And.intro hk1 hk2)))))
  clear hfm hm hd hfi hrd hk1 hk2
  gi_wp2_with fail
  show LeavesInM _ _ _ _ _ _ _ _ _
  obtain ⟨hfm,hm,hfi,hrd,hk1,hk2⟩ := HFM.out
  refine leaves_marksU (C := W.heap.size) _ _ hm fun w' hb' hc' => ?_
  have hz1 : Row w' (s + 1) 23 [.slice A e.length k] := hc' _ _ hfm.r1 rfl
  have hz2 : Row w' (s + 1 + 1) 4 [.bool true] := hc' _ _ hfm.r2 rfl
  refine ⟨_,results_cc rfl _ _ (s + 1) (s + 1 + 1) _ _ (by rfl) (by rfl) (hz1.cell (i := 0) rfl) (hz2.cell (i := 0) rfl) (isAgg_ints _) (isAgg_bool' _),.inl ⟨e,A,k,hfi,rfl,⟨hrd.1,fun h0 => ?_⟩,hk1,hk2⟩,hfm.bel.trans (hb'.mono (by omega))⟩
  obtain ⟨b,o,e1,hb,hcc⟩ := hrd.2 h0
  refine ⟨b,o,e1,Nat.lt_of_lt_of_le hb hb'.size,fun j u hu => ?_⟩
  have h1 := hcc j u hu
  obtain ⟨ob,h2,h3⟩ := cell_isc h1
  exact (World.cell?_of_block ((hc' _ _ h2 h3).trans h2.symm)).trans h1
end Go.Proofs.YtjcpjhlclpdpjaaGreat
namespace Go.Proofs.YtjcpjhlclpdpjaaGreat
open Go.RowKit
attribute [local go_sem] Oper.semAt_some
theorem wout_sub (l O : List Int) : (wout l O).Sublist l := List.filter_sublist
theorem dead1_any (g : Gt)  (bs : Nat) (r : RI) (A : Option Addr) (k c : Nat) (e : List Int) (w : World) (h : g.ok w w.heap.size) (hb : Row w bs 107 [.int .i64 (-1),.int .i64 g.N,.slice g.A g.P.length g.c,r.cell]) (hr : r.ok w w.heap.size) (hrp : Ppl r.d) (hr0 : 0 < r.d.length) (hk : k = e.length) (he : Rd w w.heap.size 1 A k (ivs e)) (hel : e.length ≤ 64) :
  Calls Tryz.prog 56 #[.slice A k c,.pointer (some ⟨bs,0,none⟩)] w fun x w' => x = .returned (.bool (!decide (g.N ≤ ((cntW (wout r.d e) g.P : Nat) : Int)))) ∧ Below w.heap.size w w' := by
 have HWO := Lib.hid (fun W (hW : Below w.heap.size w W) => without_any r A k c e W ((hr.below hW).more hW.size) hr0 (by have := hrp.len;omega) ((he.below hW).more hW.size) (by omega))
 have hPq : Ppl (wout r.d e) := hrp.sub (wout_sub _ _)
 obtain ⟨rA,rc,rd⟩ := r
 obtain ⟨rn,hrn⟩ : ∃ x,rd.length = x := ⟨_,rfl⟩
 have HSH := Lib.hid (fun W (q : RI) (hW : Below w.heap.size w W) (hq : q.ok W W.heap.size) (hd : q.d = wout rd e) => sholds_any g rA rn rc q.A q.d.length q.c (wout rd e) W ((h.below hW).more hW.size) (by have := hq.1;rw [hd] at this ⊢;exact this) hPq (by rw [hd]))
 obtain ⟨R,hR⟩ : ∃ R,decide (g.N ≤ ((cntW (wout rd e) g.P : Nat) : Int)) = R := ⟨_,rfl⟩
 rw [hR] at HSH
 show Calls _ _ _ _ fun x w' => x = .returned (.bool (!decide (g.N ≤ ((cntW (wout rd e) g.P : Nat) : Int)))) ∧ _
 rw [hR]
 change Hid (∀ W,Below w.heap.size w W → Calls Tryz.prog 52 #[.slice rA rd.length rc,.slice A k c] W fun x w' => ∃ q : RI,x = .returned q.cell ∧ q.d = wout rd e ∧ q.ok w' w'.heap.size ∧ Below W.heap.size W w') at HWO
 rw [hrn] at HWO
 obtain ⟨gN,gA,gc,P⟩ := g
 change Hid (∀ W (q : RI),Below w.heap.size w W → q.ok W W.heap.size → q.d = wout rd e → Calls Tryz.prog 55 #[.agg #[.int .i64 (-1),.int .i64 gN,.slice gA P.length gc,.slice rA rn rc],.slice q.A q.d.length q.c] W fun r w' => r = .returned (.bool R) ∧ Below W.heap.size W w') at HSH
 have HRB : Hid (∀ w',Below w.heap.size w w' → Row w' bs 107 [.int .i64 (-1),.int .i64 gN,.slice gA P.length gc,.slice rA rn rc] ∧ True) := fun w' hS => ⟨by have := hb.below hS hb.lt;rw [RI.cell_eq] at this;change Row w' bs _ [_,_,_,.slice rA rd.length rc] at this;rwa [hrn] at this,trivial⟩
 clear h hr hrp hr0 hk he hel hPq hR hb
 go_enter Tryz.func56,Tryz.ntmps56
 go_wp2_with fail
 rename_i Kz hKz
 refine wp_region_tree (fun w' => Below w.heap.size w w') (.take 0 (.take 1 (.take 2 (.take 3 (.one 4 (.one 5 (.take 6 (.take 7 .done)))))))) (by kernel_rfl) (by kernel_rfl) (by kernel_rfl) (by kernel_rfl) (fun x _ _ _ _ h => by cases x <;> exact h) ((Below.refl _ _).drew) ?_
 iterate 4 (refine wpOT_take rfl _ (by rfl) (by intro w' hS;have q0 := (HRB.out w' hS).1.cell (i := 0) rfl;have q1 := (HRB.out w' hS).1.cell (i := 1) rfl;have q2 := (HRB.out w' hS).1.cell (i := 2) rfl;have q3 := (HRB.out w' hS).1.cell (i := 3) rfl;go_simp;try with_reducible rfl) fun KK hKK => ?_;go_simp;refine hKK _ ?_;clear hKK KK)
 refine wpOT_one rfl (by rfl) fun KK hKK => ?_
 go_simp
 refine (HWO.out _ ((Below.refl _ _).drew)).mono ?_
 rintro x8 w8 ⟨q,rfl,hqd,hqo,hb8⟩
 have hB8 : Below w.heap.size w w8 := ((Below.refl _ w).drew).trans hb8
 have HS2 := Lib.hid (HSH.out w8 q hB8 hqo hqd)
 have HB8 := Lib.hid hB8
 rw [RI.cell_eq]
 refine hKK _ _ hB8 ?_
 clear hKK KK hqd hqo hb8 hB8
 refine wpOT_one rfl (by rfl) fun KK hKK => ?_
 go_simp
 refine HS2.out.mono ?_
 rintro x9 w9 ⟨rfl,hb9⟩
 have HB9 : Hid (Below w.heap.size w w9) := HB8.out.trans (hb9.mono HB8.out.size)
 refine hKK _ _ HB9.out ?_
 clear hKK KK hb9
 iterate 2 (refine wpOT_take rfl _ (by rfl) (by intro w' hS;skip;go_simp;try with_reducible rfl) fun KK hKK => ?_;go_simp;refine hKK _ ?_;clear hKK KK)
 refine wpOT_done ?_
 show Kz _ _
 refine hKz _ _ ?_
 go_simp
 go_wp2
 go_ret
 exact ⟨rfl,HB9.out⟩
theorem margin1_any (g : Gt) (pA : Option Addr) (pn pc : Nat) (bs bw : Nat) (r : RI) (A : Option Addr) (k c : Nat) (e : List Int) (w : World) (h : g.ok w w.heap.size) (hb : Row w bs 107 [.int .i64 (-1),.int .i64 g.N,.slice g.A g.P.length g.c,.slice pA pn pc]) (hw : Row w bw 23 [r.cell]) (hr : r.ok w w.heap.size) (hrp : Ppl r.d) (hr0 : 0 < r.d.length) (hk : k = e.length) (he : Rd w w.heap.size 1 A k (ivs e)) (hel : e.length ≤ 64) :
  Calls Tryz.prog 57 #[.slice A k c,.pointer (some ⟨bs,0,none⟩),.pointer (some ⟨bw,0,none⟩)] w fun x w' => x = .returned (.bool (!decide (g.N ≤ ((cntW (wout r.d e) g.P : Nat) : Int)))) ∧ Below w.heap.size w w' := by
 have HWO := Lib.hid (fun W (hW : Below w.heap.size w W) => without_any r A k c e W ((hr.below hW).more hW.size) hr0 (by have := hrp.len;omega) ((he.below hW).more hW.size) (by omega))
 have hPq : Ppl (wout r.d e) := hrp.sub (wout_sub _ _)
 obtain ⟨rA,rc,rd⟩ := r
 obtain ⟨rn,hrn⟩ : ∃ x,rd.length = x := ⟨_,rfl⟩
 have HSH := Lib.hid (fun W (q : RI) (hW : Below w.heap.size w W) (hq : q.ok W W.heap.size) (hd : q.d = wout rd e) => sholds_any g pA pn pc q.A q.d.length q.c (wout rd e) W ((h.below hW).more hW.size) (by have := hq.1;rw [hd] at this ⊢;exact this) hPq (by rw [hd]))
 obtain ⟨R,hR⟩ : ∃ R,decide (g.N ≤ ((cntW (wout rd e) g.P : Nat) : Int)) = R := ⟨_,rfl⟩
 rw [hR] at HSH
 show Calls _ _ _ _ fun x w' => x = .returned (.bool (!decide (g.N ≤ ((cntW (wout rd e) g.P : Nat) : Int)))) ∧ _
 rw [hR]
 change Hid (∀ W,Below w.heap.size w W → Calls Tryz.prog 52 #[.slice rA rd.length rc,.slice A k c] W fun x w' => ∃ q : RI,x = .returned q.cell ∧ q.d = wout rd e ∧ q.ok w' w'.heap.size ∧ Below W.heap.size W w') at HWO
 rw [hrn] at HWO
 obtain ⟨gN,gA,gc,P⟩ := g
 change Hid (∀ W (q : RI),Below w.heap.size w W → q.ok W W.heap.size → q.d = wout rd e → Calls Tryz.prog 55 #[.agg #[.int .i64 (-1),.int .i64 gN,.slice gA P.length gc,.slice pA pn pc],.slice q.A q.d.length q.c] W fun r w' => r = .returned (.bool R) ∧ Below W.heap.size W w') at HSH
 have HRB : Hid (∀ w',Below w.heap.size w w' → Row w' bs 107 [.int .i64 (-1),.int .i64 gN,.slice gA P.length gc,.slice pA pn pc] ∧ Row w' bw 23 [.slice rA rn rc]) := fun w' hS => ⟨hb.below hS hb.lt,by have := hw.below hS hw.lt;rw [RI.cell_eq] at this;change Row w' bw _ [.slice rA rd.length rc] at this;rwa [hrn] at this⟩
 clear h hr hrp hr0 hk he hel hPq hR hb hw
 go_enter Tryz.func57,Tryz.ntmps57
 go_wp2_with fail
 rename_i Kz hKz
 refine wp_region_tree (fun w' => Below w.heap.size w w') (.take 0 (.take 1 (.take 2 (.one 3 (.one 4 (.take 5 (.take 6 .done))))))) (by kernel_rfl) (by kernel_rfl) (by kernel_rfl) (by kernel_rfl) (fun x _ _ _ _ h => by cases x <;> exact h) ((Below.refl _ _).drew) ?_
 iterate 3 (refine wpOT_take rfl _ (by rfl) (by intro w' hS;have q0 := (HRB.out w' hS).1.cell (i := 0) rfl;have q1 := (HRB.out w' hS).1.cell (i := 1) rfl;have q2 := (HRB.out w' hS).1.cell (i := 2) rfl;have q3 := (HRB.out w' hS).1.cell (i := 3) rfl;have q4 := (HRB.out w' hS).2.cell (i := 0) rfl;go_simp;try with_reducible rfl) fun KK hKK => ?_;go_simp;refine hKK _ ?_;clear hKK KK)
 refine wpOT_one rfl (by rfl) fun KK hKK => ?_
 go_simp
 refine (HWO.out _ ((Below.refl _ _).drew)).mono ?_
 rintro x8 w8 ⟨q,rfl,hqd,hqo,hb8⟩
 have hB8 : Below w.heap.size w w8 := ((Below.refl _ w).drew).trans hb8
 have HS2 := Lib.hid (HSH.out w8 q hB8 hqo hqd)
 have HB8 := Lib.hid hB8
 rw [RI.cell_eq]
 refine hKK _ _ hB8 ?_
 clear hKK KK hqd hqo hb8 hB8
 refine wpOT_one rfl (by rfl) fun KK hKK => ?_
 go_simp
 refine HS2.out.mono ?_
 rintro x9 w9 ⟨rfl,hb9⟩
 have HB9 : Hid (Below w.heap.size w w9) := HB8.out.trans (hb9.mono HB8.out.size)
 refine hKK _ _ HB9.out ?_
 clear hKK KK hb9
 iterate 2 (refine wpOT_take rfl _ (by rfl) (by intro w' hS;skip;go_simp;try with_reducible rfl) fun KK hKK => ?_;go_simp;refine hKK _ ?_;clear hKK KK)
 refine wpOT_done ?_
 show Kz _ _
 refine hKz _ _ ?_
 go_simp
 go_wp2
 go_ret
 exact ⟨rfl,HB9.out⟩
end Go.Proofs.YtjcpjhlclpdpjaaGreat
namespace Go.Proofs.YtjcpjhlclpdpjaaGreat
open Go.RowKit
attribute [local go_sem] Oper.semAt_some
theorem plainElem_bool_inv {H : Type} {P : Program} {e : TypeId} (he : P.underlying e = some .bool) {v : Value} {z : DataW H × List MemPlace} (h : plainElem P e v = some z) : ∃ c,v = .bool c := by
 unfold plainElem at h
 rw [he] at h
 cases v <;> simp at h
 exact ⟨_,rfl⟩
def MapB (w : World) (b : Nat) (L : List Int) : Prop := ∃ D : DataW Unit,w.ownsMap Tryz.prog 3 (plainElem Tryz.prog 4) b L.length D ∧ (∀ p : Int,Maps.has D (.int .i64 p) = decide (p ∈ L)) ∧ Maps.size D = L.length
theorem MapB.lt {w : World} {b : Nat} {L : List Int} (h : MapB w b L) : b < w.heap.size := by obtain ⟨D,h1,_⟩ := h;exact h1.lt
theorem MapB.below {w w' : World} {b : Nat} {L : List Int} (h : MapB w b L) (hb : Below w.heap.size w w') : MapB w' b L := by
 have hl := h.lt
 obtain ⟨D,h1,h2⟩ := h
 obtain ⟨es,clock,q1,q2⟩ := h1
 exact ⟨D,⟨es,clock,(hb.block b hl).trans q1,q2⟩,h2⟩
theorem MapB.made (w : World) : MapB (w.alloc (.map #[] 0)) w.heap.size [] := ⟨_,World.ownsMap_made w Tryz.prog 3 (plainElem Tryz.prog 4),fun p => by simp [Maps.has],rfl⟩
theorem MapB.step {L : List Int} {D : DataW Unit} {w w' : World} {b : Nat} {p : Int} (h : w.ownsMap Tryz.prog 3 (plainElem Tryz.prog 4) b L.length D) (h2 : ∀ p : Int,Maps.has D (.int .i64 p) = decide (p ∈ L)) (h3 : Maps.size D = L.length) (hp : ¬ p ∈ L)
  (h' : w'.ownsMap Tryz.prog 3 (plainElem Tryz.prog 4) b (L.length + 1) (D.put (.int .i64 p) (.lit (.bool true)))) : MapB w' b (L ++ [p]) := by
 refine ⟨_,by rw [List.length_append];exact h',fun q => ?_,?_⟩
 ·by_cases e : q = p
  ·subst e
   rw [Maps.has_put_same h.isMap (by simp [WideAt.IsKeyLit])]
   simp
  ·rw [Maps.has_put_other (by simpa using e),h2 q]
   simp [e]
 ·rw [Maps.size_put (h.tidy keyInt),h2 p,decide_eq_false hp,h3,List.length_append]
  rfl
theorem check1_leafL (p : Int) (bm bw mb : Nat) (L : List Int) (w : World) (h0 : 0 ≤ p) (h1 : p < 64) (hm : MapB w mb L) (hp : ¬ p ∈ L) (hl : L.length ≤ 64) (hr : Row w bm 145 [.map (some mb)]) :
  Calls Tryz.prog 82 #[leafV p,.pointer (some ⟨bm,0,none⟩),.pointer (some ⟨bw,0,none⟩)] w fun r w' => r = .returned (.tuple #[]) ∧ MapB w' mb (L ++ [p]) ∧ Tch (fun g => g = mb) w w' := by
 obtain ⟨w1,hw1⟩ : ∃ x,w.alloc (.cells #[.int .i64 p,.int .i64 0,.slice none 0 0] 68) = x := ⟨_,rfl⟩
 have hb1 : Below w.heap.size w w1 := by rw [← hw1];exact (Below.refl _ _).alloc (Nat.le_refl _) _
 have hm1 := hm.below hb1
 have hml := hm.lt
 have hrl := hr.lt
 obtain ⟨D,hown,hh,hz⟩ := hm1
 have hg1 : Row w1 w.heap.size 68 [.int .i64 p,.int .i64 0,.slice none 0 0] := by rw [← hw1];exact Row.fresh _ _ _
 have HSTEP : Hid (∀ w',w'.ownsMap Tryz.prog 3 (plainElem Tryz.prog 4) mb (L.length + 1) (D.put (.int .i64 p) (.lit (.bool true))) → MapB w' mb (L ++ [p])) := fun w' h' => MapB.step hown hh hz hp h'
 have HKEY : Hid (keyOf Tryz.prog 3 (.int .i64 p) = some (.int .i64 p)) := Maps.keyOf_int_mk Tryz.underlying3 (wf64 h0 h1)
 have HOWN := Lib.hid hown
 have HT1 : Hid (Tch (fun g => g = mb) w w1) := Tch.of_bel hb1
 have c1 := hr.cell (i := 0) rfl
 have HG := Lib.hid (And.intro hg1 (And.intro hml hb1))
 clear hm hown hh hz hp hr hb1 hg1
 subst hw1
 go_enter Tryz.func82,Tryz.ntmps82
 go_wp2_with (at_mapUpdate;refine wpList_mapUpdate_own _ rfl _ _ _ 145 rfl 3 4 keyInt Tryz.underlying145 _ mb L.length _ rfl HOWN.out (by unfold maxLen;omega) _ _ _ rfl rfl HKEY.out _ [] (plainElem_bool Tryz.underlying4 true) ?_;intro w3 hown3 hgrow3;have HW3 := Lib.hid (And.intro hown3 hgrow3);have hg3 := HG.out.1.grown hgrow3 (fun e => by have e' : mb = w.heap.size := Option.some.inj e.symm;have := HG.out.2.1;omega);have p2 := hg3.cell (i := 2) rfl;clear hown3 hgrow3 hg3)
 refine wp_loop_rounds 1 ?_
 rw [rounds_succ]
 go_wp2_with fail
 refine bodyPost_end (results_none' rfl _ _ _ rfl) rfl ?_
 exact ⟨rfl,HSTEP.out _ HW3.out.1,HT1.out.grown HW3.out.2 (fun g e => .inr (Option.some.inj e).symm)⟩
theorem check1_gate (g : Gt) (bm bw mb : Nat) (w : World) (h : g.ok w w.heap.size) (hP : Ppl g.P) (hm : MapB w mb []) (hr : Row w bm 145 [.map (some mb)]) (hw : Row w bw 146 [(.func (.func 82) #[] #[.pointer (some ⟨bm,0,none⟩),.pointer (some ⟨bw,0,none⟩)])]) (hd : bm ≠ mb ∧ bw ≠ mb) (hA : ∀ b o,g.A = some ⟨b,o,none⟩ → b ≠ mb) :
  Calls Tryz.prog 82 #[g.val,.pointer (some ⟨bm,0,none⟩),.pointer (some ⟨bw,0,none⟩)] w fun r w' => r = .returned (.tuple #[]) ∧ MapB w' mb g.P ∧ Tch (fun g => g = mb) w w' := by
 have hlen := h.len
 have hleaf := h.leaf
 have hgA := hA
 have hrd := h.rd
 obtain ⟨N,gA,gc,P⟩ := g
 change P.length ≤ 64 at hlen
 change Ppl P at hP
 change ∀ b o,gA = some ⟨b,o,none⟩ → b ≠ mb at hgA
 change 0 < P.length → ∃ b o,gA = some ⟨b,o,none⟩ ∧ ∀ k,k < P.length → ∀ W,Below w.heap.size w W → W.cell? ⟨b,o + k * 3,none⟩ = some (.int .i64 (P.getD k 0)) ∧ W.cell? ⟨b,o + k * 3 + 1,none⟩ = some (.int .i64 0) ∧ W.cell? ⟨b,o + k * 3 + 2,none⟩ = some (.slice none 0 0) at hleaf
 have hrd2 : 0 < P.length → ∀ b o,gA = some ⟨b,o,none⟩ → b < w.heap.size := fun h0 b o e => by
  obtain ⟨b',o',e1,hb',_⟩ := hrd.2 h0
  have e1 : gA = _ := e1
  rw [e] at e1;cases e1;exact hb'
 show Calls _ _ #[.agg #[.int .i64 (-1),.int .i64 N,.slice gA P.length gc],_,_] _ fun r w' => _ ∧ MapB w' mb P ∧ _
 have HLEAF : Hid (0 < P.length → ∃ b o,gA = some ⟨b,o,none⟩ ∧ ∀ k,k < P.length → ∀ W,Tch (fun g => g = mb) w W → W.cell? ⟨b,o + k * 3,none⟩ = some (.int .i64 (P.getD k 0)) ∧ W.cell? ⟨b,o + k * 3 + 1,none⟩ = some (.int .i64 0) ∧ W.cell? ⟨b,o + k * 3 + 2,none⟩ = some (.slice none 0 0)) := fun h0 => by
  obtain ⟨b,o,e1,hc⟩ := hleaf h0
  refine ⟨b,o,e1,fun k hk W hW => ?_⟩
  obtain ⟨c1,c2,c3⟩ := hc k hk w (Below.refl _ _)
  have hb := hrd2 h0 b o e1
  have hx : ¬ (b = mb) := hgA b o e1
  exact ⟨(hW.cell (p := ⟨b,o + k * 3,none⟩) hb hx).trans c1,(hW.cell (p := ⟨b,o + k * 3 + 1,none⟩) hb hx).trans c2,(hW.cell (p := ⟨b,o + k * 3 + 2,none⟩) hb hx).trans c3⟩
 have HCALL : Hid (∀ k,k < P.length → ∀ W,Tch (fun g => g = mb) w W → MapB W mb (P.take k) → Calls Tryz.prog 82 #[leafV (P.getD k 0),.pointer (some ⟨bm,0,none⟩),.pointer (some ⟨bw,0,none⟩)] W fun r w' => r = .returned (.tuple #[]) ∧ MapB w' mb (P.take (k + 1)) ∧ Tch (fun g => g = mb) W w') := fun k hk W hW hmk => by
  obtain ⟨q1,q2,q3,q4⟩ := hP.last hk
  refine (check1_leafL _ bm bw mb (P.take k) W q2 q3 hmk ?_ (by rw [List.length_take];omega) (hW.row hr hd.1)).mono ?_
  ·intro hm
   obtain ⟨j,hj,e⟩ := List.mem_iff_getElem.1 hm
   rw [List.length_take] at hj
   have h1 := List.pairwise_iff_getElem.1 hP.inc j k (by omega) hk (by omega)
   rw [List.getElem_take] at e
   rw [e,List.getD_eq_getElem?_getD,List.getElem?_eq_getElem hk] at h1
   exact Int.lt_irrefl _ h1
  ·rintro r w' ⟨e1,e2,e3⟩
   rw [List.take_add_one,q4]
   exact ⟨e1,e2,e3⟩
 obtain ⟨n,hnn⟩ : ∃ n,P.length = n := ⟨_,rfl⟩
 have HTK : Hid (P.take n = P) := by show _ = _;rw [← hnn,List.take_length]
 rw [hnn] at HLEAF HCALL hlen ⊢
 have hml := hm.lt
 have hwl := hw.lt
 have HW := Lib.hid (And.intro hw (And.intro hd hwl))
 have HM0 : Hid (MapB (w.alloc (.cells #[.int .i64 (-1),.int .i64 N,.slice gA n gc] 68)) mb (P.take 0) ∧ Tch (fun g => g = mb) w (w.alloc (.cells #[.int .i64 (-1),.int .i64 N,.slice gA n gc] 68))) := ⟨hm.below ((Below.refl _ _).alloc (Nat.le_refl _) _),(Tch.refl _ w).alloc _⟩
 clear h hP hm hr hw hd hA hleaf hgA hrd hrd2 hnn
 go_enter Tryz.func82,Tryz.ntmps82
 go_wp2_with fail
 generalize (w.alloc (.cells #[.int .i64 (-1),.int .i64 N,.slice gA n gc] 68)) = w1 at HM0 ⊢
 go_loopw [15] (fun i wr => ∃ k : Nat,k ≤ n ∧ i = .int .i64 k ∧ MapB wr mb (P.take k) ∧ Tch (fun g => g = mb) w wr) (fun i _ => n - (intOf i).toNat)
 case atStart => exact ⟨0,Nat.zero_le _,rfl,HM0.out⟩
 case round =>
  clear HM0
  obtain ⟨k,hk,rfl,hmk,htc⟩ := hrel
  by_cases hlt : k < n
  ·have k1 : (k : Int) < (n : Int) := by omega
   have k0 : (0 : Int) ≤ (k : Int) := by omega
   obtain ⟨b,o,hA1,hcc⟩ := HLEAF.out (by omega)
   subst hA1
   obtain ⟨d0,d1,d2⟩ := hcc k hlt wr htc
   have hC := HCALL.out k hlt
   obtain ⟨p,hp⟩ : ∃ x,P.getD k 0 = x := ⟨_,rfl⟩
   rw [hp] at d0 hC
   have hwr := htc.row HW.out.1 HW.out.2.1.2
   have cw := hwr.cell (i := 0) rfl
   have lw := hwr.lt
   have HC := Lib.hid (hC _ (htc.alloc (.cells #[.int .i64 p,.int .i64 0,.slice none 0 0] 68)) (hmk.below ((Below.refl _ _).alloc (Nat.le_refl _) _)))
   have HTC := Lib.hid htc
   clear hcc hC hp hwr hmk htc
   go_wp2_with fail
   refine HC.out.mono ?_
   rintro x w3 ⟨rfl,hm3,ht3⟩
   have H3 : Hid (MapB w3 mb (P.take (k + 1)) ∧ Tch (fun g => g = mb) w w3) := ⟨hm3,(HTC.out.alloc _).trans ht3⟩
   clear hm3 ht3 cw d0 d1 d2 lw
   go_wp2_with fail
   go_roundw
   case rel => exact ⟨k + 1,by omega,by go_num,H3.out⟩
   case measure => simp [intOf];omega
  ·obtain rfl : k = n := by omega
   have H3 : Hid (MapB wr mb P ∧ Tch (fun g => g = mb) w wr) := ⟨by rw [HTK.out] at hmk;exact hmk,htc⟩
   clear hmk htc
   go_wp2_with fail
   refine bodyPost_end (results_none' rfl _ _ _ rfl) rfl ?_
   exact ⟨rfl,H3.out⟩
end Go.Proofs.YtjcpjhlclpdpjaaGreat
