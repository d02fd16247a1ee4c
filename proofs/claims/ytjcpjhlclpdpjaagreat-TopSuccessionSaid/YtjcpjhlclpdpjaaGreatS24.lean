import Derived.Test.YtjcpjhlclpdpjaaGreatS23
set_option linter.unusedVariables false
set_option maxRecDepth 100000
set_option maxHeartbeats 16000000
namespace Go.Proofs.YtjcpjhlclpdpjaaGreat
open Go.RowKit
attribute [local go_sem] Oper.semAt_some
theorem prow_len (N i : Nat) : (prow N i).length = N := by simp [prow]
theorem prow_mem {N i : Nat} {x : Int} (h : x ∈ prow N i) : 0 ≤ x ∧ x < 1073741789 := by
 obtain ⟨j,_,rfl⟩ := List.mem_map.1 h
 exact ⟨Int.emod_nonneg _ (by decide),Int.emod_lt_of_pos _ (by decide)⟩
theorem prow_get {N i j : Nat} (h : j < N) : (prow N i).getD j 0 = Gs.pwr ((i + 1 : Nat) : Int) j := by
 unfold prow
 rw [List.getD_eq_getElem?_getD,List.getElem?_map,List.getElem?_range h];rfl
section
variable {W : World} {B N : Nat} {P : List Int} {RA : Option Addr} {rc : Nat} {OA : Option Addr} {oc : Nat} {rs : List RI}
theorem Prg.frow (h : Prg W B N P RA rc OA oc rs) : ∀ r ∈ rs,FRow N r := fun r hr => by
 obtain ⟨i,hi,rfl⟩ := List.mem_iff_getElem.1 hr
 have hi' : i < P.length := by rw [← h.len];exact hi
 have e := h.dat i hi'
 rw [show rs.getD i r0 = rs[i] by rw [List.getD_eq_getElem?_getD,List.getElem?_eq_getElem hi];rfl] at e
 exact ⟨by rw [e,prow_len],fun x hx => by rw [e] at hx;exact (prow_mem hx).1,fun x hx => by rw [e] at hx;exact (prow_mem hx).2⟩
theorem Prg.row (h : Prg W B N P RA rc OA oc rs) (h0 : 0 < P.length) : ∃ b o,RA = some ⟨b,o,none⟩ ∧ b < B ∧ ∀ k,k < P.length → ∃ A c,rs.getD k r0 = ⟨A,c,prow N k⟩ ∧ (⟨A,c,prow N k⟩ : RI).ok W B ∧ ∀ V,Below B W V → V.cell? ⟨b,o + k,none⟩ = some (.slice A N c) := by
 obtain ⟨b,o,e1,hb,hc⟩ := h.rd.at (by rw [h.len];exact h0)
 refine ⟨b,o,e1,hb,fun k hk => ?_⟩
 have hk' : k < rs.length := by rw [h.len];exact hk
 obtain ⟨R,hr⟩ : ∃ R,rs.getD k r0 = R := ⟨_,rfl⟩
 obtain ⟨A,c,d⟩ := R
 have hd := h.dat k hk
 rw [hr] at hd
 have hd : d = prow N k := hd
 subst hd
 refine ⟨A,c,hr,by have := h.rd.rows _ (getD_mem' hk').1;rwa [hr] at this,fun V hV => ?_⟩
 have := hc k hk' V hV
 rw [hr,RI.cell_eq] at this
 rw [this]
 show some (Value.slice A (prow N k).length c) = _
 rw [prow_len]
end
theorem pcheck_any (N : Nat) (P : List Int) (RA : Option Addr) (rc : Nat) (OA : Option Addr) (oc : Nat) (rs : List RI) (w : World) (h : Prg w w.heap.size N P RA rc OA oc rs) (h0 : 0 < P.length) (hP : ∀ p ∈ P,0 ≤ p ∧ p < 64) (hN0 : 1 ≤ N) (hN : N ≤ 64) (hn : P.length ≤ 64) :
  Calls Tryz.prog 71 #[.agg #[.slice RA P.length rc,.slice OA P.length oc]] w fun r w' => r = .returned (.int .i64 0) ∧ w.alloc (.cells #[.slice RA P.length rc,.slice OA P.length oc] 71) = w' := by
 obtain ⟨s,hs⟩ : ∃ s,w.heap.size = s := ⟨_,rfl⟩
 obtain ⟨n,hnn⟩ : ∃ n,P.length = n := ⟨_,rfl⟩
 obtain ⟨b,o,hRA,hb,hrow⟩ := h.row h0
 subst hRA
 obtain ⟨_,b2,o2,hOA,hb2,hown⟩ := i64at h.own h0
 subst hOA
 have HCR : Hid (∀ W,Below s w W → Calls Tryz.prog 98 #[.slice (some ⟨b,o,none⟩) n rc,.func (.func 97) #[] #[]] W fun r w' => r = .returned (.bool false) ∧ W = w') := fun W hW => by
  refine prC_any (some ⟨b,o,none⟩) n rc (by omega) (fun k => (rs.getD k r0).A) (fun k => N) (fun k => (rs.getD k r0).c) (fun _ V => W = V) W rfl (fun _ => ⟨b,o,rfl,fun k hk V hV => ?_⟩) (fun k hk V hV => ?_)
  ·subst hV
   obtain ⟨A,c,e,_,hc⟩ := hrow k (by omega)
   rw [e]
   exact hc W (by rw [hs];exact hW)
  ·subst hV
   exact pcheck1_any _ _ _ W hN
 have HCI : Hid (∀ k,k < n → ∃ A c,(∀ V,Below s w V → V.cell? ⟨b,o + k,none⟩ = some (.slice A N c)) ∧ ∀ W,Below s w W → Calls Tryz.prog 101 #[.slice A N c,.func (.func 99) #[] #[]] W fun r w' => r = .returned (.bool false) ∧ W = w') := fun k hk => by
  obtain ⟨A,c,e,hok,hc⟩ := hrow k (by omega)
  refine ⟨A,c,by rw [← hs];exact hc,fun W hW => ?_⟩
  have hok2 := hok.below (w' := W) (by rw [hs];exact hW)
  obtain ⟨b3,o3,hA3,hb3,hc3⟩ := RI.at hok2 (by show 0 < (prow N k).length;rw [prow_len];exact hN0)
  have hA3 : A = some ⟨b3,o3,none⟩ := hA3
  refine poC_any A N c (by omega) (fun j => (prow N k).getD j 0) (fun _ V => W = V) W rfl (fun _ => ⟨b3,o3,hA3,fun j hj V hV => ?_⟩) (fun j hj V hV => ?_)
  ·subst hV
   exact hc3 j (by show j < (prow N k).length;rw [prow_len];exact hj) W (Below.refl _ _)
  ·subst hV
   have hm : (prow N k).getD j 0 ∈ prow N k := by
    rw [List.getD_eq_getElem?_getD,List.getElem?_eq_getElem (by rw [prow_len];exact hj)]
    exact List.getElem_mem _
   exact pcheck2_any _ W (prow_mem hm).1 (prow_mem hm).2
 have HPE : Hid (∀ k,k < n → ∃ p : Int,(∀ V,Below s w V → V.cell? ⟨b2,o2 + k,none⟩ = some (.int .i64 p)) ∧ ∀ W,Calls Tryz.prog 72 #[.int .i64 p] W fun r w' => r = .returned (.bool true) ∧ W = w') := fun k hk => by
  refine ⟨P.getD k 0,by rw [← hs];exact hown k (by omega),fun W => ?_⟩
  have hm : P.getD k 0 ∈ P := by
   rw [List.getD_eq_getElem?_getD,List.getElem?_eq_getElem (by omega)]
   exact List.getElem_mem _
  exact isPerson_any _ W (hP _ hm).1 (hP _ hm).2
 rw [hnn] at hn h0 ⊢
 obtain ⟨w1,hw1⟩ : ∃ x,w.alloc (.cells #[.slice (some ⟨b,o,none⟩) n rc,.slice (some ⟨b2,o2,none⟩) n oc] 71) = x := ⟨_,rfl⟩
 have hB1 : Below s w w1 := by rw [← hw1,← hs];exact (Below.refl _ _).alloc (Nat.le_refl _) _
 have hR1 : Row w1 s 71 [.slice (some ⟨b,o,none⟩) n rc,.slice (some ⟨b2,o2,none⟩) n oc] := by rw [← hw1];exact Row.fresh' _ _ _ hs
 have HB1 := Lib.hid hB1
 have HR1 := Lib.hid hR1
 have HCR1 := Lib.hid (HCR.out w1 hB1)
 have HS := Lib.hid hs
 have HW1 := Lib.hid hw1
 clear hw1
 have hn64 : ¬ (64 < (n : Int)) := by omega
 have hN1 : ((N : Int) == 0) = false := by simp;omega
 clear h hrow hown hP hnn hs hB1 hR1 hb hb2 HCR
 go_enter Tryz.func71,Tryz.ntmps71
 go_wp2_with fail
 rw [HW1.out,HS.out]
 refine HCR1.out.mono ?_
 rintro x w2 ⟨rfl,rfl⟩
 have p0 := HR1.out.cell (i := 0) rfl
 have p1 := HR1.out.cell (i := 1) rfl
 go_wp2_with fail
 go_loopw [27] (fun i wr => w1 = wr ∧ ∃ k : Nat,k ≤ n ∧ i = .int .i64 k) (fun i _ => n - (intOf i).toNat)
 case atStart => exact ⟨rfl,0,Nat.zero_le _,rfl⟩
 case round =>
  obtain ⟨rfl,k,hk,rfl⟩ := hrel
  by_cases hlt : k < n
  ·have k1 : (k : Int) < (n : Int) := by omega
   have k0 : (0 : Int) ≤ (k : Int) := by omega
   have k2 : (0 : Int) < (n : Int) := by omega
   obtain ⟨A,c,q0,hC⟩ := HCI.out k hlt
   obtain ⟨A',c',q1,_⟩ := HCI.out 0 h0
   obtain ⟨p,q2,hC2⟩ := HPE.out k hlt
   have q0 := q0 w1 HB1.out
   have q1 := q1 w1 HB1.out
   have q2 := q2 w1 HB1.out
   rw [Nat.add_zero] at q1
   have HC := Lib.hid (hC w1 HB1.out)
   have HC2 := Lib.hid (hC2 w1)
   have nn : ((N : Int) != (N : Int)) = false := by simp
   clear hC hC2
   go_wp2_with (first | (go_at_call 72;refine HC2.out.mono ?_;rintro x w2 ⟨rfl,rfl⟩) | (go_at_call 101;refine HC.out.mono ?_;rintro x w2 ⟨rfl,rfl⟩))
   go_roundw
   case rel => exact ⟨trivial,k + 1,by omega,by go_num⟩
   case measure => simp [intOf];omega
  ·obtain rfl : k = n := by omega
   go_wp2_with fail
   go_ret
   exact ⟨rfl,HW1.out⟩
theorem own_any (A0 : Option Addr) (n0 c0 : Nat) (A1 : Option Addr) (n1 c1 : Nat) (A : Option Addr) (n c : Nat) (w : World) : Calls Tryz.prog 73 #[.agg #[.slice A0 n0 c0,.slice A1 n1 c1],.slice A n c] w fun r w' =>
  r = .returned (.func (.func 102) #[] #[.pointer (some ⟨w.heap.size,0,none⟩),.pointer (some ⟨w.heap.size + 1,0,none⟩)]) ∧
  (w.alloc (.cells #[.slice A0 n0 c0,.slice A1 n1 c1] 71)).alloc (.cells #[.slice A n c] 23) = w' := by
 go_enter Tryz.func73,Tryz.ntmps73
 go_wp2
 go_ret
 exact ⟨rfl,rfl⟩
def OwnT (P L : List Int) (rs : List RI) (s : Nat) (vs : Array Value) (s' : Nat) : Prop := ∃ i,s ≤ i ∧ i < P.length ∧ (∀ j,s ≤ j → j < i → ¬ P.getD j 0 ∈ L) ∧ P.getD i 0 ∈ L ∧ s' = i + 1 ∧ vs = #[.int .i64 (i : Int),(rs.getD i r0).cell]
def OwnS (P L : List Int) (s : Nat) : Prop := ∀ j,s ≤ j → j < P.length → ¬ P.getD j 0 ∈ L
theorem own1_hands (N : Nat) (P L : List Int) (RA : Option Addr) (rc : Nat) (OA : Option Addr) (oc : Nat) (rs : List RI) (WA : Option Addr) (wc sp sw B : Nat) (h0 : 0 < P.length) (hn : P.length ≤ 64) (hm : L.length ≤ 64) (hL : L.Pairwise (· < ·)) (w0 : World) (I : Nat → World → Prop)
  (hI : ∀ s W,I s W → Row W sp 71 [.slice RA P.length rc,.slice OA P.length oc] ∧ Row W sw 23 [.slice WA L.length wc] ∧ Prg W B N P RA rc OA oc rs ∧ Rd W B 1 WA L.length (ivs L) ∧ B ≤ W.heap.size) :
  Hands Fence.wide 8 Tryz.prog 102 #[.pointer (some ⟨sp,0,none⟩),.pointer (some ⟨sw,0,none⟩)] w0 I (fun s vs s' _ => OwnT P L rs s vs s') 0 (OwnS P L) := by
 intro l J Jx W hb hJI hJ hJx hY h0'
 obtain ⟨n,hnn⟩ : ∃ n,P.length = n := ⟨_,rfl⟩
 obtain ⟨m,hmm⟩ : ∃ m,L.length = m := ⟨_,rfl⟩
 have hI0 := hI _ _ (hJI _ _ h0')
 obtain ⟨b,o,hRA,_,_⟩ := hI0.2.2.1.row h0
 obtain ⟨_,b2,o2,hOA,_,_⟩ := i64at hI0.2.2.1.own h0
 subst hRA hOA
 clear hI0
 have HI : Hid (∀ s V,J s V → Row V sp 71 [.slice (some ⟨b,o,none⟩) n rc,.slice (some ⟨b2,o2,none⟩) n oc] ∧ Row V sw 23 [.slice WA m wc] ∧ ∀ k,k < n → ∃ A c,(rs.getD k r0).cell = .slice A N c ∧ V.cell? ⟨b,o + k,none⟩ = some (.slice A N c) ∧ V.cell? ⟨b2,o2 + k,none⟩ = some (.int .i64 (P.getD k 0))) := fun s V h => by
  obtain ⟨q1,q2,q3,q4,q5⟩ := hI s V (hJI s V h)
  rw [hnn] at q1;rw [hmm] at q2
  refine ⟨q1,q2,fun k hk => ?_⟩
  obtain ⟨b',o',e,_,hrow⟩ := q3.row h0
  cases e
  obtain ⟨A,c,e1,_,hc⟩ := hrow k (by omega)
  obtain ⟨_,b2',o2',e,_,hown⟩ := i64at q3.own h0
  cases e
  refine ⟨A,c,?_,hc V (Below.refl _ _),hown k (by omega) V (Below.refl _ _)⟩
  rw [e1,RI.cell_eq]
  show Value.slice A (prow N k).length c = _
  rw [prow_len]
 have HBS : Hid (∀ s V,J s V → ∀ (x : Int) V',(∀ B,Below B V V') → Calls Tryz.prog 103 #[.slice WA m wc,.int .i64 x] V' fun r w' => (∃ i,r = .returned (.tuple #[.int .i64 i,.bool (decide (x ∈ L))])) ∧ V' = w') := fun s V h x V' hV => by
  obtain ⟨q1,q2,q3,q4,q5⟩ := hI s V (hJI s V h)
  rw [hmm] at q4
  exact bsearchp_any WA m wc B L x V' (q4.below (hV B)) (by omega) hL
 have HY := Lib.hid hY
 have HJA := Lib.hid hJ
 have H0 := Lib.hid h0'
 have HNN := Lib.hid hnn
 rw [hnn] at h0 hn
 refine callsIn_of_wp Tryz.func102 rfl trivial ?_ rfl
 obtain ⟨c1,c2,_⟩ := HI.out _ _ h0'
 have p0 := c1.cell (i := 0) rfl
 clear hI hJI hJ hJx hY h0' hb c1 c2 hnn hmm
 simp only [Tryz.ntmps102,List.size_toArray,List.length_cons,List.length_nil,Nat.reduceAdd,Nat.reduceSub,Array.replicate_succ,Array.replicate_zero,List.push_toArray,List.append_toArray,List.nil_append,List.cons_append]
 gi_wp2
 clear p0
 gi_loopw [11] (fun x wr => ∃ k s : Nat,s ≤ k ∧ k ≤ n ∧ x = .int .i64 k ∧ J s wr ∧ ∀ j,s ≤ j → j < k → ¬ P.getD j 0 ∈ L) (fun x _ => n - (intOf x).toNat)
 case atStart => exact ⟨0,0,Nat.le_refl _,by omega,rfl,H0.out,fun j h1 h2 => absurd h2 (by omega)⟩
 case round =>
  clear H0
  obtain ⟨k,s,hsk,hk,rfl,hj,hno⟩ := hrel
  have HNO := Lib.hid hno
  obtain ⟨r1,r2,hcc⟩ := HI.out _ _ hj
  have HJ := Lib.hid hj
  clear hno
  by_cases hlt : k < n
  ·have k1 : (k : Int) < (n : Int) := by omega
   have k0 : (0 : Int) ≤ (k : Int) := by omega
   obtain ⟨A,c,e1,d1,d2⟩ := hcc k hlt
   obtain ⟨p,hp⟩ : ∃ x,P.getD k 0 = x := ⟨_,rfl⟩
   rw [hp] at d2
   have HPP := Lib.hid hp
   have HE1 := Lib.hid e1
   have HBC := Lib.hid (HBS.out _ _ hj p wr.drew (fun B => (Below.refl _ _).drew))
   have HS4 : Hid (Row wr.drew sp 71 [.slice (some ⟨b,o,none⟩) n rc,.slice (some ⟨b2,o2,none⟩) n oc] ∧ Row wr.drew sw 23 [.slice WA m wc] ∧ wr.drew.cell? ⟨b2,o2 + k,none⟩ = some (.int .i64 p)) := ⟨r1.below (Below.refl _ _).drew r1.lt,r2.below (Below.refl _ _).drew r2.lt,d2⟩
   have HKB : Hid ((0 : Int) ≤ (k : Int) ∧ (k : Int) < (n : Int)) := ⟨k0,k1⟩
   clear hcc hp e1 hj r1 r2 d2
   gi_wp2_with fail
   rename_i Kz hKz
   refine wpIn_region_treeC (fun (_ : Nat) (W : World) => Row W sp 71 [.slice (some ⟨b,o,none⟩) n rc,.slice (some ⟨b2,o2,none⟩) n oc] ∧ Row W sw 23 [.slice WA m wc] ∧ W.cell? ⟨b2,o2 + k,none⟩ = some (.int .i64 p)) (.take 0 (.take 1 (.take 2 (.take 3 (.take 4 (.take 5 (.one 6 (.take 7 (.take 8 (.take 9 (.take 10 (.take 11 .done)))))))))))) (by kernel_rfl) (by kernel_rfl) (by kernel_rfl) (by kernel_rfl) (by kernel_rfl) ?_
   iterate 6 (refine wpOTC_take rfl _ (by rfl) (fun _ => rfl) (by intro w' hS;have q0 := hS.1.cell (i := 0) rfl;have q1 := hS.1.cell (i := 1) rfl;have q2 := hS.2.1.cell (i := 0) rfl;have q3 := hS.2.2;obtain ⟨k0,k1⟩ := HKB.out;go_simp;try with_reducible rfl) HS4.out fun KK hKK => ?_;go_simp;refine hKK _ ?_;clear hKK KK)
   refine wpOTC_one _ rfl (by rfl) rfl fun KK hKK => ?_
   go_simp
   refine ⟨trivial,(callsIn_wide.2 HBC.out).mono ?_⟩
   rintro e8 w8 ⟨⟨pos,rfl⟩,rfl⟩
   refine hKK _ _ (fun _ _ => HS4.out) ?_
   iterate 5 (clear hKK KK;refine wpOTC_take rfl _ (by rfl) (fun _ => rfl) (by intro w' hS;go_simp;try with_reducible rfl) HS4.out fun KK hKK => ?_;go_simp;refine hKK _ ?_)
   clear hKK KK
   refine wpOTC_done ?_
   show Kz _ _
   refine hKz _ _ ?_
   go_simp
   have hjd : J s wr.drew := HJA.out s wr wr.drew none HJ.out (grown_of_below (Below.refl _ _).drew) (fun r e => by cases e)
   by_cases hpL : p ∈ L
   ·have e2 : decide (p ∈ L) = true := decide_eq_true hpL
    have hy0 := HY.out s #[.int .i64 (k : Int),.slice A N c] (k + 1) wr.drew hjd ⟨k,hsk,by rw [HNN.out];exact hlt,HNO.out,by rw [HPP.out];exact hpL,rfl,by rw [HE1.out]⟩
    obtain ⟨fn,tmps,assign,body,hy,hRR⟩ := hy0
    have HRR := Lib.hid hRR
    clear hRR hpL hjd
    gi_wp2_with fail
    refine HRR.out.mono ?_
    rintro x W3 (⟨rfl,hJ3⟩ | ⟨rfl,hJ3⟩)
    ·have HJ3 := Lib.hid hJ3
     clear hJ3 hy
     gi_wp2_with fail
     go_roundw
     case rel => exact ⟨k + 1,k + 1,Nat.le_refl _,by omega,by go_num,HJ3.out,fun j h1 h2 => absurd h1 (by omega)⟩
     case measure => simp [intOf];omega
    ·have HJ3 := Lib.hid hJ3
     clear hJ3 hy
     gi_wp2_with fail
     refine bodyPost_ret (results_none' rfl _ _ _ rfl) rfl ?_
     exact ⟨⟨_,rfl⟩,.inr ⟨_,HJ3.out⟩⟩
   ·have e2 : decide (p ∈ L) = false := decide_eq_false hpL
    have HNL : Hid (∀ j,s ≤ j → j < k + 1 → ¬ P.getD j 0 ∈ L) := fun j h1 h2 => by
     rcases Nat.lt_or_ge j k with h3 | h3
     ·exact HNO.out j h1 h3
     ·rw [show j = k by omega,HPP.out];exact hpL
    have HJD := Lib.hid hjd
    clear hpL hjd
    gi_wp2_with fail
    refine ⟨fun _ _ => trivial,?_⟩
    gi_wp2_with fail
    go_roundw
    case rel => exact ⟨k + 1,s,by omega,by omega,by go_num,HJD.out,HNL.out⟩
    case measure => simp [intOf];omega
  ·obtain rfl : k = n := by omega
   gi_wp2_with fail
   refine bodyPost_end (results_none' rfl _ _ _ rfl) rfl ?_
   exact ⟨⟨_,rfl⟩,.inl ⟨s,fun j h1 h2 => HNO.out j h1 (by rw [HNN.out] at h2;exact h2),HJ.out⟩⟩
end Go.Proofs.YtjcpjhlclpdpjaaGreat
