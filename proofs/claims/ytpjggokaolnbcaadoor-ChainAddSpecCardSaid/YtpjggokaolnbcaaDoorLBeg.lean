/- The iterator of chain.beginnings: each link, with the head of what is before it. -/
import Derived.Test.YtpjggokaolnbcaaDoorLIn
namespace Go.Proofs.YtpjggokaolnbcaaDoor
open Go.RowKit Go.Shelf
attribute [local go_sem] Oper.semAt_some
set_option linter.unusedVariables false
namespace Ch
def dfl : LkV := ⟨0, 0, List.replicate 32 0, [], none, 0⟩
def gk (L : List LkV) (i : Nat) : LkV := L.getD i dfl
end Ch
/-- what is handed over at index i -/
abbrev encB (K : Sh.Cst) (L : List LkV) (i : Nat) : Array Value := #[.agg (Ch.gk L i).cells.toArray, .agg ((Ch.head K (L.take i)).map (Value.int .u8)).toArray]
/-- what a round keeps: what lies below n₀, and the iterator's own variable -/
def KpB (n₀ Bn : Nat) (W W' : World) : Prop := Below n₀ W W' ∧ W'.cell? ⟨Bn, 0, none⟩ = W.cell? ⟨Bn, 0, none⟩
theorem Lks.take {w : World} {B n k : Nat} {A : Option Addr} {L : List LkV} (h : Lks w B A n L) (hk : k ≤ n) : Lks w B A k (L.take k) := by
  refine ⟨by rw [List.length_take, h.len]; omega, fun x hx => h.all x (List.mem_of_mem_take hx), ?_, ?_⟩
  · have hl : ∀ (l : List LkV), (∀ x ∈ l, x.cells.length = 35) → (l.flatMap LkV.cells).length = l.length * 35 := by
      intro l
      induction l with
      | nil => intro _; rfl
      | cons a l ih => intro hs; rw [List.flatMap_cons, List.length_append, hs a (by simp), ih (fun x hx => hs x (by simp [hx])), List.length_cons]; omega
    rw [hl _ (fun x hx => LkV.cells_length (h.all x (List.mem_of_mem_take hx))), List.length_take, h.len]
    omega
  · intro hk0
    obtain ⟨b, o, e, hb, hc⟩ := h.rd.2 (by omega)
    refine ⟨b, o, e, hb, fun j u hu => hc j u ?_⟩
    have he : L.flatMap LkV.cells = (L.take k).flatMap LkV.cells ++ (L.drop k).flatMap LkV.cells := by rw [← List.flatMap_append, List.take_append_drop]
    rw [he, List.getElem?_append_left (List.getElem?_eq_some_iff.1 hu).1]
    exact hu
/-- Two may come up. -/
theorem wpAnyT_two {F : Fence} {n : Nat} {P : Program} {ops : Array Oper} {Q : Exit → Act → World → Prop} {md : Region.Mode} {C : Nat → World → Prop} {i j : Nat} {oi oj : Oper} {fuel : Nat} {E : List Nat} (Ei Ej : List Nat) {listed : Array Bool} (Li Lj : Array Bool) {a : Act} {w : World} (hoi : ops[i]? = some oi) (hoj : ops[j]? = some oj)
    (hc : (Region.ready md ops listed == [i, j] && lateE md ops E i == Ei && listed.setIfInBounds i true == Li && lateE md ops E j == Ej && listed.setIfInBounds j true == Lj) = true)
    (h1 : ∀ K' : Act → World → Prop, Shut (∀ a w, (∀ e ∈ Ei, C e w) → wpAnyT F n P md ops Q C fuel Ei Li a w → K' a w) → if Region.wanted oi (yielded ops a.tmps) = true then Oper.wpIn F n P oi a w K' Q else (∀ f, oi.about P w a.eval = some f → F.fn f) ∧ K' (a.put oi.dst undef) w)
    (h2 : ∀ K' : Act → World → Prop, Shut (∀ a w, (∀ e ∈ Ej, C e w) → wpAnyT F n P md ops Q C fuel Ej Lj a w → K' a w) → if Region.wanted oj (yielded ops a.tmps) = true then Oper.wpIn F n P oj a w K' Q else (∀ f, oj.about P w a.eval = some f → F.fn f) ∧ K' (a.put oj.dst undef) w) :
    wpAnyT F n P md ops Q C (fuel + 1) E listed a w := by
  simp only [Bool.and_eq_true, beq_iff_eq] at hc
  obtain ⟨⟨⟨⟨hr, hEi⟩, hLi⟩, hEj⟩, hLj⟩ := hc
  refine ⟨fun h0 => (by rw [h0] at hr; cases hr), fun t ht => ?_⟩
  rw [hr] at ht
  rcases List.mem_cons.1 ht with rfl | ht
  · unfold wpOpIn
    rw [hoi, hEi, hLi]
    exact h1 _ (fun a w hS hW => ⟨hS, hW⟩)
  · obtain rfl := List.mem_singleton.1 ht
    unfold wpOpIn
    rw [hoj, hEj, hLj]
    exact h2 _ (fun a w hS hW => ⟨hS, hW⟩)
set_option maxRecDepth 100000 in
set_option maxHeartbeats 4000000 in
theorem beg1_in (K : Sh.Cst) (m l Bn n₀ n c : Nat) (A : Option Addr) (L : List LkV) (W : World) (hn6 : n ≤ 100000) (hn2 : 2 ≤ n₀) (hBn : Bn < W.heap.size) (J Jx : List Nat → World → Prop) (hJ : AbidesFrom W.heap.size J) (hnW : n₀ ≤ W.heap.size)
    (hY : ∀ pre x W1, J pre W1 → pre.length < n → YieldAt Fence.wide (m - 1) Tryd.prog l (encB K L x) W1 fun e W' =>
      (e = .returned (.bool true) ∧ J (pre ++ [x]) W' ∧ KpB n₀ Bn W1 W') ∨ (e = .returned (.bool false) ∧ Jx (pre ++ [x]) W'))
    (hbx : W.cell? ⟨Bn, 0, none⟩ = some (.slice A n c)) (hL : Lks W n₀ A n L) (hnc : n ≤ c) (hfit : ∀ x ∈ L, Ch.fit x) (hLd : Laid W) (h0 : J [] W) :
    CallsIn Fence.wide m Tryd.prog 37 #[.func (.yield l) #[] #[], .pointer (some ⟨Bn, 0, none⟩)] W fun e W' => (∃ v, e = .returned v) ∧
      ((∃ ys, ys = List.range n ∧ J ys W') ∨ (∃ pre, (∃ k, k < n ∧ pre = List.range (k + 1)) ∧ Jx pre W')) := by
  refine callsIn_of_wp Tryd.func37 rfl trivial ?_ rfl
  simp only [Tryd.ntmps37, List.size_toArray, List.length_cons, List.length_nil, Nat.reduceAdd, Nat.reduceSub, Array.replicate_succ, Array.replicate_zero, List.push_toArray, List.append_toArray, List.nil_append, List.cons_append]
  have HLL := Lib.hid hL
  have HY := Lib.hid hY
  have HFI := Lib.hid hfit
  have HBX := Lib.hid hbx
  clear hL hY hfit
  gi_wp2
  clear hbx
  gi_loopw [7] (fun i wr => ∃ k : Nat, k ≤ n ∧ i = .int .i64 k ∧ J (List.range k) wr ∧ Below n₀ W wr ∧ W.heap.size ≤ wr.heap.size ∧ wr.cell? ⟨Bn, 0, none⟩ = some (.slice A n c)) (fun i _ => n - (intOf i).toNat)
  case atStart => exact ⟨0, Nat.zero_le _, rfl, h0, Below.refl _ _, Nat.le_refl _, HBX.out⟩
  case round =>
    clear h0
    obtain ⟨k, hk, rfl, hJs, hkp, hBs, hcb⟩ := hrel
    have HCB := Lib.hid hcb
    clear hcb
    by_cases hlt : k < n
    · obtain ⟨x, hx⟩ : ∃ x, L[k]? = some x := ⟨_, List.getElem?_eq_getElem (by rw [HLL.out.len]; exact hlt)⟩
      have hLr := HLL.out.below hkp
      obtain ⟨b, o, rfl, hbb0, hcx⟩ := hLr.at hx
      have hxm := List.mem_of_getElem? hx
      have hok := hLr.all x hxm
      have hlen := LkV.cells_length hok
      have hone := x.one
      have HGK : Ch.gk L k = x := by unfold Ch.gk; rw [List.getD_eq_getElem?_getD, hx]; rfl
      have hcw : ∀ (j : Nat) (v : Value), x.cells[j]? = some v → wr.cell? ((⟨b, o + k * 35, none⟩ : Addr).add j) = some v := fun j v hv => by
        rw [Addr.add_flat]; exact hcx j v hv
      obtain ⟨CS, hCS⟩ : ∃ CS, x.cells = CS := ⟨_, rfl⟩
      have HGC : Hid ((Ch.gk L k).cells = CS) := by show _ = _; rw [HGK, hCS]
      rw [hCS] at hlen hone hcw
      have hbr : wr.cell? ⟨Bn, 0, none⟩ = some (.slice (some ⟨b, o, none⟩) n c) := HCB.out
      have HLEN := Lib.hid hlen
      have HI : Hid ((Tryd.prog.info? 37).map (·.size) = some CS.length) := by show _ = _; rw [hlen]; exact info_link
      have HCW := Lib.hid hcw
      have HONE := Lib.hid hone
      have HBR := Lib.hid hbr
      have HLR := Lib.hid hLr
      have HXX := Lib.hid hx
      clear hcx hlen hone hcw hCS hbr hLr hok hxm hx HGK
      have hk1 : (0 : Int) ≤ (k : Int) := by omega
      have hk2 : (k : Int) < (n : Int) := by omega
      have hk3 : (k : Int) ≤ (c : Int) := by omega
      gi_wp2_with (first
        | (refine wpListIn_load_cells rfl 37 (.tmp 10) rfl ⟨b, o + k * 35, none⟩ (by rfl) CS _ HCW.out Tryd.underlying37 (by rfl) HI.out ?_)
        | (refine wpListIn_store_cells rfl 37 (.tmp 4) (.tmp 11) rfl wr.heap.size CS (by rfl) (by rfl) 37 _ (heap_alloc_new wr _) (by rw [HLEN.out]; rfl) HI.out HONE.out ?_; intro w2 hR2 hg2 _)
        | fail)
      obtain ⟨X, hX⟩ : ∃ X, wr.heap.size = X := ⟨_, rfl⟩
      rw [hX] at hR2 hg2
      have hXW : n₀ ≤ X := by omega
      have hgw : wr.grownBy w2 none := grown_then (World.grownBy_alloc wr _ none) hg2 (fun i e => by injection e with e; left; omega)
      have hbw2 : Below n₀ wr w2 := ⟨hgw.os, hgw.tape, hgw.output, hgw.size, fun q hq => hgw.block q (by omega) (by simp)⟩
      have hBw : Below n₀ W w2 := hkp.trans hbw2
      have hJ2 := hJ _ _ _ none hJs hgw (fun r e => by cases e)
      have hXs : X < w2.heap.size := hR2.lt
      obtain ⟨U, hU⟩ : ∃ U, Ch.head K (L.take k) = U := ⟨_, rfl⟩
      have hh := fun w h1 h2 => head_any K (some ⟨b, o, none⟩) k c (L.take k) w h1 (by omega) (fun y hy => HFI.out y (List.mem_of_mem_take (List.mem_of_getLast? hy))) h2
      rw [hU] at hh
      have HHC := Lib.hid hh
      have HLK : Hid (Lks w2.drew w2.drew.heap.size (some ⟨b, o, none⟩) k (L.take k)) := (((HLL.out.below hBw).take hk).more (by have := hBw.size; omega) : Lks w2 w2.heap.size (some ⟨b, o, none⟩) k (L.take k)) |> fun h => ⟨h.len, fun x hx => ⟨(h.all x hx).plen, (h.all x hx).pbyt, (h.all x hx).dbyt, (h.all x hx).rd, (h.all x hx).cap, (h.all x hx).room⟩, h.rd⟩
      have hLw := hLd.below hBw hn2
      have HLD : Hid (Laid w2.drew) := ⟨hLw.start, hLw.nums, hLw.size⟩
      obtain ⟨C, hC⟩ : ∃ C : Nat → World → Prop, C = fun _ w' => ∀ (j : Nat) (v : Value), CS[j]? = some v → w'.cell? ((⟨X, 0, none⟩ : Addr).add j) = some v := ⟨_, rfl⟩
      have hc2 : ∀ (j : Nat) (v : Value), CS[j]? = some v → w2.cell? ((⟨X, 0, none⟩ : Addr).add j) = some v := fun j v hv => by rw [Addr.add_flat, Nat.zero_add]; exact hR2.cell hv
      have HC : Hid (∀ e, C e w2.drew) := by show ∀ e, _; intro e; rw [hC]; exact hc2
      have G1 : Hid (∀ e w', C e w' → ∀ (j : Nat) (v : Value), CS[j]? = some v → w'.cell? ((⟨X, 0, none⟩ : Addr).add j) = some v) := by show ∀ e w', _; intro e w' h; rw [hC] at h; exact h
      have hbn : w2.drew.cell? ⟨Bn, 0, none⟩ = some (.slice (some ⟨b, o, none⟩) n c) := hgw.cell HBR.out (by simp)
      have hbn' : w2.cell? ⟨Bn, 0, none⟩ = some (.slice (some ⟨b, o, none⟩) n c) := hbn
      have HB3 : Hid (∀ w3, Below w2.drew.heap.size w2.drew w3 → (∀ e, C e w3) ∧ YieldAt Fence.wide (m - 1) Tryd.prog l #[.agg CS.toArray, .agg (U.map (Value.int .u8)).toArray] w3 fun e W' => ∃ bb, e = .returned (.bool bb) ∧ ((bb = true ∧ J (List.range (k + 1)) W' ∧ Below n₀ W W' ∧ W.heap.size ≤ W'.heap.size ∧ W'.cell? ⟨Bn, 0, none⟩ = some (.slice (some ⟨b, o, none⟩) n c)) ∨ (bb = false ∧ Jx (List.range (k + 1)) W'))) := by
        show ∀ w3, _
        intro w3 hb3
        have hb3' : Below w2.heap.size w2 w3 := ⟨hb3.os, hb3.tape, hb3.output, hb3.size, hb3.block⟩
        have hJ3 := hJ _ _ _ none hJ2 (grown_below hb3') (fun r e => by cases e)
        refine ⟨fun e => by rw [hC]; exact fun j v hv => (hb3'.cell (p := (⟨X, 0, none⟩ : Addr).add j) (by rw [Addr.add_flat]; exact hXs)).trans (hc2 j v hv), ?_⟩
        have h := HY.out (List.range k) k w3 hJ3 (by simpa using hlt)
        unfold encB at h
        rw [HGC.out, hU] at h
        have hB3 := hBw.trans (hb3'.mono (by have := hBw.size; omega))
        refine h.mono fun e W' h => ?_
        rcases h with ⟨rfl, h1, h2⟩ | ⟨rfl, h1⟩
        · exact ⟨true, rfl, .inl ⟨rfl, by rw [List.range_succ]; exact h1, hB3.trans h2.1, by have := h2.1.size; have := hb3'.size; have := hgw.size; omega, h2.2.trans ((hb3'.cell (p := ⟨Bn, 0, none⟩) (by show Bn < _; have := hgw.size; omega)).trans hbn)⟩⟩
        · exact ⟨false, rfl, .inr ⟨rfl, by rw [List.range_succ]; exact h1⟩⟩
      rw [hX]
      clear hc2 hC hR2 hg2 hgw hbw2 hBw hJ2 hh hU hLw hJs
      dsimp only [Act.put]
      refine wpIn_region_T C 8 #[false, false, false, false, false, false, false, false] (by as_aux_lemma => kernel_rfl) ?_
      refine wpAnyT_take (i := 0) (.func (.yield l) #[] #[]) #[true, false, false, false, false, false, false, false] op0 (by as_aux_lemma => kernel_rfl) (fun _ _ _ h => h) (fun _ => rfl) (Or.inl ⟨by rfl, (by intro w' hw'; go_simp)⟩) HC.out ?_
      try simp only [Act.put, List.setIfInBounds_toArray, List.set_cons_zero, List.set_cons_succ]
      refine wpAnyT_take (i := 1) (.agg CS.toArray) #[true, true, false, false, false, false, false, false] (opS op0) (by as_aux_lemma => kernel_rfl) (fun _ _ _ h => h) (fun _ => rfl) (Or.inl ⟨by rfl, (by intro w' hw'; exact run_load_exec 37 (.tmp 4) (by rfl) ⟨X, 0, none⟩ (by rfl) CS _ (G1.out _ _ hw') Tryd.underlying37 (by rfl) HI.out)⟩) HC.out ?_
      try simp only [Act.put, List.setIfInBounds_toArray, List.set_cons_zero, List.set_cons_succ]
      refine wpAnyT_two [1, 0] [1, 0] #[true, true, true, false, false, false, false, false] #[true, true, false, true, false, false, false, false] (opS (opS op0)) (opS (opS (opS op0))) (by as_aux_lemma => kernel_rfl) (fun K hK => ?_) (fun K hK => ?_)
      · go_simp
        refine hK.out _ _ (fun e _ => HC.out e) ?_
        clear hK K
        try simp only [Act.put, List.setIfInBounds_toArray, List.set_cons_zero, List.set_cons_succ]
        refine wpAnyT_one (i := 3) [1, 0] #[true, true, true, true, false, false, false, false] (opS (opS (opS op0))) (by as_aux_lemma => kernel_rfl) (fun K hK => ?_)
        go_simp
        refine hK.out _ _ (fun e _ => HC.out e) ?_
        clear hK K
        try simp only [Act.put, List.setIfInBounds_toArray, List.set_cons_zero, List.set_cons_succ]
        refine wpAnyT_take (i := 4) (.slice (some ⟨b, o, none⟩) k c) #[true, true, true, true, true, false, false, false] (opS (opS (opS (opS op0)))) (by as_aux_lemma => kernel_rfl) (fun _ _ _ h => h) (fun _ => rfl) (Or.inl ⟨by rfl, (by intro w' hw'; go_simp)⟩) HC.out ?_
        try simp only [Act.put, List.setIfInBounds_toArray, List.set_cons_zero, List.set_cons_succ]
        refine wpAnyT_one (i := 5) [1, 0] #[true, true, true, true, true, true, false, false] (opS (opS (opS (opS (opS op0))))) (by as_aux_lemma => kernel_rfl) (fun K hK => ?_)
        go_simp
        refine ⟨trivial, fun h => (by simp [Fence.wide] at h), (callsIn_wide.2 (HHC.out _ HLK.out HLD.out)).mono ?_⟩
        rintro e w3 ⟨rfl, hb3⟩
        obtain ⟨hCa, fn, tmps, assign, body, hy, hR⟩ := HB3.out w3 hb3
        refine hK.out _ _ (fun e _ => hCa e) ?_
        clear hK K
        try simp only [Act.put, List.setIfInBounds_toArray, List.set_cons_zero, List.set_cons_succ]
        refine wpAnyT_one (i := 6) [] #[true, true, true, true, true, true, true, false] (opS (opS (opS (opS (opS (opS op0)))))) (by as_aux_lemma => kernel_rfl) (fun K hK => ?_)
        go_simp
        refine ⟨fun h => (by simp [Fence.wide] at h), hR.mono ?_⟩
        rintro e w4 ⟨bb, rfl, hbb⟩
        refine hK.out _ _ (fun e he => (by simp at he)) ?_
        clear hK K
        try simp only [Act.put, List.setIfInBounds_toArray, List.set_cons_zero, List.set_cons_succ]
        refine wpAnyT_one (i := 7) [] #[true, true, true, true, true, true, true, true] (opS (opS (opS (opS (opS (opS (opS op0))))))) (by as_aux_lemma => kernel_rfl) (fun K hK => ?_)
        go_simp
        refine hK.out _ _ (fun e he => (by simp at he)) ?_
        clear hK K
        try simp only [Act.put, List.setIfInBounds_toArray, List.set_cons_zero, List.set_cons_succ]
        refine wpAnyT_done (by as_aux_lemma => kernel_rfl) ?_ _
        cases bb with
        | true =>
          obtain ⟨_, hJ5, hB5, hS5, hC5⟩ : True ∧ J (List.range (k + 1)) w4 ∧ Below n₀ W w4 ∧ W.heap.size ≤ w4.heap.size ∧ w4.cell? ⟨Bn, 0, none⟩ = some (.slice (some ⟨b, o, none⟩) n c) := by
            rcases hbb with ⟨_, h1, h2, h3, h4⟩ | ⟨h0, _⟩
            · exact ⟨trivial, h1, h2, h3, h4⟩
            · cases h0
          gi_wp2
          go_roundw
          case rel => exact ⟨k + 1, by omega, by go_num, hJ5, hB5, hS5, hC5⟩
          case measure => simp [intOf]; omega
        | false =>
          have hx5 : Jx (List.range (k + 1)) w4 := by
            rcases hbb with ⟨h0, _⟩ | ⟨_, h1⟩
            · cases h0
            · exact h1
          gi_wp2
          refine bodyPost_ret (results_none rfl _ _ _) rfl ?_
          exact ⟨⟨_, rfl⟩, .inr ⟨_, ⟨k, hlt, rfl⟩, (by rw [List.range_succ] at hx5; exact hx5)⟩⟩
      · go_simp
        refine hK.out _ _ (fun e _ => HC.out e) ?_
        clear hK K
        try simp only [Act.put, List.setIfInBounds_toArray, List.set_cons_zero, List.set_cons_succ]
        refine wpAnyT_one (i := 2) [1, 0] #[true, true, true, true, false, false, false, false] (opS (opS op0)) (by as_aux_lemma => kernel_rfl) (fun K hK => ?_)
        go_simp
        refine hK.out _ _ (fun e _ => HC.out e) ?_
        clear hK K
        try simp only [Act.put, List.setIfInBounds_toArray, List.set_cons_zero, List.set_cons_succ]
        refine wpAnyT_take (i := 4) (.slice (some ⟨b, o, none⟩) k c) #[true, true, true, true, true, false, false, false] (opS (opS (opS (opS op0)))) (by as_aux_lemma => kernel_rfl) (fun _ _ _ h => h) (fun _ => rfl) (Or.inl ⟨by rfl, (by intro w' hw'; go_simp)⟩) HC.out ?_
        try simp only [Act.put, List.setIfInBounds_toArray, List.set_cons_zero, List.set_cons_succ]
        refine wpAnyT_one (i := 5) [1, 0] #[true, true, true, true, true, true, false, false] (opS (opS (opS (opS (opS op0))))) (by as_aux_lemma => kernel_rfl) (fun K hK => ?_)
        go_simp
        refine ⟨trivial, fun h => (by simp [Fence.wide] at h), (callsIn_wide.2 (HHC.out _ HLK.out HLD.out)).mono ?_⟩
        rintro e w3 ⟨rfl, hb3⟩
        obtain ⟨hCa, fn, tmps, assign, body, hy, hR⟩ := HB3.out w3 hb3
        refine hK.out _ _ (fun e _ => hCa e) ?_
        clear hK K
        try simp only [Act.put, List.setIfInBounds_toArray, List.set_cons_zero, List.set_cons_succ]
        refine wpAnyT_one (i := 6) [] #[true, true, true, true, true, true, true, false] (opS (opS (opS (opS (opS (opS op0)))))) (by as_aux_lemma => kernel_rfl) (fun K hK => ?_)
        go_simp
        refine ⟨fun h => (by simp [Fence.wide] at h), hR.mono ?_⟩
        rintro e w4 ⟨bb, rfl, hbb⟩
        refine hK.out _ _ (fun e he => (by simp at he)) ?_
        clear hK K
        try simp only [Act.put, List.setIfInBounds_toArray, List.set_cons_zero, List.set_cons_succ]
        refine wpAnyT_one (i := 7) [] #[true, true, true, true, true, true, true, true] (opS (opS (opS (opS (opS (opS (opS op0))))))) (by as_aux_lemma => kernel_rfl) (fun K hK => ?_)
        go_simp
        refine hK.out _ _ (fun e he => (by simp at he)) ?_
        clear hK K
        try simp only [Act.put, List.setIfInBounds_toArray, List.set_cons_zero, List.set_cons_succ]
        refine wpAnyT_done (by as_aux_lemma => kernel_rfl) ?_ _
        cases bb with
        | true =>
          obtain ⟨_, hJ5, hB5, hS5, hC5⟩ : True ∧ J (List.range (k + 1)) w4 ∧ Below n₀ W w4 ∧ W.heap.size ≤ w4.heap.size ∧ w4.cell? ⟨Bn, 0, none⟩ = some (.slice (some ⟨b, o, none⟩) n c) := by
            rcases hbb with ⟨_, h1, h2, h3, h4⟩ | ⟨h0, _⟩
            · exact ⟨trivial, h1, h2, h3, h4⟩
            · cases h0
          gi_wp2
          go_roundw
          case rel => exact ⟨k + 1, by omega, by go_num, hJ5, hB5, hS5, hC5⟩
          case measure => simp [intOf]; omega
        | false =>
          have hx5 : Jx (List.range (k + 1)) w4 := by
            rcases hbb with ⟨h0, _⟩ | ⟨_, h1⟩
            · cases h0
            · exact h1
          gi_wp2
          refine bodyPost_ret (results_none rfl _ _ _) rfl ?_
          exact ⟨⟨_, rfl⟩, .inr ⟨_, ⟨k, hlt, rfl⟩, (by rw [List.range_succ] at hx5; exact hx5)⟩⟩
    · obtain rfl : k = n := by omega
      have k9 : ¬ (k : Int) < (k : Int) := by omega
      gi_wp2
      go_end0
      exact ⟨⟨_, rfl⟩, .inl hJs⟩
end Go.Proofs.YtpjggokaolnbcaaDoor
