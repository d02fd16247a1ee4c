/- slices.Grow and slices.Concat at bytes (two slices), and digest.Tagged. -/
import Derived.Test.YtpjggokaolnbcaaDoorDigSum
import Derived.Test.YtpjggokaolnbcaaDoorOne
import Derived.Lib.AppendZerosOnto
import Derived.Lib.ConvBytes
import Derived.Lib.SliceRun
namespace Go.Proofs.YtpjggokaolnbcaaDoor
open Go.RowKit
set_option linter.unusedVariables false
theorem infoU8 : (Tryd.prog.info? 5).map (fun i => (i.zero, i.size, i.bytes)) = some (some (.int .u8 0), 1, 1) := by kernel_rfl
def GrowPost (w : World) (e : Ending) (w' : World) : Prop := ∃ G : Nat, e = .returned (.slice (some ⟨w.heap.size, 0, none⟩) 0 G) ∧ w'.ownsRow w.heap.size 5 1 (.slice (some ⟨w.heap.size, 0, none⟩) 0 G) 0 [] ∧ Below w.heap.size w w'
set_option maxRecDepth 100000 in
set_option maxHeartbeats 1000000 in
theorem grow_nil (n : Nat) (h1 : 1 ≤ n) (h2 : n ≤ 1000000) (w : World) : Calls Tryd.prog 43 #[.slice none 0 0, .int .i64 n] w (GrowPost w) := by
  obtain ⟨i0, hi, hz0, hz1, hz2⟩ := info_parts infoU8
  have hrz : ∀ ty, (Builtin.append_ #[23, 3] ty #[.slice none 0 0, .int .i64 n]).run Tryd.prog w =
      .ok (.slice (some ⟨w.heap.size, 0, none⟩) n (grownCap w n 0 5)) (w.drew.alloc (.cells (#[] ++ Builtin.zeroCells (Value.int .u8 0).cells n ++ Builtin.zeroCells (Value.int .u8 0).cells (grownCap w n 0 5 - n)) 5)) := fun ty => by
    have h := Lib.run_append_grow_zeros w 23 3 ty 5 i0 (.int .u8 0) .i64 .i64 Tryd.underlying23 Tryd.underlying3 hi hz0 none 0 0 [] (run_firstCells_none w.drew i0.size 0 0 0) n h1 (by rw [hz1]; decide) (by omega) (by omega) (by rw [hz2]; omega)
      (by rw [hz2]; exact growslice_fits (by omega) (by omega))
    simpa using h
  have hG := grownCap_ge w n 0 5
  have hGm := grownCap_le_maxLen w n 0 5 (by unfold maxLen; omega)
  obtain ⟨G, hGe⟩ : ∃ G, G = grownCap w n 0 5 := ⟨_, rfl⟩
  rw [← hGe] at hrz hG hGm
  have hcz : (#[] ++ Builtin.zeroCells (Value.int .u8 0).cells n ++ Builtin.zeroCells (Value.int .u8 0).cells (G - n)).size = G := by
    simp only [Array.size_append, size_zeroCells]; simp [Value.cells]; omega
  obtain ⟨cz, hcze⟩ : ∃ c, #[] ++ Builtin.zeroCells (Value.int .u8 0).cells n ++ Builtin.zeroCells (Value.int .u8 0).cells (G - n) = c := ⟨_, rfl⟩
  rw [hcze] at hrz hcz
  clear hcze hGe
  have HC := Lib.hid hcz
  have HG := Lib.hid hGm
  have hG9 : (G : Int) ≤ 9223372036854775807 := by unfold maxLen at hGm; omega
  clear hcz hGm
  go_enter Tryd.func43, Tryd.ntmps43
  go_wp2_with (at_builtin; refine Lib.wpList_append_run _ rfl _ _ _ _ rfl _ _ rfl rfl _ _ (hrz _) ?_)
  go_ret
  refine ⟨G, rfl, ⟨by simp, .inr ⟨w.heap.size, G, cz, rfl, Nat.le_refl _, heap_alloc_new w.drew _, Nat.zero_le _, HG.out, by rw [HC.out, Nat.mul_one], by simp⟩⟩, (Below.refl _ w).drew.alloc (Nat.le_refl _) _⟩
/-- what a call leaves that hands back a new slice of bytes -/
def BytesPost (bs : List Int) (w : World) (e : Ending) (w' : World) : Prop :=
  ∃ (A : Option Addr) (c : Nat), e = .returned (.slice A bs.length c) ∧ Rd w' w'.heap.size 1 A bs.length (bs.map (Value.int .u8)) ∧ bs.length ≤ c ∧ c ≤ maxLen ∧ Below w.heap.size w w'
theorem own_slice' {w : World} {base : Nat} {e : TypeId} {v : Value} {size n : Nat} {xs : List Value} (h : w.ownsRow base e size v n xs) : ∃ A c, v = .slice A n c ∧ Rd w w.heap.size size A n xs ∧ n ≤ c ∧ c ≤ maxLen := by
  have h0 := h
  rcases h.2 with ⟨rfl, rfl⟩ | ⟨g, cap, cur, rfl, _, _, h1, h2, _⟩
  · exact ⟨_, _, rfl, ⟨h0.1, fun h => absurd h (by omega)⟩, Nat.le_refl _, Nat.zero_le _⟩
  · exact ⟨_, _, rfl, Rd.of_own h0, h1, h2⟩
theorem u8_one (l : List Int) : ∀ u ∈ l.map (Value.int .u8), u.oneCell' = true := by
  intro u hu
  obtain ⟨x, _, rfl⟩ := List.mem_map.1 hu
  rfl
set_option maxRecDepth 100000 in
set_option maxHeartbeats 1000000 in
theorem concat2 (g : Nat) (A1 A2 : Option Addr) (n1 n2 c1 c2 : Nat) (x1 x2 : List Int) (w : World) (h1 : w.cell? ⟨g, 0, none⟩ = some (.slice A1 n1 c1)) (h2 : w.cell? ⟨g, 1, none⟩ = some (.slice A2 n2 c2))
    (r1 : Rd w w.heap.size 1 A1 n1 (x1.map (Value.int .u8))) (r2 : Rd w w.heap.size 1 A2 n2 (x2.map (Value.int .u8))) (hp : 1 ≤ n1 + n2) (hn : n1 + n2 ≤ 1000000) (hg : g < w.heap.size) :
    Calls Tryd.prog 33 #[.slice (some ⟨g, 0, none⟩) 2 2] w (BytesPost (x1 ++ x2) w) := by
  obtain ⟨i0, hi, hz0, hz1, hz2⟩ := info_parts infoU8
  have l1 : x1.length = n1 := by simpa using r1.1
  have l2 : x2.length = n2 := by simpa using r2.1
  have L1 := Lib.hid l1
  have L2 := Lib.hid l2
  clear l1 l2
  have b1 : (n1 : Int) ≤ 1000000 := by omega
  have b2 : (n2 : Int) ≤ 1000000 := by omega
  have b3 : (1 : Int) ≤ (n1 : Int) + n2 := by omega
  have hgn : ∀ w, Calls Tryd.prog 43 #[.slice none 0 0, .int .i64 ((n1 : Int) + n2)] w (GrowPost w) := fun w => by
    have h := grow_nil (n1 + n2) hp hn w
    rwa [Int.natCast_add] at h
  have HR1 := Lib.hid r1
  have HR2 := Lib.hid r2
  clear r1 r2
  go_enter Tryd.func33, Tryd.ntmps33
  go_wp2
  refine wp_loop_rounds 3 ?_
  rw [rounds_succ]
  go_wp2
  rw [rounds_succ]
  go_wp2
  rw [rounds_succ]
  go_wp2_with fail
  refine (hgn _).mono ?_
  rintro e w1 ⟨G, rfl, hown, hb⟩
  have T : One w w.heap.size w1 5 1 _ 0 [] := ⟨hown, hb, hb.size⟩
  clear hown hgn
  have h1 := (hb.cell (p := ⟨g, 0, none⟩) hg).trans h1
  have h2a := (hb.cell (p := ⟨g, 1, none⟩) hg).trans h2
  go_wp2
  refine wp_loop_rounds 3 ?_
  rw [rounds_succ]
  go_wp2_with (at_builtin; refine wpList_append_rd _ rfl (.tmp 31) (.tmp 32) 23 rfl w.heap.size 5 i0 _ 1 1 Tryd.underlying23 hi hz0 hz1 hz2 rfl (by omega) _ 0 _ (by rfl) T.own w.heap.size _ n1 _ _ (by rfl) (HR1.out.below T.bel) (u8_one _) (by unfold maxLen; omega) (by omega) T.size ?_; intro v2 w2 hown2 hg2 _)
  have T2 := T.grew hown2 hg2
  clear hown2 hg2 T h1 h2a
  have h2b := (T2.bel.cell (p := ⟨g, 1, none⟩) hg).trans h2
  rw [rounds_succ]
  go_wp2_with (at_builtin; refine wpList_append_rd _ rfl (.tmp 31) (.tmp 32) 23 rfl w.heap.size 5 i0 _ 1 1 Tryd.underlying23 hi hz0 hz1 hz2 rfl (by omega) _ (0 + n1) _ (by rfl) T2.own w.heap.size _ n2 _ _ (by rfl) (HR2.out.below T2.bel) (u8_one _) (by unfold maxLen; omega) (by omega) T2.size ?_; intro v3 w3 hown3 hg3 _)
  have T3 := T2.grew hown3 hg3
  clear hown3 hg3 T2 h2b
  rw [rounds_succ]
  obtain ⟨A, c, rfl, hR, hlc, hcm⟩ := own_slice' T3.own
  go_wp2
  go_ret
  refine ⟨A, c, ?_, ?_, ?_, hcm, T3.bel⟩
  · have e1 := L1.out
    have e2 := L2.out
    rw [List.length_append, e1, e2]
    first | done | rfl | simp
  · rw [List.length_append, L1.out, L2.out, List.map_append]
    rw [Nat.zero_add] at hR
    exact hR
  · rw [List.length_append, L1.out, L2.out]; omega
theorem wpList_store_ints {P : Program} {ops : Array Oper} {rest : List Oper} {o : Oper} {a : Act} {w : World} {Q : Exit → Act → World → Prop} (hgd : o.guard = none) (ty : TypeId) (x y : Operand) (ho : o.op = .store ty x y)
    (g : Nat) (k : IntKind) (l : List Int) (hx : a.eval x = .pointer (some ⟨g, 0, none⟩)) (hy : a.eval y = .agg (l.map (Value.int k)).toArray)
    (t : TypeId) (l0 : List Int) (hg : Ints w g t k l0) (hl : l0.length = l.length) (hi : (P.info? ty).map (·.size) = some l.length)
    (h : ∀ w', Ints w' g t k l → w.grownBy w' (some g) → wpList P ops Q rest (a.put o.dst undef) w') : wpList P ops Q (o :: rest) a w :=
  wpList_store_row hgd ty x y ho g _ hx hy t _ hg (by simpa using hi) (by simpa using hl) (ints_one k l) (h _ (setRow_heap w g _ _ t _ hg) (grown_row _))
def strInts (s : ByteArray) : List Int := s.data.toList.map fun b => (b.toNat : Int)
theorem strInts_length (s : ByteArray) : (strInts s).length = s.size := by simp [strInts]
theorem strInts_byt (s : ByteArray) : ∀ x ∈ strInts s, 0 ≤ x ∧ x < 256 := by
  intro x hx
  obtain ⟨b, _, rfl⟩ := List.mem_map.1 hx
  have := b.toNat_lt
  omega
/-- '[]byte(s)' : the new slice reads as the string's bytes -/
theorem conv_bytes (w : World) (s : ByteArray) : Rd (Lib.bytesWorld w 5 s) (Lib.bytesWorld w 5 s).heap.size 1 (some ⟨w.heap.size, 0, none⟩) s.size ((strInts s).map (Value.int .u8)) ∧ Below w.heap.size w (Lib.bytesWorld w 5 s) := by
  refine ⟨⟨by simp [strInts_length], fun hn => ⟨w.heap.size, 0, rfl, by rw [Lib.bytesWorld_size]; omega, fun j u hu => ?_⟩⟩, ⟨rfl, rfl, rfl, by rw [Lib.bytesWorld_size]; omega, fun k hk => Lib.bytesWorld_at_old w _ s k hk⟩⟩
  rw [List.getElem?_map, Option.map_eq_some_iff] at hu
  obtain ⟨x, hx, rfl⟩ := hu
  have hj : j < s.size := by have := (List.getElem?_eq_some_iff.1 hx).1; rwa [strInts_length] at this
  rw [Nat.zero_add, Lib.bytesWorld_cell w _ s j hj]
  unfold strInts at hx
  rw [List.getElem?_map, Option.map_eq_some_iff] at hx
  obtain ⟨b, hb, rfl⟩ := hx
  rw [List.getD_eq_getElem?_getD, hb]; rfl
namespace Sh
def tagged (c : Cst) (t bs : List Int) : List Int := sum c (sum c t ++ bs)
theorem tagged_length (c : Cst) (t bs : List Int) : (tagged c t bs).length = 32 := sum_length _ _
theorem out_bytes (s : List Int) : ∀ q, ∀ x ∈ out s q, Byt x
  | 0 => fun x hx => by have := List.eq_of_mem_replicate hx; subst this; exact ⟨by decide, by decide⟩
  | q + 1 => put_bytes (out_bytes s q) _ _ _ _
theorem sum_bytes (c : Cst) (bs : List Int) : ∀ x ∈ sum c bs, Byt x := out_bytes _ _
end Sh
set_option maxRecDepth 100000 in
set_option maxHeartbeats 2000000 in
theorem tagged_any (K : Sh.Cst) (s : ByteArray) (A : Option Addr) (n cap : Nat) (bs : List Int) (w : World) (hs : s.size ≤ 1000) (hr : Rd w w.heap.size 1 A n (bs.map (Value.int .u8))) (hbb : ∀ x ∈ bs, 0 ≤ x ∧ x < 256)
    (hn : n ≤ 100000) (hnc : n ≤ cap) (hcap : cap ≤ maxLen) (hL : Laid w) :
    Calls Tryd.prog 19 #[.string s, .slice A n cap] w fun e w' => e = .returned (.agg ((Sh.tagged K (strInts s) bs).map (Value.int .u8)).toArray) ∧ Below w.heap.size w w' := by
  have hcv := fun W => Lib.run_convert_string_bytes (P := Tryd.prog) W 9 23 5 s Tryd.underlying9 Tryd.underlying23 Tryd.underlying5
  go_enter Tryd.func19, Tryd.ntmps19
  have hcb := conv_bytes (w.alloc (.cells ((List.replicate 32 (0 : Int)).map (Value.int .u8)).toArray 35)) s
  have hc1 := grownCap_ge (w.alloc (.cells ((List.replicate 32 (0 : Int)).map (Value.int .u8)).toArray 35)) s.size 0 5
  have hc2 := grownCap_le_maxLen (w.alloc (.cells ((List.replicate 32 (0 : Int)).map (Value.int .u8)).toArray 35)) s.size 0 5 (by unfold maxLen; omega)
  rw [World.size_alloc] at hcb
  obtain ⟨hR1, hb1⟩ := hcb
  have hB1 := ((Below.refl w.heap.size w).alloc (Nat.le_refl _) (.cells ((List.replicate 32 (0 : Int)).map (Value.int .u8)).toArray 35)).trans (hb1.mono (by omega))
  have hD := (Ints.new w 35 .u8 (List.replicate 32 0)).below hb1 (by omega)
  have HR := Lib.hid hr
  clear hb1 hr
  have HF := Lib.hid (And.intro hR1 (And.intro hc1 (And.intro hc2 (And.intro hB1 hD))))
  clear hR1 hc1 hc2 hB1 hD
  go_wp2_with fail
  obtain ⟨hR1, hc1, hc2, hB1, hD⟩ := HF.out
  refine (sum_any K _ s.size _ (strInts s) _ hR1 (strInts_byt s) (by omega) hc1 hc2 (hL.below hB1 hL.size)).mono ?_
  rintro e w2 ⟨rfl, hb2⟩
  have hD2 := hD.below hb2 hD.lt
  have hB2 := hB1.trans (hb2.mono hB1.size)
  have hs2 := Nat.le_trans hB1.size hb2.size
  have hdw := hD2.lt
  clear HF hR1 hc1 hc2 hB1 hD hb2 hcv
  have hT := Sh.sum_length K (strInts s)
  have hTb := Sh.sum_bytes K (strInts s)
  obtain ⟨T, hTe⟩ : ∃ T, Sh.sum K (strInts s) = T := ⟨_, rfl⟩
  rw [hTe] at hT hTb ⊢
  have HTE := Lib.hid hTe
  have hi73 : (Tryd.prog.info? 35).map (·.size) = some T.length := by rw [hT]; kernel_rfl
  have HT := Lib.hid hT
  have HTB := Lib.hid hTb
  clear hTe hT hTb
  have hN := Ints.new w2 35 .u8 (List.replicate 32 0)
  go_wp2_with (refine wpList_store_ints rfl 35 (.tmp 5) (.tmp 8) rfl w2.heap.size .u8 T (by rfl) (by rfl) 35 _ hN (by rw [HT.out]; rfl) hi73 ?_; intro w3 hN3 hg3)
  have hs23 : w2.heap.size < w3.heap.size := hN3.lt
  have hD3 := (hD2.alloc _).grown hg3 (by simp; omega)
  have hB3 := (hB2.alloc hs2 _).grown hg3 (by simp; omega) (fun g e => by injection e with e; omega)
  have r1 : Rd w3 w3.heap.size 1 (some ⟨w2.heap.size, 0, none⟩) 32 (T.map (Value.int .u8)) := by
    have h := hN3.rd 0 32 (by rw [HT.out]; omega)
    rw [List.drop_zero, List.take_of_length_le (by rw [HT.out]; omega)] at h
    exact h
  have r2 := (HR.out.below hB3).more hB3.size
  have r1 := (r1.alloc (Nat.le_refl _) (.cells #[.slice (some ⟨w2.heap.size, 0, none⟩) 32 32, .slice A n cap] 23)).more (B' := (w3.alloc (.cells #[.slice (some ⟨w2.heap.size, 0, none⟩) 32 32, .slice A n cap] 23)).heap.size) (by simp)
  have r2 := (r2.alloc (Nat.le_refl _) (.cells #[.slice (some ⟨w2.heap.size, 0, none⟩) 32 32, .slice A n cap] 23)).more (B' := (w3.alloc (.cells #[.slice (some ⟨w2.heap.size, 0, none⟩) 32 32, .slice A n cap] 23)).heap.size) (by simp)
  refine (concat2 w3.heap.size _ _ 32 n 32 cap T bs _ (alloc_cell0 w3 _ [.slice A n cap] _) (alloc_cell1 w3 _ _ [] _) r1 r2 (by omega) (by omega) (by simp)).mono ?_
  rintro e w4 ⟨A4, c4, rfl, hR4, hl4, hc4, hb4⟩
  have hD4 := (hD3.alloc (.cells #[.slice (some ⟨w2.heap.size, 0, none⟩) 32 32, .slice A n cap] 23)).below hb4 (by simp; have := hD3.lt; omega)
  have hB4 := (hB3.alloc hB3.size (.cells #[.slice (some ⟨w2.heap.size, 0, none⟩) 32 32, .slice A n cap] 23)).trans (hb4.mono (by simp; have := hB3.size; omega))
  clear r1 r2 hb4 hN hN3 hg3 hD2 hB2 hD3 hB3
  have hTl : (T ++ bs).length = 32 + n := by rw [List.length_append, HT.out]; have := HR.out.1; simp at this; omega
  have hTbb : ∀ x ∈ T ++ bs, 0 ≤ x ∧ x < 256 := fun x hx => by
    rcases List.mem_append.1 hx with h | h
    · exact HTB.out x h
    · exact hbb x h
  rw [hTl] at hR4 hl4 ⊢
  clear hTl
  have HR4 := Lib.hid hR4
  have HTBB := Lib.hid hTbb
  clear hR4 hTbb
  go_wp2_with fail
  refine (sum_any K A4 (32 + n) c4 (T ++ bs) _ HR4.out HTBB.out (by omega) hl4 hc4 (hL.below hB4 hL.size)).mono ?_
  rintro e w5 ⟨rfl, hb5⟩
  have hD5 := hD4.below hb5 hD4.lt
  have hB5 := hB4.trans (hb5.mono hB4.size)
  clear hD4 hB4 hb5
  have HG : Hid (Sh.tagged K (strInts s) bs = Sh.sum K (T ++ bs)) := by
    show _ = _
    rw [Sh.tagged, HTE.out]
  have hUl := Sh.sum_length K (T ++ bs)
  generalize Sh.sum K (T ++ bs) = U at *
  have hi73' : (Tryd.prog.info? 35).map (·.size) = some U.length := by rw [hUl]; kernel_rfl
  have HUl := Lib.hid hUl
  clear hUl hi73
  go_wp2_with (refine wpList_store_ints rfl 35 (.tmp 4) (.tmp 13) rfl w.heap.size .u8 U (by rfl) (by rfl) 35 _ hD5 (by rw [HUl.out]; rfl) hi73' ?_; intro w6 hD6 hg6)
  refine bodyPost_ret (results_cell_row rfl _ _ w.heap.size 35 _ (0, 0) _ (by rfl) hD6 Tryd.underlying35 (by rfl) (by simpa using hi73')) rfl ?_
  exact ⟨by rw [HG.out], hB5.grown hg6 hB5.size (fun g e => by injection e with e; omega)⟩
end Go.Proofs.YtpjggokaolnbcaaDoor
