/- The walk of field.At: a map, two loops, a range over a function in the second one. -/
import Derived.Test.YtdajanoikcemoaaFieldWalks3
import Derived.Test.YtdajanoikcemoaaOrd
import Derived.RangeFuncBound
import Derived.RangeFuncCalls
import Derived.Shelf.Abstract
import Derived.Shelf.RegionOpen
import Derived.OwnWalkIn
import Derived.TacticsInMore
import Derived.LoopNIn
import Derived.LoopIn
namespace Go.Proofs.Ytdajanoikcemoaa
open Go.RowKit Go.Shelf
attribute [local go_sem] Oper.semAt_some

theorem others_any (A : Option Addr) (n cap : Nat) (i : Int) (w : World) : Calls Try.prog 27 #[.slice A n cap, .int .i64 i] w fun e w' =>
    e = .returned (.func (.func 28) #[] #[.pointer (some ⟨w.heap.size, 0, none⟩), .pointer (some ⟨w.heap.size + 1, 0, none⟩)]) ∧
    (w.alloc (.cells #[.slice A n cap] 30)).alloc (.cells #[.int .i64 i] 3) = w' := by
  go_enter Try.func27, Try.ntmps27
  go_wp2
  go_ret
  exact ⟨rfl, rfl⟩
/-- cells below B stay, but for those of the blocks in ex -/
def KeepEx (B : Nat) (ex : Nat → Prop) (W W' : World) : Prop := W.heap.size ≤ W'.heap.size ∧ ∀ p : Addr, p.block < B → ¬ ex p.block → W'.cell? p = W.cell? p
theorem KeepEx.refl {B : Nat} {ex : Nat → Prop} (W : World) : KeepEx B ex W W := ⟨Nat.le_refl _, fun _ _ _ => rfl⟩
theorem KeepEx.trans {B : Nat} {ex : Nat → Prop} {X Y Z : World} (h : KeepEx B ex X Y) (k : KeepEx B ex Y Z) : KeepEx B ex X Z := ⟨Nat.le_trans h.1 k.1, fun p h1 h2 => (k.2 p h1 h2).trans (h.2 p h1 h2)⟩
theorem KeepEx.below {B : Nat} {ex : Nat → Prop} {X Y : World} (h : Below B X Y) : KeepEx B ex X Y := ⟨h.size, fun _ hp _ => h.cell hp⟩
theorem KeepEx.setCell {B : Nat} {ex : Nat → Prop} {X Y : World} (h : KeepEx B ex X Y) {q : Addr} (hq : ex q.block) (u : Value) : KeepEx B ex X (Y.setCell q u) :=
  ⟨by rw [World.size_setCell]; exact h.1, fun p h1 h2 => (World.cell?_setCell_other Y q p u (fun e => h2 (by rw [← e]; exact hq))).trans (h.2 p h1 h2)⟩
theorem KeepEx.drew {B : Nat} {ex : Nat → Prop} {X Y : World} (h : KeepEx B ex X Y) : KeepEx B ex X Y.drew := h
theorem KeepEx.alloc {B : Nat} {ex : Nat → Prop} {X Y : World} (h : KeepEx B ex X Y) (hB : B ≤ Y.heap.size) (o : Obj) : KeepEx B ex X (Y.alloc o) := h.trans (KeepEx.below ((Below.refl B Y).alloc hB o))
theorem Rd.keepEx {w w' : World} {B B' size n : Nat} {ex : Nat → Prop} {A : Option Addr} {xs : List Value} (h : Rd w B size A n xs) (hk : KeepEx B' ex w w') (hB : B ≤ B') (hex : ∀ k, k < B → ¬ ex k) : Rd w' B size A n xs :=
  h.keep fun p hp => hk.2 p (by omega) (hex _ hp)

abbrev encP (x : Fm.Pt) : Array Value := #[.agg #[.int .i64 x.1, .int .i64 x.2]]
set_option maxRecDepth 100000 in
set_option maxHeartbeats 2000000 in
theorem others1_in (F : Fence) (n : Nat) (hfn : F.fn 28) (hro : F.round = none) (hn : 1 ≤ n) (l Bl Bi B n₁ : Nat) (ex : Nat → Prop) (A : Option Addr) (len cap i0 : Nat) (pts : List Fm.Pt) (hlen : len ≤ 64)
    (hB : n₁ ≤ B) (hex : ∀ k, k < n₁ → ¬ ex k) (hBi : Bi < B) (hexi : ¬ ex Bi) (J Jx : List Fm.Pt → World → Prop) (W : World) (hJ : AbidesFrom W.heap.size J) (hBW : B ≤ W.heap.size)
    (hY : ∀ pre x W, J pre W → pre.length < len → YieldAt F (n - 1) Try.prog l (encP x) W fun e W' =>
      (e = .returned (.bool true) ∧ J (pre ++ [x]) W' ∧ KeepEx B ex W W') ∨ (e = .returned (.bool false) ∧ Jx (pre ++ [x]) W'))
    (hcl : W.cell? ⟨Bl, 0, none⟩ = some (.slice A len cap)) (hci : W.cell? ⟨Bi, 0, none⟩ = some (.int .i64 i0)) (hr : Rd W n₁ 2 A len (cellsP pts)) (h0 : J [] W) :
    CallsIn F n Try.prog 28 #[.func (.yield l) #[] #[], .pointer (some ⟨Bl, 0, none⟩), .pointer (some ⟨Bi, 0, none⟩)] W fun e W' => (∃ v, e = .returned v) ∧
      ((∃ ys, ys = Fm.so pts i0 len ∧ J ys W') ∨ (∃ pre, True ∧ Jx pre W')) := by
  refine callsIn_of_wp Try.func28 rfl hfn ?_ hro
  simp only [Try.ntmps28, List.size_toArray, List.length_cons, List.length_nil, Nat.reduceAdd, Nat.reduceSub, Array.replicate_succ, Array.replicate_zero, List.push_toArray, List.append_toArray, List.nil_append, List.cons_append]
  have HL : Hid (len = pts.length) := by show _ = _; have := hr.1; rw [cellsP_length] at this; omega
  gi_wp2
  gi_loopw [8] (fun i wr => ∃ k : Nat, k ≤ len ∧ i = .int .i64 k ∧ J (Fm.so pts i0 k) wr ∧ KeepEx B ex W wr ∧ B ≤ wr.heap.size) (fun i _ => len - (intOf i).toNat)
  case atStart => exact ⟨0, Nat.zero_le _, rfl, h0, KeepEx.refl _, hBW⟩
  case round =>
    obtain ⟨k, hk, rfl, hJs, hkp, hBs⟩ := hrel
    by_cases hlt : k < len
    · obtain ⟨b, o, rfl, hbb, hcx, hcy⟩ := pts_at (hr.keepEx hkp hB hex) hlt
      have hci' := (hkp.2 ⟨Bi, 0, none⟩ hBi hexi).trans hci
      have hci2 := (World.cell?_alloc_lt wr (.cells #[.int .i64 (Fm.pX pts k), .int .i64 (Fm.pY pts k)] 38) ⟨Bi, 0, none⟩ (by show Bi < _; omega)).trans hci'
      have hk1 : (0 : Int) ≤ (k : Int) := by omega
      have hk2 : (k : Int) < (len : Int) := by omega
      have hA := hJ _ _ _ none hJs (World.grownBy_alloc wr (.cells #[.int .i64 (Fm.pX pts k), .int .i64 (Fm.pY pts k)] 38) none) (fun r e => by cases e)
      by_cases he : k = i0
      · have HS : Hid (Fm.so pts i0 (k + 1) = Fm.so pts i0 k) := by show _ = _; rw [Fm.so, if_pos he]
        have hne : ((k : Int) != (i0 : Int)) = false := by simp [he]
        clear he
        gi_wp2
        refine ⟨fun f hf => (by cases hf), ?_⟩
        gi_wp2
        go_roundw
        case rel => exact ⟨k + 1, by omega, by go_num, by rw [HS.out]; exact hA, hkp.alloc hBs _, by simp; omega⟩
        case measure => simp [intOf]; omega
      · have HS : Hid (Fm.so pts i0 (k + 1) = Fm.so pts i0 k ++ [Fm.pt pts k]) := by show _ = _; rw [Fm.so, if_neg he]
        have hne : ((k : Int) != (i0 : Int)) = true := by simp; omega
        clear he
        obtain ⟨fn, tmps, assign, body, hy, hR⟩ := hY _ (Fm.pt pts k) _ hA (by have := Fm.so_le pts i0 k; omega)
        dsimp only [encP, Fm.pt] at hy
        gi_wp2
        refine hR.mono ?_
        rintro e W3 (⟨rfl, hJ3, hk3⟩ | ⟨rfl, hJx3⟩)
        · gi_wp2
          go_roundw
          case rel => exact ⟨k + 1, by omega, by go_num, by rw [HS.out]; exact hJ3, (hkp.alloc hBs _).trans hk3, by have := hk3.1; simp at this; omega⟩
          case measure => simp [intOf]; omega
        · gi_wp2
          refine bodyPost_ret (results_none rfl _ _ _) rfl ?_
          exact ⟨⟨_, rfl⟩, .inr ⟨_, trivial, hJx3⟩⟩
    · obtain rfl : k = len := by omega
      gi_wp2
      go_end0
      exact ⟨⟨_, rfl⟩, .inl ⟨_, rfl, hJs⟩⟩
/-! ### the map of what was seen -/
def keyL (l : List Fm.Pt) (k : Nat) : List Lit := (List.range k).map fun j => Lit.int .i64 (Fm.md (Fm.pX l j))
theorem keyL_succ (l : List Fm.Pt) (k : Nat) : keyL l (k + 1) = keyL l k ++ [Lit.int .i64 (Fm.md (Fm.pX l k))] := by simp [keyL, List.range_succ]
theorem keyL_key (l : List Fm.Pt) (k : Nat) : ∀ x ∈ keyL l k, WideAt.IsKeyLit x := by
  intro x hx
  obtain ⟨j, _, rfl⟩ := List.mem_map.1 hx
  trivial
def seenN (l : List Fm.Pt) (k : Nat) : Nat := ((keyL l k).foldl Maps.addKey []).length
theorem same_int {a b : Int} : (Lit.int .i64 a).sameKey (Lit.int .i64 b) = true ↔ a = b := by
  constructor
  · intro h
    have := WideAt.sameKey_eq h
    injection this
  · rintro rfl
    exact WideAt.sameKey_self trivial
theorem seen_mem (l : List Fm.Pt) (x : Int) : ∀ k, ((keyL l k).foldl Maps.addKey []).any (fun y => y.sameKey (.int .i64 x)) = true ↔ ∃ j, j < k ∧ Fm.md (Fm.pX l j) = x
  | 0 => by simp [keyL]
  | k + 1 => by
    have ih := seen_mem l x k
    rw [keyL_succ, List.foldl_append]
    simp only [List.foldl_cons, List.foldl_nil]
    unfold Maps.addKey at *
    split
    · rename_i hin
      rw [ih]
      constructor
      · rintro ⟨j, hj, e⟩; exact ⟨j, by omega, e⟩
      · rintro ⟨j, hj, e⟩
        by_cases hjk : j = k
        · subst hjk
          subst e
          exact ih.1 hin
        · exact ⟨j, by omega, e⟩
    · rw [List.any_append, Bool.or_eq_true, ih]
      simp only [List.any_cons, List.any_nil, Bool.or_false, same_int]
      constructor
      · rintro (⟨j, hj, e⟩ | e)
        · exact ⟨j, by omega, e⟩
        · exact ⟨k, by omega, e⟩
      · rintro ⟨j, hj, e⟩
        by_cases hjk : j = k
        · subst hjk; exact .inr e
        · exact .inl ⟨j, by omega, e⟩
theorem seenN_spec (l : List Fm.Pt) : ∀ k, seenN l k ≤ k ∧ (seenN l k = k ↔ upTo l k 0)
  | 0 => ⟨by simp [seenN, keyL], fun _ => upTo_zero l, fun _ => by simp [seenN, keyL]⟩
  | k + 1 => by
    obtain ⟨h1, h2⟩ := seenN_spec l k
    have hm := seen_mem l (Fm.md (Fm.pX l k)) k
    have e : seenN l (k + 1) = if ((keyL l k).foldl Maps.addKey []).any (fun y => y.sameKey (.int .i64 (Fm.md (Fm.pX l k)))) = true then seenN l k else seenN l k + 1 := by
      unfold seenN
      rw [keyL_succ, List.foldl_append]
      simp only [List.foldl_cons, List.foldl_nil]
      unfold Maps.addKey
      split <;> simp
    rw [e]
    split
    · rename_i hin
      obtain ⟨j, hj, hje⟩ := hm.1 hin
      refine ⟨by omega, fun h => by omega, fun h => ?_⟩
      exact absurd hje.symm (h.1 k j (by omega) hj)
    · rename_i hin
      refine ⟨by omega, fun h => ?_, fun h => ?_⟩
      · refine upTo_row ⟨(h2.1 (by omega)).1, fun k' hk' hc => hin (hm.2 ⟨k', hk', hc.symm⟩)⟩
      · have : seenN l k = k := h2.2 ⟨fun i' k' hi hk => h.1 i' k' (by omega) hk, fun k' hk => absurd hk (by omega)⟩
        omega
theorem size_seen {H : Type} (l : List Fm.Pt) (k : Nat) : Maps.size (Maps.setOf (H := H) (.lit (.bool true)) (keyL l k)) = seenN l k := Maps.size_setOf _ _ (keyL_key l k)

theorem md_wf (n : Int) : (Lit.int .i64 (Fm.md n)).wf = true := by
  have h1 := Fm.md_lo n
  have h2 := Fm.md_hi n
  simp [Lit.wf, IntKind.min, IntKind.max, IntKind.bits, IntKind.signed]
  omega
set_option maxRecDepth 100000 in
set_option maxHeartbeats 4000000 in
theorem at_any (A : Option Addr) (n cap : Nat) (l : List Fm.Pt) (x : Int) (w : World) (hr : Rd w w.heap.size 2 A n (cellsP l)) (hn : n ≤ 64) (hd : Fm.dif l) :
    Calls Try.prog 19 #[.slice A n cap, .int .i64 x] w fun e w' => e = .returned (.tuple #[.int .i64 (Fm.lag l x), .int .i64 0]) ∧ Below w.heap.size w w' := by
  have HL : Hid (n = l.length) := by show _ = _; have := hr.1; rw [cellsP_length] at this; omega
  have HD := Lib.hid hd
  clear hd
  have hmm := @run_makeMap Try.prog
  refine (callsIn_wide (n := 3)).1 ?_
  refine callsIn_of_wp_marks Try.func19 rfl trivial ?_ rfl
  simp only [Try.ntmps19, List.size_toArray, List.length_cons, List.length_nil, Nat.reduceAdd, Nat.reduceSub, Array.replicate_succ, Array.replicate_zero, List.push_toArray, List.append_toArray, List.nil_append, List.cons_append]
  gi_wp2_with fail
  gi_loopw [22] (fun i wr => ∃ k : Nat, k ≤ n ∧ i = .int .i64 k ∧ Boxed wr w.heap.size 3 (.int .i64 x) ∧ wr.ownsMap Try.prog 3 (plainElem (H := Unit) Try.prog 4) (w.heap.size + 1) k (Maps.setOf (.lit (.bool true)) (keyL l k)) ∧ Below w.heap.size w wr) (fun i _ => n - (intOf i).toNat)
  case atStart =>
    have hm0 := World.ownsMap_made (w.alloc (.cells #[.int .i64 x] 3)) Try.prog 3 (plainElem (H := Unit) Try.prog 4)
    rw [World.size_alloc] at hm0
    exact ⟨0, Nat.zero_le _, rfl, (Boxed.new w _ _).alloc _, hm0, ((Below.refl _ w).alloc (Nat.le_refl _) _).alloc (by simp) _⟩
  case round =>
    obtain ⟨k, hk, rfl, hbx, hown, hb⟩ := hrel
    by_cases hlt : k < n
    · obtain ⟨b, o, rfl, hbb, hcx, hcy⟩ := pts_at (hr.below hb) hlt
      have hk1 : (0 : Int) ≤ (k : Int) := by omega
      have hk2 : (k : Int) < (n : Int) := by omega
      have hwf := md_wf (Fm.pX l k)
      have hkm : k < maxLen := by unfold maxLen; omega
      gi_wp2_with (first | (refine ⟨trivial, ?_⟩; gi_at_call 12; refine (callsIn_wide.2 (mod_any _ _)).mono ?_; rintro e w' ⟨rfl, rfl⟩) | (gi_at_mapUpdate; go_loud (refine wpListIn_mapUpdate_own _ rfl _ _ _ 43 rfl 3 4 (Maps.int_keyed Try.underlying3) Try.underlying43 _ (w.heap.size + 1) k _ rfl (hown.alloc _) hkm _ _ _ rfl rfl (Maps.keyOf_int_mk Try.underlying3 hwf) _ [] (plainElem_bool Try.underlying4 true) ?_); intro w1 hown1 hgrow1))
      go_roundw
      case rel =>
        exact ⟨k + 1, by omega, by go_num, (hbx.alloc _).kept hgrow1 (by simp), by rw [keyL_succ, Maps.setOf_snoc]; exact hown1,
          (hb.alloc hb.size _).grown hgrow1 (by have := hb.size; simp; omega) (fun k e => by cases e; omega)⟩
      case measure => simp [intOf]; omega
    · obtain rfl : k = n := by omega
      have hsz : Maps.size (Maps.setOf (H := Unit) (.lit (.bool true)) (keyL l k)) = k := by
        rw [size_seen, (seenN_spec l k).2]
        have h := HL.out
        rw [h]
        exact ⟨(Fm.dif_iff l).1 HD.out, fun k' h => absurd h (by omega)⟩
      gi_wp2_with (refine wpListIn_len_own rfl (.tmp 31) 43 rfl 3 4 Try.underlying43 _ (w.heap.size + 1) k _ rfl hown ?_)
      obtain ⟨I, hI⟩ : ∃ I : Act → World → Prop, I = fun a' w' => ∃ (y0 : Int) (i0 : Nat), a'.tmps.size = 82 ∧ a'.tmps.getD 0 undef = .slice A k cap ∧ a'.tmps.getD 3 undef = .pointer (some ⟨w.heap.size, 0, none⟩) ∧ a'.tmps.getD 4 undef = .int .i64 y0 ∧
        a'.tmps.getD 5 undef = .int .i64 0 ∧ a'.tmps.getD 36 undef = .slice A k cap ∧ a'.tmps.getD 37 undef = .int .i64 k ∧ a'.tmps.getD 38 undef = .int .i64 i0 ∧ i0 ≤ k ∧ y0 = Fm.sm l x i0 % 1073741789 ∧ Marks w.heap.size w'.heap.size a'.defers w' ∧ Boxed w' w.heap.size 3 (.int .i64 x) ∧ Below w.heap.size w w' := ⟨_, rfl⟩
      obtain ⟨μ, hμ⟩ : ∃ μ : Act → World → Nat, μ = fun a' _ => k - (intOf (a'.tmps.getD 38 undef)).toNat := ⟨_, rfl⟩
      refine wpIn_loop I μ ?_ ?_
      · rw [hI]
        exact ⟨0, 0, rfl, rfl, rfl, rfl, rfl, rfl, rfl, rfl, Nat.zero_le _, rfl, Marks.nil _ _ _, hbx, hb⟩
      · clear hown hsz hbx hb hlt hk
        intro a' wr2 hinv
        rw [hI] at hinv
        obtain ⟨y0, i0, h82, e0, e3, e4, e5, e36, e37, e38, hi, hy, hm, hbx, hb⟩ := hinv
        obtain ⟨T, ds⟩ := a'
        dsimp only at h82 e0 e3 e4 e5 e36 e37 e38 hm
        obtain ⟨v, hT, hv⟩ := arr_fun T 82 h82
        have e : ((List.range 82).map v).toArray = #[v 0, v 1, v 2, v 3, v 4, v 5, v 6, v 7, v 8, v 9, v 10, v 11, v 12, v 13, v 14, v 15, v 16, v 17, v 18, v 19, v 20, v 21, v 22, v 23, v 24, v 25, v 26, v 27, v 28, v 29, v 30, v 31, v 32, v 33, v 34, v 35, v 36, v 37, v 38, v 39, v 40, v 41, v 42, v 43, v 44, v 45, v 46, v 47, v 48, v 49, v 50, v 51, v 52, v 53, v 54, v 55, v 56, v 57, v 58, v 59, v 60, v 61, v 62, v 63, v 64, v 65, v 66, v 67, v 68, v 69, v 70, v 71, v 72, v 73, v 74, v 75, v 76, v 77, v 78, v 79, v 80, v 81] := rfl
        rw [show v 0 = _ from (hv 0).symm.trans e0, show v 3 = _ from (hv 3).symm.trans e3, show v 4 = _ from (hv 4).symm.trans e4, show v 5 = _ from (hv 5).symm.trans e5, show v 36 = _ from (hv 36).symm.trans e36, show v 37 = _ from (hv 37).symm.trans e37, show v 38 = _ from (hv 38).symm.trans e38] at e
        rw [hT, e]
        have HI := Lib.hid hI
        have HM := Lib.hid hμ
        clear hI hμ hT hv e e0 e3 e4 e5 e36 e37 e38 h82
        by_cases hlt : i0 < k
        · obtain ⟨b, o, rfl, hbb, hcx, hcy⟩ := pts_at (hr.below hb) hlt
          have hk1 : (0 : Int) ≤ (i0 : Int) := by omega
          have hk2 : (i0 : Int) < (k : Int) := by omega
          gi_wp2_with (first | (refine ⟨trivial, ?_⟩; gi_at_call 12; refine (callsIn_wide.2 (mod_any _ _)).mono ?_; rintro e w' ⟨rfl, rfl⟩) | (refine ⟨trivial, ?_⟩; gi_at_call 27; refine (callsIn_wide.2 (others_any _ _ _ _ _)).mono ?_; rintro e w' ⟨rfl, rfl⟩))
          have hsl0 := hb.size
          have hlx0 := hbx.lt
          obtain ⟨s0, hs0⟩ : ∃ s0, wr2.heap.size = s0 := ⟨_, rfl⟩
          obtain ⟨W0, hW0⟩ : ∃ W0, ((((wr2.alloc (.cells #[.int .i64 (Fm.pX l i0), .int .i64 (Fm.pY l i0)] 38)).alloc (.cells #[.int .i64 (Fm.md (Fm.pY l i0))] 3)).alloc (.cells #[.int .i64 1] 3)).alloc (.cells #[.slice (some ⟨b, o, none⟩) k cap] 30)).alloc (.cells #[.int .i64 (i0 : Int)] 3) = W0 := ⟨_, rfl⟩
          have P0 : W0.cell? ⟨s0, 0, none⟩ = some (.int .i64 (Fm.pX l i0)) := by rw [← hW0, ← hs0]; simp [go_sem]
          have hsz0 : W0.heap.size = s0 + 5 := by rw [← hW0, ← hs0]; simp
          have bA := (((Boxed.new (wr2.alloc (.cells #[.int .i64 (Fm.pX l i0), .int .i64 (Fm.pY l i0)] 38)) 3 (.int .i64 (Fm.md (Fm.pY l i0)))).alloc (.cells #[.int .i64 1] 3)).alloc (.cells #[.slice (some ⟨b, o, none⟩) k cap] 30)).alloc (.cells #[.int .i64 (i0 : Int)] 3)
          have bB := ((Boxed.new ((wr2.alloc (.cells #[.int .i64 (Fm.pX l i0), .int .i64 (Fm.pY l i0)] 38)).alloc (.cells #[.int .i64 (Fm.md (Fm.pY l i0))] 3)) 3 (.int .i64 1)).alloc (.cells #[.slice (some ⟨b, o, none⟩) k cap] 30)).alloc (.cells #[.int .i64 (i0 : Int)] 3)
          have bL := (Boxed.new (((wr2.alloc (.cells #[.int .i64 (Fm.pX l i0), .int .i64 (Fm.pY l i0)] 38)).alloc (.cells #[.int .i64 (Fm.md (Fm.pY l i0))] 3)).alloc (.cells #[.int .i64 1] 3)) 30 (.slice (some ⟨b, o, none⟩) k cap)).alloc (.cells #[.int .i64 (i0 : Int)] 3)
          have bI := Boxed.new ((((wr2.alloc (.cells #[.int .i64 (Fm.pX l i0), .int .i64 (Fm.pY l i0)] 38)).alloc (.cells #[.int .i64 (Fm.md (Fm.pY l i0))] 3)).alloc (.cells #[.int .i64 1] 3)).alloc (.cells #[.slice (some ⟨b, o, none⟩) k cap] 30)) 3 (.int .i64 (i0 : Int))
          simp only [World.size_alloc] at bA bB bL bI
          have hbw : Below s0 wr2 W0 := by
            rw [← hW0, ← hs0]
            exact (((((Below.refl _ _).alloc (Nat.le_refl _) _).alloc (by simp) _).alloc (by simp; omega) _).alloc (by simp; omega) _).alloc (by simp; omega) _
          rw [hW0] at bA bB bL bI ⊢
          rw [hs0] at bA bB bL bI hm ⊢
          have hsl : w.heap.size ≤ s0 := by omega
          have hlx : w.heap.size < s0 := by omega
          have hs1 : s0 ≤ wr2.heap.size := by omega
          have hs2 : wr2.heap.size ≤ s0 := by omega
          clear hW0 hs0 hsl0 hlx0
          refine wpIn_rangeFunc_ownH rfl (by omega) (gf := 28) (lb := #[.pointer (some ⟨s0 + 1 + 1 + 1, 0, none⟩), .pointer (some ⟨s0 + 1 + 1 + 1 + 1, 0, none⟩)]) rfl trivial (enters_of Try.func28 (by kernel_rfl) rfl)
            (encs := encP) (Kp := KeepEx W0.heap.size (fun j => j = s0 + 1 ∨ j = s0 + 1 + 1)) (S := fun ys => ys = Fm.so l i0 k) (Sp := fun _ => True) (N := k) (w0 := W0)
            (fun lo J Jx W hW hJ hJx hY h0 => others1_in Fence.wide (3 - 1) trivial rfl (by omega) lo (s0 + 1 + 1 + 1) (s0 + 1 + 1 + 1 + 1) W0.heap.size w.heap.size (fun j => j = s0 + 1 ∨ j = s0 + 1 + 1) _ k cap i0 l hn (by omega) (by intro j hj hc; omega) (by omega) (by omega) J Jx W hJ hW.size hY ((hW.cell (p := ⟨s0 + 1 + 1 + 1, 0, none⟩) (by show s0 + 1 + 1 + 1 < _; omega)).trans bL.cell) ((hW.cell (p := ⟨s0 + 1 + 1 + 1 + 1, 0, none⟩) (by show s0 + 1 + 1 + 1 + 1 < _; omega)).trans bI.cell) (((hr.below hb).below (hbw.mono hsl)).below (hW.mono (by omega))) h0)
            (fun h1 h2 => h1.trans h2) (fun W lo ob ob' h1 h2 h3 h4 => ⟨by simp [World.putObj], fun p hp _ => World.cell?_of_block ((grownBy_putObj' W lo ob').block p.block (by have := (Array.getElem?_eq_some_iff.1 h2).1; omega) (by intro e; cases e; omega))⟩) (Below.refl _ _) (fun _ => rfl)
            (fun pre W => ((∃ a c : Int, (Boxed W (s0 + 1) 3 (.int .i64 a) ∧ Boxed W (s0 + 1 + 1) 3 (.int .i64 c)) ∧ Fm.cg a (Fm.ab (Fm.pt l i0) pre x) ∧ Fm.cg c (Fm.be (Fm.pt l i0) pre)) ∧ W.cell? ⟨s0, 0, none⟩ = some (.int .i64 (Fm.pX l i0)) ∧ W0.heap.size ≤ W.heap.size) ∧ Below s0 wr2 W)
            (fun _ _ _ => False)
            (OwnFrom.and (Own.from (fun pre A' B' row hs hg hr' => by
              obtain ⟨⟨a, c, ⟨h1, h2⟩, h3⟩, h4, h5⟩ := hs
              exact ⟨⟨a, c, ⟨boxed_own (s0 + 1) 3 (fun a : Int => Value.int .i64 a) a A' B' row h1 hg hr', boxed_own (s0 + 1 + 1) 3 (fun a : Int => Value.int .i64 a) c A' B' row h2 hg hr'⟩, h3⟩, cell_kept h4 hg hr', Nat.le_trans h5 hg.size⟩) _) (ownFrom_below (by omega) (by omega)))
            (fun _ _ _ _ _ hs _ _ => hs)
            ⟨⟨⟨_, _, ⟨bA, bB⟩, Fm.ab_zero _ _, Fm.be_zero _⟩, P0, Nat.le_refl _⟩, hbw⟩
            (fun q a' W => ∃ Bq, s0 + 1 + 1 < Bq ∧ (W.cell? ⟨Bq, 0, none⟩ = some (.int .i64 q.1) ∧ W.cell? ⟨Bq, 1, none⟩ = some (.int .i64 q.2)) ∧ a' = { tmps := #[.slice (some ⟨b, o, none⟩) k cap, v 1, v 2, .pointer (some ⟨w.heap.size, 0, none⟩), .int .i64 (Fm.sm l x i0 % 1073741789), .int .i64 0, v 6, v 7, v 8, .int .i64 (i0 : Int), .pointer (some ⟨s0, 0, none⟩), .pointer (some ⟨s0 + 1, 0, none⟩), .pointer (some ⟨s0 + 1 + 1, 0, none⟩), .pointer (some ⟨Bq, 0, none⟩), v 14, v 15, v 16, v 17, v 18, v 19, v 20, v 21, v 22, v 23, v 24, v 25, v 26, v 27, v 28, v 29, v 30, v 31, v 32, v 33, v 34, v 35, .slice (some ⟨b, o, none⟩) k cap, .int .i64 (k : Int), .int .i64 (i0 : Int), .bool true, .int .i64 (i0 : Int), .pointer (some ⟨b, o + i0 * 2, none⟩), .agg #[.int .i64 (Fm.pX l i0), .int .i64 (Fm.pY l i0)], .pointer (some ⟨s0, 1, none⟩), .int .i64 (Fm.pY l i0), .int .i64 (Fm.md (Fm.pY l i0)), .slice (some ⟨b, o, none⟩) k cap, .int .i64 (i0 : Int), .func (.func 28) #[] #[.pointer (some ⟨s0 + 1 + 1 + 1, 0, none⟩), .pointer (some ⟨s0 + 1 + 1 + 1 + 1, 0, none⟩)], .agg #[.int .i64 q.1, .int .i64 q.2], v 50, v 51, v 52, v 53, v 54, v 55, v 56, v 57, v 58, v 59, v 60, v 61, v 62, v 63, v 64, v 65, v 66, v 67, v 68, v 69, v 70, v 71, v 72, v 73, v 74, v 75, v 76, v 77, v 78, v 79, v 80, v 81], defers := [] })
            (fun q a' _ X' Y' row hs hg hr' => by obtain ⟨Bq, h1, ⟨h2, h3⟩, h4⟩ := hs; exact ⟨Bq, h1, ⟨cell_kept h2 hg (fun r e => (hr' r e).2), cell_kept h3 hg (fun r e => (hr' r e).2)⟩, h4⟩)
            ?assign ?body ?done ?stop
          case assign =>
            rintro lo pre q W K ⟨⟨⟨a, c, ⟨h1, h2⟩, h3⟩, h4, h6⟩, h5⟩ hK
            gi_wp2
            exact hK _ _ ((KeepsOthers.alloc _ _).from _) ((KeepEx.refl _).alloc h6 _) ⟨⟨⟨a, c, ⟨h1.alloc _, h2.alloc _⟩, h3⟩, cell_kept h4 (World.grownBy_alloc _ _ none) (fun r e => by cases e), by simp; omega⟩, h5.alloc (by omega) _⟩ ⟨W.heap.size, by have := h2.lt; omega, ⟨by go_cell, by go_cell⟩, rfl⟩
          case body =>
            rintro lo pre q a' W hlo ⟨rl, hrl⟩ ⟨⟨⟨a, c, ⟨h1, h2⟩, h3, h4⟩, h5, h7⟩, h6⟩ ⟨Bq, hBq, ⟨hq1, hq2⟩, rfl⟩ hlen
            gi_wp2_with fail
            obtain ⟨C, hCd⟩ : ∃ C : Nat → World → Prop, C = fun e w' => (w'.cell? ⟨Bq, 0, none⟩ = some (.int .i64 q.1) ∧ w'.cell? ⟨s0, 0, none⟩ = some (.int .i64 (Fm.pX l i0)) ∧ w'.cell? ⟨w.heap.size, 0, none⟩ = some (.int .i64 x)) ∧ (e = 0 → w'.cell? ⟨s0 + 1, 0, none⟩ = some (.int .i64 a)) ∧ (e = 9 → w'.cell? ⟨s0 + 1 + 1, 0, none⟩ = some (.int .i64 c)) := ⟨_, rfl⟩
            have hC : ∀ e, C e W.drew := fun e => by rw [hCd]; exact ⟨⟨hq1, h5, (h6.cell (p := ⟨w.heap.size, 0, none⟩) hlx).trans hbx.cell⟩, fun _ => h1.cell, fun _ => h2.cell⟩
            have hC2 : ∀ e, C e (W.alloc (.cells #[.int .i64 x, .int .i64 (-Fm.md q.1)] 3)).drew := fun e => by rw [hCd] at hC ⊢; exact ⟨⟨al_cell (hC e).1.1, al_cell (hC e).1.2.1, al_cell (hC e).1.2.2⟩, fun h => al_cell ((hC e).2.1 h), fun h => al_cell ((hC e).2.2 h)⟩
            have hC3 : ∀ e, C e ((W.alloc (.cells #[.int .i64 x, .int .i64 (-Fm.md q.1)] 3)).alloc (.cells #[.int .i64 (Fm.pX l i0), .int .i64 (-Fm.md q.1)] 3)).drew := fun e => by rw [hCd] at hC2 ⊢; exact ⟨⟨al_cell (hC2 e).1.1, al_cell (hC2 e).1.2.1, al_cell (hC2 e).1.2.2⟩, fun h => al_cell ((hC2 e).2.1 h), fun h => al_cell ((hC2 e).2.2 h)⟩
            have g1 : ∀ e w', C e w' → w'.cell? ⟨Bq, 0, none⟩ = some (.int .i64 q.1) := fun e w' h => by rw [hCd] at h; exact h.1.1
            have g2 : ∀ e w', C e w' → w'.cell? ⟨s0, 0, none⟩ = some (.int .i64 (Fm.pX l i0)) := fun e w' h => by rw [hCd] at h; exact h.1.2.1
            have g3 : ∀ e w', C e w' → w'.cell? ⟨w.heap.size, 0, none⟩ = some (.int .i64 x) := fun e w' h => by rw [hCd] at h; exact h.1.2.2
            have g4 : ∀ w', C 0 w' → w'.cell? ⟨s0 + 1, 0, none⟩ = some (.int .i64 a) := fun w' h => by rw [hCd] at h; exact h.2.1 rfl
            have g5 : ∀ w', C 9 w' → w'.cell? ⟨s0 + 1 + 1, 0, none⟩ = some (.int .i64 c) := fun w' h => by rw [hCd] at h; exact h.2.2 rfl
            have c11 : ((W.alloc (.cells #[.int .i64 x, .int .i64 (-Fm.md q.1)] 3)).alloc (.cells #[.int .i64 (Fm.pX l i0), .int .i64 (-Fm.md q.1)] 3)).cell? ⟨s0 + 1, 0, none⟩ = some (.int .i64 a) := by have t := g4 _ (hC3 0); exact t
            have c12 : ((W.alloc (.cells #[.int .i64 x, .int .i64 (-Fm.md q.1)] 3)).alloc (.cells #[.int .i64 (Fm.pX l i0), .int .i64 (-Fm.md q.1)] 3)).cell? ⟨s0 + 1 + 1, 0, none⟩ = some (.int .i64 c) := by have t := g5 _ (hC3 9); exact t
            have f11 : ((W.alloc (.cells #[.int .i64 x, .int .i64 (-Fm.md q.1)] 3)).alloc (.cells #[.int .i64 (Fm.pX l i0), .int .i64 (-Fm.md q.1)] 3)).frozen? ⟨s0 + 1, 0, none⟩ = false := ((h1.alloc (.cells #[.int .i64 x, .int .i64 (-Fm.md q.1)] 3)).alloc (.cells #[.int .i64 (Fm.pX l i0), .int .i64 (-Fm.md q.1)] 3)).frozen
            have f12 : ((W.alloc (.cells #[.int .i64 x, .int .i64 (-Fm.md q.1)] 3)).alloc (.cells #[.int .i64 (Fm.pX l i0), .int .i64 (-Fm.md q.1)] 3)).frozen? ⟨s0 + 1 + 1, 0, none⟩ = false := ((h2.alloc (.cells #[.int .i64 x, .int .i64 (-Fm.md q.1)] 3)).alloc (.cells #[.int .i64 (Fm.pX l i0), .int .i64 (-Fm.md q.1)] 3)).frozen
            have hC4 : ∀ e, e ≠ 0 → C e (((W.alloc (.cells #[.int .i64 x, .int .i64 (-Fm.md q.1)] 3)).alloc (.cells #[.int .i64 (Fm.pX l i0), .int .i64 (-Fm.md q.1)] 3)).setCell ⟨s0 + 1, 0, none⟩ (.int .i64 (Fm.ml a (Fm.ad x (-Fm.md q.1))))).drew := fun e he => by rw [hCd] at hC3 ⊢; exact ⟨⟨st_cell (by intro h; injection h; omega) (hC3 e).1.1, st_cell (by intro h; injection h; omega) (hC3 e).1.2.1, st_cell (by intro h; injection h; omega) (hC3 e).1.2.2⟩, fun h => absurd h he, fun h => st_cell (by intro h; injection h; omega) ((hC3 e).2.2 h)⟩
            have t1 := two_new W (.int .i64 x) (.int .i64 (-Fm.md q.1)) 3
            have t2 := two_new (W.alloc (.cells #[.int .i64 x, .int .i64 (-Fm.md q.1)] 3)) (.int .i64 (Fm.pX l i0)) (.int .i64 (-Fm.md q.1)) 3
            rw [World.size_alloc] at t2
            have T1 : Hid (((W.alloc (.cells #[.int .i64 x, .int .i64 (-Fm.md q.1)] 3)).drew.cell? ⟨W.heap.size, 0, none⟩ = some (.int .i64 x)) ∧ ((W.alloc (.cells #[.int .i64 x, .int .i64 (-Fm.md q.1)] 3)).drew.cell? ⟨W.heap.size, 1, none⟩ = some (.int .i64 (-Fm.md q.1)))) := t1
            have T2 : Hid ((((W.alloc (.cells #[.int .i64 x, .int .i64 (-Fm.md q.1)] 3)).alloc (.cells #[.int .i64 (Fm.pX l i0), .int .i64 (-Fm.md q.1)] 3)).drew.cell? ⟨W.heap.size + 1, 0, none⟩ = some (.int .i64 (Fm.pX l i0))) ∧ (((W.alloc (.cells #[.int .i64 x, .int .i64 (-Fm.md q.1)] 3)).alloc (.cells #[.int .i64 (Fm.pX l i0), .int .i64 (-Fm.md q.1)] 3)).drew.cell? ⟨W.heap.size + 1, 1, none⟩ = some (.int .i64 (-Fm.md q.1)))) := t2
            clear t1 t2
            have b1 := Fm.md_lo q.1
            have b2 := Fm.md_hi q.1
            have hwr : IntKind.i64.wrap (-Fm.md q.1) = -Fm.md q.1 := IntWalk.i64_in _ (by omega)
            have G1 := Lib.hid g1
            have G2 := Lib.hid g2
            have G3 := Lib.hid g3
            have G4 := Lib.hid g4
            have G5 := Lib.hid g5
            have Hq := Lib.hid hC
            have Hq2 := Lib.hid hC2
            have Hq3 := Lib.hid hC3
            have Hq4 := Lib.hid hC4
            clear g1 g2 g3 g4 g5 hC hC2 hC3 hC4 hCd
            refine wpIn_region_T C 21 #[false, false, false, false, false, false, false, false, false, false, false, false, false, false, false, false, false, false, false, false, false] (by as_aux_lemma => kernel_rfl) ?_
            refine wpAnyT_take (i := 0) (.int .i64 a) #[true, false, false, false, false, false, false, false, false, false, false, false, false, false, false, false, false, false, false, false, false] op0 (by as_aux_lemma => kernel_rfl) (fun _ _ _ h => h) (fun _ => rfl) (Or.inl ⟨by rfl, (by intro w' hw'; have g := G4.out _ hw'; go_simp)⟩) Hq.out ?_
            try simp only [Act.put, List.setIfInBounds_toArray, List.set_cons_zero, List.set_cons_succ]
            refine wpAnyT_take (i := 1) (.int .i64 x) #[true, true, false, false, false, false, false, false, false, false, false, false, false, false, false, false, false, false, false, false, false] (opS op0) (by as_aux_lemma => kernel_rfl) (fun _ _ _ h => h) (fun _ => rfl) (Or.inl ⟨by rfl, (by intro w' hw'; have g := G3.out _ _ hw'; go_simp)⟩) Hq.out ?_
            try simp only [Act.put, List.setIfInBounds_toArray, List.set_cons_zero, List.set_cons_succ]
            refine wpAnyT_take (i := 2) (.pointer (some ⟨Bq, 0, none⟩)) #[true, true, true, false, false, false, false, false, false, false, false, false, false, false, false, false, false, false, false, false, false] (opS (opS op0)) (by as_aux_lemma => kernel_rfl) (fun _ _ _ h => h) (fun _ => rfl) (Or.inl ⟨by rfl, (by intro w' hw'; go_simp)⟩) Hq.out ?_
            try simp only [Act.put, List.setIfInBounds_toArray, List.set_cons_zero, List.set_cons_succ]
            refine wpAnyT_take (i := 3) (.int .i64 q.1) #[true, true, true, true, false, false, false, false, false, false, false, false, false, false, false, false, false, false, false, false, false] (opS (opS (opS op0))) (by as_aux_lemma => kernel_rfl) (fun _ _ _ h => h) (fun _ => rfl) (Or.inl ⟨by rfl, (by intro w' hw'; have g := G1.out _ _ hw'; go_simp)⟩) Hq.out ?_
            try simp only [Act.put, List.setIfInBounds_toArray, List.set_cons_zero, List.set_cons_succ]
            refine wpAnyT_take (i := 9) (.int .i64 c) #[true, true, true, true, false, false, false, false, false, true, false, false, false, false, false, false, false, false, false, false, false] (opS (opS (opS (opS (opS (opS (opS (opS (opS op0))))))))) (by as_aux_lemma => kernel_rfl) (fun _ _ _ h => h) (fun _ => rfl) (Or.inl ⟨by rfl, (by intro w' hw'; have g := G5.out _ hw'; go_simp)⟩) Hq.out ?_
            try simp only [Act.put, List.setIfInBounds_toArray, List.set_cons_zero, List.set_cons_succ]
            refine wpAnyT_take (i := 10) (.pointer (some ⟨s0, 0, none⟩)) #[true, true, true, true, false, false, false, false, false, true, true, false, false, false, false, false, false, false, false, false, false] (opS (opS (opS (opS (opS (opS (opS (opS (opS (opS op0)))))))))) (by as_aux_lemma => kernel_rfl) (fun _ _ _ h => h) (fun _ => rfl) (Or.inl ⟨by rfl, (by intro w' hw'; go_simp)⟩) Hq.out ?_
            try simp only [Act.put, List.setIfInBounds_toArray, List.set_cons_zero, List.set_cons_succ]
            refine wpAnyT_take (i := 11) (.int .i64 (Fm.pX l i0)) #[true, true, true, true, false, false, false, false, false, true, true, true, false, false, false, false, false, false, false, false, false] (opS (opS (opS (opS (opS (opS (opS (opS (opS (opS (opS op0))))))))))) (by as_aux_lemma => kernel_rfl) (fun _ _ _ h => h) (fun _ => rfl) (Or.inl ⟨by rfl, (by intro w' hw'; have g := G2.out _ _ hw'; go_simp)⟩) Hq.out ?_
            try simp only [Act.put, List.setIfInBounds_toArray, List.set_cons_zero, List.set_cons_succ]
            refine wpAnyT_take (i := 12) (.pointer (some ⟨Bq, 0, none⟩)) #[true, true, true, true, false, false, false, false, false, true, true, true, true, false, false, false, false, false, false, false, false] (opS (opS (opS (opS (opS (opS (opS (opS (opS (opS (opS (opS op0)))))))))))) (by as_aux_lemma => kernel_rfl) (fun _ _ _ h => h) (fun _ => rfl) (Or.inl ⟨by rfl, (by intro w' hw'; go_simp)⟩) Hq.out ?_
            try simp only [Act.put, List.setIfInBounds_toArray, List.set_cons_zero, List.set_cons_succ]
            refine wpAnyT_take (i := 13) (.int .i64 q.1) #[true, true, true, true, false, false, false, false, false, true, true, true, true, true, false, false, false, false, false, false, false] (opS (opS (opS (opS (opS (opS (opS (opS (opS (opS (opS (opS (opS op0))))))))))))) (by as_aux_lemma => kernel_rfl) (fun _ _ _ h => h) (fun _ => rfl) (Or.inl ⟨by rfl, (by intro w' hw'; have g := G1.out _ _ hw'; go_simp)⟩) Hq.out ?_
            try simp only [Act.put, List.setIfInBounds_toArray, List.set_cons_zero, List.set_cons_succ]
            refine wpAnyT_one (i := 4) [13, 12, 11, 10, 9, 2, 1, 0] #[true, true, true, true, true, false, false, false, false, true, true, true, true, true, false, false, false, false, false, false, false] (opS (opS (opS (opS op0)))) (by as_aux_lemma => kernel_rfl) (fun K hK => ?_)
            go_simp
            refine ⟨trivial, (CallsIn.inRound lo (callsIn_wide.2 (mod_any _ _))).mono ?_⟩
            rintro e w' ⟨rfl, rfl⟩
            refine hK.out _ _ (fun e _ => Hq.out e) ?_
            clear hK K
            try simp only [Act.put, List.setIfInBounds_toArray, List.set_cons_zero, List.set_cons_succ]
            refine wpAnyT_take (i := 5) (.int .i64 (-Fm.md q.1)) #[true, true, true, true, true, true, false, false, false, true, true, true, true, true, false, false, false, false, false, false, false] (opS (opS (opS (opS (opS op0))))) (by as_aux_lemma => kernel_rfl) (fun _ _ _ h => h) (fun _ => rfl) (Or.inl ⟨by rfl, (by intro w' hw'; go_simp)⟩) Hq.out ?_
            try simp only [Act.put, List.setIfInBounds_toArray, List.set_cons_zero, List.set_cons_succ]
            refine wpAnyT_one (i := 6) [13, 12, 11, 10, 9, 2, 0] #[true, true, true, true, true, true, true, false, false, true, true, true, true, true, false, false, false, false, false, false, false] (opS (opS (opS (opS (opS (opS op0)))))) (by as_aux_lemma => kernel_rfl) (fun K hK => ?_)
            go_simp
            refine hK.out _ _ (fun e _ => Hq2.out e) ?_
            clear hK K
            try simp only [Act.put, List.setIfInBounds_toArray, List.set_cons_zero, List.set_cons_succ]
            refine wpAnyT_one (i := 7) [13, 12, 11, 10, 9, 2, 0] #[true, true, true, true, true, true, true, true, false, true, true, true, true, true, false, false, false, false, false, false, false] (opS (opS (opS (opS (opS (opS (opS op0))))))) (by as_aux_lemma => kernel_rfl) (fun K hK => ?_)
            go_simp
            refine ⟨trivial, (CallsIn.inRound lo (callsIn_wide.2 (sum_two _ x (-Fm.md q.1) _ T1.out.1 T1.out.2))).mono ?_⟩
            rintro e w' ⟨rfl, rfl⟩
            refine hK.out _ _ (fun e _ => Hq2.out e) ?_
            clear hK K
            try simp only [Act.put, List.setIfInBounds_toArray, List.set_cons_zero, List.set_cons_succ]
            refine wpAnyT_one (i := 8) [13, 12, 11, 10, 9, 2] #[true, true, true, true, true, true, true, true, true, true, true, true, true, true, false, false, false, false, false, false, false] (opS (opS (opS (opS (opS (opS (opS (opS op0)))))))) (by as_aux_lemma => kernel_rfl) (fun K hK => ?_)
            go_simp
            refine ⟨trivial, (CallsIn.inRound lo (callsIn_wide.2 (mul_any _ _ _))).mono ?_⟩
            rintro e w' ⟨rfl, rfl⟩
            refine hK.out _ _ (fun e _ => Hq2.out e) ?_
            clear hK K
            try simp only [Act.put, List.setIfInBounds_toArray, List.set_cons_zero, List.set_cons_succ]
            refine wpAnyT_one (i := 14) [12, 11, 10, 9, 2] #[true, true, true, true, true, true, true, true, true, true, true, true, true, true, true, false, false, false, false, false, false] (opS (opS (opS (opS (opS (opS (opS (opS (opS (opS (opS (opS (opS (opS op0)))))))))))))) (by as_aux_lemma => kernel_rfl) (fun K hK => ?_)
            go_simp
            refine ⟨trivial, (CallsIn.inRound lo (callsIn_wide.2 (mod_any _ _))).mono ?_⟩
            rintro e w' ⟨rfl, rfl⟩
            refine hK.out _ _ (fun e _ => Hq2.out e) ?_
            clear hK K
            try simp only [Act.put, List.setIfInBounds_toArray, List.set_cons_zero, List.set_cons_succ]
            refine wpAnyT_take (i := 15) (.int .i64 (-Fm.md q.1)) #[true, true, true, true, true, true, true, true, true, true, true, true, true, true, true, true, false, false, false, false, false] (opS (opS (opS (opS (opS (opS (opS (opS (opS (opS (opS (opS (opS (opS (opS op0))))))))))))))) (by as_aux_lemma => kernel_rfl) (fun _ _ _ h => h) (fun _ => rfl) (Or.inl ⟨by rfl, (by intro w' hw'; go_simp)⟩) Hq2.out ?_
            try simp only [Act.put, List.setIfInBounds_toArray, List.set_cons_zero, List.set_cons_succ]
            refine wpAnyT_one (i := 16) [12, 10, 9, 2] #[true, true, true, true, true, true, true, true, true, true, true, true, true, true, true, true, true, false, false, false, false] (opS (opS (opS (opS (opS (opS (opS (opS (opS (opS (opS (opS (opS (opS (opS (opS op0)))))))))))))))) (by as_aux_lemma => kernel_rfl) (fun K hK => ?_)
            go_simp
            refine hK.out _ _ (fun e _ => Hq3.out e) ?_
            clear hK K
            try simp only [Act.put, List.setIfInBounds_toArray, List.set_cons_zero, List.set_cons_succ]
            refine wpAnyT_one (i := 17) [12, 10, 9, 2] #[true, true, true, true, true, true, true, true, true, true, true, true, true, true, true, true, true, true, false, false, false] (opS (opS (opS (opS (opS (opS (opS (opS (opS (opS (opS (opS (opS (opS (opS (opS (opS op0))))))))))))))))) (by as_aux_lemma => kernel_rfl) (fun K hK => ?_)
            go_simp
            refine ⟨trivial, (CallsIn.inRound lo (callsIn_wide.2 (sum_two _ (Fm.pX l i0) (-Fm.md q.1) _ T2.out.1 T2.out.2))).mono ?_⟩
            rintro e w' ⟨rfl, rfl⟩
            refine hK.out _ _ (fun e _ => Hq3.out e) ?_
            clear hK K
            try simp only [Act.put, List.setIfInBounds_toArray, List.set_cons_zero, List.set_cons_succ]
            refine wpAnyT_one (i := 18) [12, 10, 2] #[true, true, true, true, true, true, true, true, true, true, true, true, true, true, true, true, true, true, true, false, false] (opS (opS (opS (opS (opS (opS (opS (opS (opS (opS (opS (opS (opS (opS (opS (opS (opS (opS op0)))))))))))))))))) (by as_aux_lemma => kernel_rfl) (fun K hK => ?_)
            go_simp
            refine ⟨trivial, (CallsIn.inRound lo (callsIn_wide.2 (mul_any _ _ _))).mono ?_⟩
            rintro e w' ⟨rfl, rfl⟩
            refine hK.out _ _ (fun e _ => Hq3.out e) ?_
            clear hK K
            try simp only [Act.put, List.setIfInBounds_toArray, List.set_cons_zero, List.set_cons_succ]
            refine wpAnyT_one (i := 19) [12, 10] #[true, true, true, true, true, true, true, true, true, true, true, true, true, true, true, true, true, true, true, true, false] (opS (opS (opS (opS (opS (opS (opS (opS (opS (opS (opS (opS (opS (opS (opS (opS (opS (opS (opS op0))))))))))))))))))) (by as_aux_lemma => kernel_rfl) (fun K hK => ?_)
            go_simp
            refine hK.out _ _ (fun e he => Hq4.out e (by intro h; subst h; simp at he)) ?_
            clear hK K
            try simp only [Act.put, List.setIfInBounds_toArray, List.set_cons_zero, List.set_cons_succ]
            refine wpAnyT_one (i := 20) [] #[true, true, true, true, true, true, true, true, true, true, true, true, true, true, true, true, true, true, true, true, true] (opS (opS (opS (opS (opS (opS (opS (opS (opS (opS (opS (opS (opS (opS (opS (opS (opS (opS (opS (opS op0)))))))))))))))))))) (by as_aux_lemma => kernel_rfl) (fun K hK => ?_)
            go_simp
            refine hK.out _ _ (fun e he => (by simp at he)) ?_
            clear hK K
            try simp only [Act.put, List.setIfInBounds_toArray, List.set_cons_zero, List.set_cons_succ]
            refine wpAnyT_done (by as_aux_lemma => kernel_rfl) ?_ _
            refine ⟨((((KeepsOthers.alloc W _).trans (KeepsOthers.alloc _ _)).trans ((KeepsOthers.setCell _ _ _).trans (KeepsOthers.setCell _ _ _))).trans (KeepsOthers.drew _)).from _, (((((KeepEx.refl W).alloc h7 _).alloc (by simp; omega) _).setCell (q := ⟨s0 + 1, 0, none⟩) (.inl rfl) _).setCell (q := ⟨s0 + 1 + 1, 0, none⟩) (.inr rfl) _).drew, ⟨⟨_, _, ⟨?_, ?_⟩, Fm.ab_next h3, Fm.be_next h4⟩, ?_, ?_⟩, ?_⟩
            · exact ((((h1.alloc _).alloc _).set _).other (by omega) _)
            · exact ((((h2.alloc _).alloc _).other (by omega) _).set _)
            · exact st_cell (by intro h; injection h; omega) (st_cell (by intro h; injection h; omega) (al_cell (al_cell h5)))
            · simp; omega
            · exact ((((h6.alloc (by omega) _).alloc (by simp; omega) _).setCell (p := ⟨s0 + 1, 0, none⟩) (by show s0 ≤ s0 + 1; omega) _).setCell (p := ⟨s0 + 1 + 1, 0, none⟩) (by show s0 ≤ s0 + 1 + 1; omega) _).drew
          case done =>
            rintro D ys W hD rfl ⟨⟨⟨a, c, ⟨h1, h2⟩, h3, h4⟩, h5, h7⟩, h6⟩ hK
            have cA := h1.cell
            have cB := h2.cell
            have hz := h6.size
            have HS : Hid (Fm.ad (Fm.sm l x i0 % 1073741789) (Fm.ml a (Fm.inv c)) = Fm.sm l x (i0 + 1) % 1073741789) := by
              show _ = _
              have h7 := HL.out
              rw [h7] at h3 h4
              exact Fm.sm_next l x _ i0 (by omega) (Fm.ab_end h3 h4)
            clear h3 h4
            gi_wp2_with (first | (refine ⟨trivial, ?_⟩; gi_at_call 10; refine (callsIn_wide.2 (inv_any _ _)).mono ?_; rintro e w' ⟨rfl, rfl⟩) | (refine ⟨trivial, ?_⟩; gi_at_call 16; refine (callsIn_wide.2 (mul_any _ _ _)).mono ?_; rintro e w' ⟨rfl, rfl⟩) | (refine ⟨trivial, ?_⟩; gi_at_call 26; refine (callsIn_wide.2 (sum_new _ _ _)).mono ?_; rintro e w' ⟨rfl, rfl⟩))
            have hDl : D < W.heap.size := (Array.getElem?_eq_some_iff.1 hK).1
            have h8 : Below s0 wr2 (W.alloc (.cells #[.int .i64 (Fm.sm l x i0 % 1073741789), .int .i64 (Fm.ml a (Fm.inv c))] 3)) := h6.alloc (by omega) _
            refine ⟨?_, ?_⟩
            · rw [HI.out]
              exact ⟨_, i0 + 1, rfl, rfl, rfl, rfl, rfl, rfl, rfl, (by show Value.int .i64 ((i0 : Int) + 1) = _; go_num), by omega, HS.out, (hm.keep h8).cons (by omega) (by omega) (by simp; omega) ((Below.heap_alloc W _ D hDl).trans hK), (h8.block _ hlx).trans hbx, hb.trans (h8.mono hsl)⟩
            · rw [HM.out]
              show k - (intOf (.int .i64 ((i0 : Int) + 1))).toNat < k - (intOf (.int .i64 (i0 : Int))).toNat
              simp only [intOf]
              omega
          case stop =>
            rintro D c pre W _ _ h _
            exact h.elim
        · obtain rfl : i0 = k := by omega
          have HE : Hid (y0 = Fm.lag l x) := by show _ = _; rw [hy, HL.out]; exact Fm.lag_sm l x
          clear hy hlt
          gi_wp2
          refine leaves_marks ds _ hm fun w' hb' => ?_
          exact ⟨_, results_tmp2 rfl _ _ _, (by show Ending.returned (.tuple #[.int .i64 y0, .int .i64 0]) = _; exact ret_tup2 HE.out rfl), hb.trans hb'⟩
end Go.Proofs.Ytdajanoikcemoaa
