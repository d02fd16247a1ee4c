/- Package codec: numerals, and the encoding of lists of integers (and texts). -/
import Derived.Test.YtpjggokaolnbcaaDoorOne
import Derived.Deep.RegionHeld3
import Derived.Deep.AppendLies
import Derived.Deep.QuietTactic
import Derived.BigQuiet
import Derived.WalkKit
import Derived.Handy
import Derived.WalkLawsBesides
import Derived.WalkSpells
import Derived.Outline
import Derived.IntWalk
import Derived.Deep.LoopGhost
import Derived.Test.YtpjggokaolnbcaaDoorChecked
namespace Go.Proofs.YtpjggokaolnbcaaDoor
open Go.RowKit
set_option linter.unusedVariables false
namespace Cd
def numL (u : Nat) : List Int := if h : u < 128 then [(u : Int)] else bits .or .u8 (IntKind.u8.wrap u) 128 :: numL (u / 128)
termination_by u
decreasing_by omega
theorem numL_small {u : Nat} (h : u < 128) : numL u = [(u : Int)] := by rw [numL, dif_pos h]
theorem numL_big {u : Nat} (h : ¬ u < 128) : numL u = bits .or .u8 (IntKind.u8.wrap u) 128 :: numL (u / 128) := by rw [numL, dif_neg h]
theorem numL_len : ∀ (k u : Nat), u < 128 ^ (k + 1) → (numL u).length ≤ k + 1
  | 0, u, h => by rw [numL_small (by simpa using h)]; simp
  | k + 1, u, h => by
    by_cases h1 : u < 128
    · rw [numL_small h1]; simp
    · rw [numL_big h1, List.length_cons]
      have := numL_len k (u / 128) (by rw [Nat.pow_succ] at h; omega)
      omega
theorem numL_ten {u : Nat} (h : u < 18446744073709551616) : (numL u).length ≤ 10 := numL_len 9 u (by omega)
end Cd
/-- a slice of bytes of the call's own, grown by ys -/
structure Grew (base : Nat) (w : World) (v : Value) (n : Nat) (xs : List Int) (w' : World) (v' : Value) (ys : List Int) : Prop where
  own : w'.ownsRow base 5 1 v' (n + ys.length) ((xs ++ ys).map (Value.int .u8))
  grow : w.grownBy w' v.ownBlock
  blk : ∀ j, v'.ownBlock = some j → w.heap.size ≤ j ∨ v.ownBlock = some j
theorem Grew.then {base : Nat} {a b c : World} {v v1 v2 : Value} {n : Nat} {xs ys zs : List Int} (h : Grew base a v n xs b v1 ys) (k : Grew base b v1 (n + ys.length) (xs ++ ys) c v2 zs) : Grew base a v n xs c v2 (ys ++ zs) := by
  refine ⟨?_, grown_then h.grow k.grow h.blk, fun j hj => ?_⟩
  · have := k.own
    rwa [List.append_assoc, Nat.add_assoc, ← List.length_append] at this
  · rcases k.blk j hj with h1 | h1
    · exact .inl (Nat.le_trans h.grow.size h1)
    · exact h.blk j h1
theorem infoU8c : (Tryd.prog.info? 5).map (fun i => (i.zero, i.size, i.bytes)) = some (some (.int .u8 0), 1, 1) := by kernel_rfl
/-- one byte laid on -/
theorem Grew.byte {base : Nat} {w w' : World} {v v' : Value} {n : Nat} {xs : List Int} {x : Int} {o : Obj} (hown : w'.ownsRow base 5 1 v' (n + 1) (xs.map (Value.int .u8) ++ [.int .u8 x]))
    (hg : (w.alloc o).grownBy w' v.ownBlock) (hb : v'.ownBlock = v.ownBlock ∨ v'.ownBlock = some (w.alloc o).heap.size) : Grew base w v n xs w' v' [x] := by
  refine ⟨by simpa using hown, grown_then (World.grownBy_alloc w o _) hg (fun j hj => .inr hj), fun j hj => ?_⟩
  rcases hb with hb | hb
  · exact .inr (hb ▸ hj)
  · rw [hb] at hj; injection hj with hj; simp at hj; exact .inl (by omega)
theorem one_at (w : World) (x : Value) (t : TypeId) (g : Nat) (hg : g = w.heap.size) : ∀ (j : Nat) (u : Value), [x][j]? = some u → (w.alloc (.cells #[x] t)).cell? ((⟨g, 0, none⟩ : Addr).add j) = some u := by
  subst hg
  intro j u hj
  match j, hj with
  | 0, hj =>
    simp at hj
    subst hj
    have h := cell_of_row (w.alloc (.cells #[x] t)) w.heap.size 0 _ _ _ (heap_alloc_new w _)
    rw [Addr.add_flat, h]
    rfl
theorem wp_atc {P : Program} {o : Oper} {a : Act} {ops : Array Oper} {w : World} {K : Act → World → Prop} {Q : Exit → Act → World → Prop} {E : Prop} (hgd : o.guard = none) (h : Oper.wp P o a w K Q) :
    if Region.wanted o (yielded ops a.tmps) = true then Oper.wp P o a w K Q else E := by
  have hw : Region.wanted o (yielded ops a.tmps) = true := by simp [Region.wanted, hgd]
  rw [if_pos hw]
  exact h
def NumPost (base : Nat) (w : World) (v : Value) (n : Nat) (xs ys : List Int) (e : Ending) (w' : World) : Prop := ∃ v', e = .returned v' ∧ Grew base w v n xs w' v' ys
set_option maxRecDepth 100000 in
set_option maxHeartbeats 1000000 in
theorem numeral_any (base : Nat) (v : Value) (n : Nat) (xs : List Int) (u : Nat) (w : World) (hown : w.ownsRow base 5 1 v n (xs.map (Value.int .u8))) (hu : u < 18446744073709551616) (hn : n ≤ 1000000) (hbase : base ≤ w.heap.size) :
    Calls Tryd.prog 47 #[v, .int .u64 u] w (NumPost base w v n xs (Cd.numL u)) := by
  obtain ⟨i0, hi, hz0, hz1, hz2⟩ := info_parts infoU8c
  have hten := Cd.numL_ten hu
  have HT := Lib.hid hten
  have hgr : Grew base w v n xs w v [] := ⟨by simpa using hown, World.grownBy.refl _ _, fun j hj => .inr hj⟩
  clear hten hown
  go_enter Tryd.func47, Tryd.ntmps47
  go_wp2
  go_loopw [0, 1] (fun b x wx => ∃ (y : Nat) (ys : List Int), x = .int .u64 y ∧ y ≤ u ∧ Cd.numL u = ys ++ Cd.numL y ∧ Grew base w v n xs wx b ys) (fun _ x _ => (intOf x).toNat)
  case atStart => exact ⟨u, [], rfl, Nat.le_refl _, rfl, hgr⟩
  case round =>
    clear hgr
    obtain ⟨y, ys, rfl, hy, hys, hG⟩ := hrel
    have hyl : ys.length ≤ 10 := by have := HT.out; rw [hys, List.length_append] at this; omega
    have hbs := Nat.le_trans hbase hG.grow.size
    by_cases h128 : y < 128
    · have HY := Lib.hid (Cd.numL_small h128)
      have HYS := Lib.hid hys
      clear hys
      have k1 : (y : Int) < 128 := by omega
      go_wp2_with (at_builtin; refine wpList_append_own_at _ rfl (.tmp 15) (.tmp 18) 23 rfl base 5 i0 (.int .u8 0) 1 1 Tryd.underlying23 hi hz0 hz1 hz2 rfl (by decide) _ (n + ys.length) _ (by rfl) (hG.own.alloc _) _ 1 1 [.int .u8 y] (by rfl) rfl (one_at _ _ _ _ (by simp)) (fun u hu => by simp at hu; subst hu; rfl) (by unfold maxLen; omega) (by omega) (by simp; omega) ?_; intro v' w2 ho hg _ hb2)
      have hG2 := hG.then (Grew.byte ho hg hb2)
      go_wp2
      go_ret
      exact ⟨v', rfl, by rw [HYS.out, HY.out]; exact hG2⟩
    · have HY := Lib.hid (Cd.numL_big h128)
      have HYS := Lib.hid hys
      clear hys
      have k1 : (128 : Int) ≤ y := by omega
      go_wp2_with (at_builtin; refine wpList_append_own_at _ rfl (.tmp 9) (.tmp 13) 23 rfl base 5 i0 (.int .u8 0) 1 1 Tryd.underlying23 hi hz0 hz1 hz2 rfl (by decide) _ (n + ys.length) _ (by rfl) (hG.own.alloc _) _ 1 1 [.int .u8 (bits .or .u8 (IntKind.u8.wrap y) 128)] (by rfl) rfl (one_at _ _ _ _ (by simp)) (fun u hu => by simp at hu; subst hu; rfl) (by unfold maxLen; omega) (by omega) (by simp; omega) ?_; intro v' w2 ho hg _ hb2)
      have hG2 := hG.then (Grew.byte ho hg hb2)
      clear ho hg hb2
      go_wp2
      go_roundw
      case rel => exact ⟨y / 128, _, by go_num, by omega, by rw [HYS.out, HY.out, List.append_assoc]; rfl, hG2⟩
      case measure => simp [intOf]; omega
end Go.Proofs.YtpjggokaolnbcaaDoor
