/- Package codec: the writer, and Encode. -/
import Derived.Test.YtpjggokaolnbcaaDoorCodec2
import Derived.Laws.EntriesVeiled
namespace Go.Proofs.YtpjggokaolnbcaaDoor
open Go.RowKit
set_option linter.unusedVariables false
/-- a writer: the table of functions at g, the variable that the list's closure captured at g + 1 -/
structure Wr (w : World) (g : Nat) : Prop where
  c1 : w.cell? ⟨g, 1, none⟩ = some (.func (.func 46) #[] #[])
  c2 : w.cell? ⟨g, 2, none⟩ = some (.func (.func 49) #[] #[])
  c3 : w.cell? ⟨g, 3, none⟩ = some (.func (.func 50) #[] #[.pointer (some ⟨g + 1, 0, none⟩)])
  c4 : w.cell? ⟨g + 1, 0, none⟩ = some (.pointer (some ⟨g, 0, none⟩))
theorem Wr.keep {w w' : World} {g : Nat} (h : Wr w g) (hk : ∀ p : Addr, p.block = g ∨ p.block = g + 1 → w'.cell? p = w.cell? p) : Wr w' g :=
  ⟨(hk _ (.inl rfl)).trans h.c1, (hk _ (.inl rfl)).trans h.c2, (hk _ (.inl rfl)).trans h.c3, (hk _ (.inr rfl)).trans h.c4⟩
set_option maxRecDepth 100000 in
set_option maxHeartbeats 1000000 in
theorem writer_any (w : World) : Calls Tryd.prog 36 #[] w fun e w' => e = .returned (.pointer (some ⟨w.heap.size, 0, none⟩)) ∧ Wr w' w.heap.size ∧ Below w.heap.size w w' ∧ w'.heap.size = w.heap.size + 2 := by
  go_enter Tryd.func36, Tryd.ntmps36
  go_wp2
  go_ret
  refine ⟨rfl, ⟨?_, ?_, ?_, ?_⟩, ((Below.refl _ _).alloc (Nat.le_refl _) _).alloc (by simp) _, by simp⟩
  · rw [World.cell?_alloc_lt _ _ _ (by simp)]; exact alloc_cell1 w _ _ _ _
  · rw [World.cell?_alloc_lt _ _ _ (by simp), cell_of_row _ w.heap.size 2 _ _ _ (heap_alloc_new w _)]; rfl
  · rw [World.cell?_alloc_lt _ _ _ (by simp), cell_of_row _ w.heap.size 3 _ _ _ (heap_alloc_new w _)]; rfl
  · have h := alloc_cell0 (w.alloc (.cells #[.nilFunc, .func (.func 46) #[] #[], .func (.func 49) #[] #[], .func (.func 50) #[] #[.pointer (some ⟨w.heap.size + 1, 0, none⟩)]] 79)) (.pointer (some ⟨w.heap.size, 0, none⟩)) [] 67
    rwa [World.size_alloc] at h
theorem rd_one (W : World) (t : TypeId) (x : Value) (g : Nat) (hg : g = W.heap.size) : Rd (W.alloc (.cells #[x] t)) (W.alloc (.cells #[x] t)).heap.size 1 (some ⟨g, 0, none⟩) 1 [x] := by
  subst hg
  refine ⟨rfl, fun _ => ⟨W.heap.size, 0, rfl, by simp, fun j u hu => ?_⟩⟩
  match j, hu with
  | 0, hu =>
    simp at hu
    subst hu
    rw [cell_of_row _ W.heap.size 0 _ _ _ (heap_alloc_new W _)]; rfl
theorem Grew.mk1 {base : Nat} {w wp w' : World} {v v' : Value} {n : Nat} {xs ys : List Int} (hpre : w.grownBy wp v.ownBlock) (hown : w'.ownsRow base 5 1 v' (n + ys.length) (xs.map (Value.int .u8) ++ ys.map (Value.int .u8)))
    (hg : wp.grownBy w' v.ownBlock) (hb : v'.ownBlock = v.ownBlock ∨ v'.ownBlock = some wp.heap.size) : Grew base w v n xs w' v' ys := by
  refine ⟨by rw [List.map_append]; exact hown, grown_then hpre hg (fun j hj => .inr hj), fun j hj => ?_⟩
  rcases hb with hb | hb
  · exact .inr (hb ▸ hj)
  · rw [hb] at hj; injection hj with hj; exact .inl (by rw [← hj]; exact hpre.size)
theorem cell_box2 (w : World) (o o' : Obj) {p : Addr} {v : Value} (h : (w.alloc o).cell? p = some v) : ((w.alloc o).alloc o').drew.cell? p = some v := by
  show ((w.alloc o).alloc o').cell? p = some v
  rw [World.cell?_alloc_lt _ _ _ (World.block_lt_of_cell? _ _ h)]
  exact h
theorem own_ne {g H : Nat} {v v1 : Value} (hne : some g ≠ v.ownBlock) (hb : v1.ownBlock = v.ownBlock ∨ v1.ownBlock = some H) (hH : g ≠ H) : some g ≠ v1.ownBlock := by
  rcases hb with hb | hb
  · rw [hb]; exact hne
  · rw [hb]; intro e; injection e with e; exact hH e
set_option maxRecDepth 100000 in
set_option maxHeartbeats 1000000 in
theorem w1_any (base : Nat) (v : Value) (n : Nat) (xs : List Int) (z : Nat) (w : World) (hown : w.ownsRow base 5 1 v n (xs.map (Value.int .u8))) (hz : z < 4611686018427387904) (hn : n ≤ 900000) (hbase : base ≤ w.heap.size) :
    Calls Tryd.prog 46 #[v, intV z] w (NumPost base w v n xs (1 :: Cd.numL (2 * z))) := by
  obtain ⟨i0, hi, hz0, hz1, hz2⟩ := info_parts infoU8c
  have hne := own_far hown
  have hbox : (w.alloc (.cells #[.int .i64 1, .int .i64 z, .string ⟨#[]⟩, .slice none 0 0] 52)).cell? ⟨w.heap.size, 1, none⟩ = some (.int .i64 z) := alloc_cell1 w _ _ _ _
  unfold intV
  go_enter Tryd.func46, Tryd.ntmps46
  go_wp2
  go_region_held3 (fun w' => w'.cell? ⟨w.heap.size, 1, none⟩ = some (.int .i64 z))
    (first
      | go_keep
      | exact hq1
      | exact (hG.grow.cell_far ⟨w.heap.size, 1, none⟩ hlt1 hne1).trans hq1)
    ((first | (go_at_call 48; (with_reducible refine (unsigned_any z hz _).mono ?_); rintro e w' ⟨rfl, rfl⟩) | (go_at_call 47; (refine (numeral_any base v1 (n + 1) (xs ++ [1]) (2 * z) w1 (by simpa using hown1) (by omega) (by omega) (by omega)).mono ?_); rintro e w3 ⟨v3, rfl, hG⟩) | (refine wp_atc (by rfl) (wp_append_rd _ (.tmp 5) (.tmp 6) 23 (by rfl) base 5 i0 _ 1 1 Tryd.underlying23 hi hz0 hz1 hz2 rfl (by omega) v n _ (by rfl) ((hown.alloc _).alloc _).drew _ _ 1 _ [.int .u8 1] (by rfl) (rd_one _ _ _ _ (by simp)).drew (fun u hu => by simp at hu; subst hu; rfl) (by unfold maxLen; omega) (by omega) (by simp; omega) ?_); intro v1 w1 hown1 hg1 hb1; have hq1 := (hg1.cell_far ⟨w.heap.size, 1, none⟩ (by simp; omega) hne).trans (cell_box2 w _ _ hbox); have hlt1 : w.heap.size < w1.heap.size := (by have := hg1.size; simp at this; omega); have hne1 := own_ne hne hb1 (by simp; omega))))
  have hG0 : Grew base w v n xs w1 v1 [1] := Grew.mk1 (grown_drew (grown_alloc (World.grownBy_alloc w _ _) _)) hown1 hg1 hb1
  have hG2 := hG0.then hG
  clear hG0 hG hown1 hg1 hb1 hq1 hne1
  go_wp2
  go_ret
  exact ⟨v3, rfl, hG2⟩
end Go.Proofs.YtpjggokaolnbcaaDoor
