/- Package codec: the list's writer at two integers, and Encode. -/
import Derived.Test.YtllabahapaeedaaDoorCodec3
namespace Go.Proofs.YtllabahapaeedaaDoor
open Go.RowKit
set_option linter.unusedVariables false
def enc2 (z1 z2 : Nat) : List Int := [3] ++ [(2 : Int)] ++ (1 :: Cd.numL (2 * z1)) ++ (1 :: Cd.numL (2 * z2))
theorem numL_two : Cd.numL 2 = [(2 : Int)] := Cd.numL_small (by omega)
/-- what holds of old cells, behind a row's growth -/
theorem grew_cell {base : Nat} {w w' : World} {v v' : Value} {n : Nat} {xs ys : List Int} (h : Grew base w v n xs w' v' ys) (hv : ∀ j, v.ownBlock = some j → base ≤ j) {p : Addr} (hp : p.block < base) (hs : base ≤ w.heap.size) : w'.cell? p = w.cell? p :=
  World.cell?_of_block (h.grow.block p.block (by omega) (fun e => by have := hv _ e.symm; omega))
theorem grew_keep {base : Nat} {w w' : World} {v v' : Value} {n H : Nat} {xs ys : List Int} (h : Grew base w v n xs w' v' ys) (hv : ∀ j, v.ownBlock = some j → base ≤ j) (hH : some H ≠ v.ownBlock) (hlt : H < w.heap.size) (hs : base ≤ w.heap.size) :
    ∀ p : Addr, (p.block < base ∨ p.block = H) → w'.cell? p = w.cell? p := fun p hp =>
  World.cell?_of_block (h.grow.block p.block (by rcases hp with hp | hp <;> omega) (fun e => by
    rcases hp with hp | hp
    · have := hv _ e.symm; omega
    · rw [hp] at e; exact hH e))
/-- growth that began behind some blocks more -/
theorem Grew.pre {base : Nat} {w w1 w' : World} {v v' : Value} {n : Nat} {xs ys : List Int} (h : Grew base w1 v n xs w' v' ys) (hp : w.grownBy w1 v.ownBlock) : Grew base w v n xs w' v' ys :=
  ⟨h.own, grown_then hp h.grow (fun j hj => .inr hj), fun j hj => by
    rcases h.blk j hj with h1 | h1
    · exact .inl (Nat.le_trans hp.size h1)
    · exact .inr h1⟩
set_option maxRecDepth 100000 in
set_option maxHeartbeats 2000000 in
theorem w3_two (base : Nat) (g c gw : Nat) (z1 z2 : Nat) (w : World) (hz1 : z1 < 4611686018427387904) (hz2 : z2 < 4611686018427387904) (hbase : base ≤ w.heap.size) (hgw : gw + 1 < base) (hg : g < base)
    (hr : Rd w base 4 (some ⟨g, 0, none⟩) 2 (intCells [(z1 : Int), (z2 : Int)])) (hW : Wr w gw) :
    Calls Tryd.prog 50 #[.slice none 0 0, listV (some ⟨g, 0, none⟩) 2 c, .pointer (some ⟨gw + 1, 0, none⟩)] w (NumPost base w (.slice none 0 0) 0 [] (enc2 z1 z2)) := by
  obtain ⟨i0, hi, hz0', hz1', hz2'⟩ := info_parts infoU8c
  have hbox : (w.alloc (.cells #[.int .i64 3, .int .i64 0, .string ⟨#[]⟩, .slice (some ⟨g, 0, none⟩) 2 c] 58)).cell? ⟨w.heap.size, 3, none⟩ = some (.slice (some ⟨g, 0, none⟩) 2 c) := by
    rw [cell_of_row _ w.heap.size 3 _ _ _ (heap_alloc_new w _)]; rfl
  have hown : w.ownsRow base 5 1 (.slice none 0 0) 0 (([] : List Int).map (Value.int .u8)) := World.ownsRow_nil _ _ _ _
  have hne : some w.heap.size ≠ (Value.slice none 0 0).ownBlock := by simp [Value.ownBlock]
  have HW := Lib.hid hW
  have HR := Lib.hid hr
  clear hW hr
  unfold listV
  go_enter Tryd.func50, Tryd.ntmps50
  go_wp2
  go_region_held3 (fun w' => w'.cell? ⟨w.heap.size, 3, none⟩ = some (.slice (some ⟨g, 0, none⟩) 2 c))
    (first
      | (go_keep; done)
      | exact hq1
      | exact (hG.grow.cell_far ⟨w.heap.size, 3, none⟩ hlt1 hne1).trans hq1)
    ((first | (go_at_call 47; (refine (numeral_any base v1 1 [3] 2 w1 (by simpa using hown1) (by omega) (by omega) (by omega)).mono ?_); rintro e w3 ⟨v3, rfl, hG⟩) | (refine wp_atc (by rfl) (wp_append_rd _ (.tmp 8) (.tmp 9) 53 (by rfl) base 5 i0 _ 1 1 Tryd.underlying53 hi hz0' hz1' hz2' rfl (by omega) (.slice none 0 0) 0 _ (by rfl) ((hown.alloc _).alloc _).drew _ _ 1 _ [.int .u8 3] (by rfl) (rd_one _ _ _ _ (by simp)).drew (fun u hu => by simp at hu; subst hu; rfl) (by unfold maxLen; omega) (by omega) (by simp; omega) ?_); intro v1 w1 hown1 hg1 hb1; have hq1 := (hg1.cell_far ⟨w.heap.size, 3, none⟩ (by simp; omega) hne).trans (cell_box2 w _ _ hbox); have hlt1 : w.heap.size < w1.heap.size := (by have := hg1.size; simp at this; omega); have hne1 := own_ne hne hb1 (by simp; omega))))
  have hG0 : Grew base w (.slice none 0 0) 0 [] w1 v1 [3] := Grew.mk1 (grown_drew (grown_alloc (World.grownBy_alloc w _ _) _)) hown1 hg1 hb1
  have hG2 := hG0.then hG
  rw [numL_two] at hG2
  have hq3 := (hG.grow.cell_far ⟨w.heap.size, 3, none⟩ hlt1 hne1).trans hq1
  clear hG0 hG hown1 hg1 hb1 hq1 hne1 hlt1 hbox hown hne
  go_wp2
  refine wp_loop_rounds 3 ?_
  rw [rounds_succ]
  have hk0 : ∀ p : Addr, p.block < base → w3.cell? p = w.cell? p := fun p hp => grew_cell hG2 (fun j h => by cases h) hp hbase
  have hw0 := HW.out.keep (w' := w3) (fun p hp => hk0 p (by omega))
  have hr0 := HR.out.keep (w' := w3) hk0
  obtain ⟨hr0b, hr0o, e0, _, hr0c⟩ := hr0.2 (by omega)
  injection e0 with e0
  injection e0 with e01 e02
  subst e01; subst e02
  have p0 : w3.cell? ⟨g, 0, none⟩ = some (.int .i64 1) := hr0c 0 _ rfl
  have p1 : w3.cell? ⟨g, 1, none⟩ = some (.int .i64 z1) := hr0c 1 _ rfl
  have p2 : w3.cell? ⟨g, 2, none⟩ = some (.string ⟨#[]⟩) := hr0c 2 _ rfl
  have p3 : w3.cell? ⟨g, 3, none⟩ = some (.slice none 0 0) := hr0c 3 _ rfl
  have hsz0 : base ≤ w3.heap.size := Nat.le_trans hbase hG2.grow.size
  have s1 : (w3.alloc (.cells #[.int .i64 1, .int .i64 z1, .string ⟨#[]⟩, .slice none 0 0] 58)).cell? ⟨gw + 1, 0, none⟩ = some (.pointer (some ⟨gw, 0, none⟩)) := by rw [World.cell?_alloc_lt _ _ _ (by show gw + 1 < _; omega)]; exact hw0.c4
  have s2 : (w3.alloc (.cells #[.int .i64 1, .int .i64 z1, .string ⟨#[]⟩, .slice none 0 0] 58)).cell? ⟨gw, 1, none⟩ = some (.func (.func 46) #[] #[]) := by rw [World.cell?_alloc_lt _ _ _ (by show gw < _; omega)]; exact hw0.c1
  have s3 : (w3.alloc (.cells #[.int .i64 1, .int .i64 z1, .string ⟨#[]⟩, .slice none 0 0] 58)).cell? ⟨w3.heap.size, 0, none⟩ = some (.int .i64 1) := by rw [cell_of_row _ w3.heap.size 0 _ _ _ (heap_alloc_new w3 _)]; rfl
  have s4 : (w3.alloc (.cells #[.int .i64 1, .int .i64 z1, .string ⟨#[]⟩, .slice none 0 0] 58)).cell? ⟨w3.heap.size, 1, none⟩ = some (.int .i64 z1) := by rw [cell_of_row _ w3.heap.size 1 _ _ _ (heap_alloc_new w3 _)]; rfl
  have s5 : (w3.alloc (.cells #[.int .i64 1, .int .i64 z1, .string ⟨#[]⟩, .slice none 0 0] 58)).cell? ⟨w3.heap.size, 2, none⟩ = some (.string ⟨#[]⟩) := by rw [cell_of_row _ w3.heap.size 2 _ _ _ (heap_alloc_new w3 _)]; rfl
  have s6 : (w3.alloc (.cells #[.int .i64 1, .int .i64 z1, .string ⟨#[]⟩, .slice none 0 0] 58)).cell? ⟨w3.heap.size, 3, none⟩ = some (.slice none 0 0) := by rw [cell_of_row _ w3.heap.size 3 _ _ _ (heap_alloc_new w3 _)]; rfl
  have hxn : some w3.heap.size ≠ v3.ownBlock := own_far hG2.own
  have hxb : ∀ j, v3.ownBlock = some j → base ≤ j := fun j hj => (hG2.own.lt j hj).1
  clear hk0 hw0 hr0 hr0c
  go_wp2
  go_region_held3 (fun w' => w'.cell? ⟨gw + 1, 0, none⟩ = some (.pointer (some ⟨gw, 0, none⟩)) ∧ w'.cell? ⟨gw, 1, none⟩ = some (.func (.func 46) #[] #[]) ∧ w'.cell? ⟨w3.heap.size, 0, none⟩ = some (.int .i64 1) ∧ w'.cell? ⟨w3.heap.size, 1, none⟩ = some (.int .i64 z1) ∧ w'.cell? ⟨w3.heap.size, 2, none⟩ = some (.string ⟨#[]⟩) ∧ w'.cell? ⟨w3.heap.size, 3, none⟩ = some (.slice none 0 0))
    (first
      | (go_keep; done)
      | (go_split_ands
         refine ⟨?_, ?_, ?_, ?_, ?_, ?_⟩
         · exact (hk4 ⟨gw + 1, 0, none⟩ (.inl (by show gw + 1 < base; omega))).trans s1
         · exact (hk4 ⟨gw, 1, none⟩ (.inl (by show gw < base; omega))).trans s2
         · exact (hk4 ⟨w3.heap.size, 0, none⟩ (.inr rfl)).trans s3
         · exact (hk4 ⟨w3.heap.size, 1, none⟩ (.inr rfl)).trans s4
         · exact (hk4 ⟨w3.heap.size, 2, none⟩ (.inr rfl)).trans s5
         · exact (hk4 ⟨w3.heap.size, 3, none⟩ (.inr rfl)).trans s6))
    ((go_at_call 46; (refine (w1_any base v3 _ _ z1 _ (hG2.own.alloc _).drew hz1 (by simp) (by simp; omega)).mono ?_); rintro e w4 ⟨v4, rfl, hG4⟩; have hk4 := grew_keep hG4 hxb hxn (by simp) (by simp; omega)))
  have hG2 := hG2.then (Grew.pre hG4 (grown_drew (World.grownBy_alloc w3 _ _)))
  clear hG4 hk4 p0 p1 p2 p3 s1 s2 s3 s4 s5 s6 hxn hxb
  go_wp2
  rw [rounds_succ]
  have hk1 : ∀ p : Addr, p.block < base → w4.cell? p = w.cell? p := fun p hp => grew_cell hG2 (fun j h => by cases h) hp hbase
  have hw1 := HW.out.keep (w' := w4) (fun p hp => hk1 p (by omega))
  have hr1 := HR.out.keep (w' := w4) hk1
  obtain ⟨hr1b, hr1o, e1, _, hr1c⟩ := hr1.2 (by omega)
  injection e1 with e1
  injection e1 with e11 e12
  subst e11; subst e12
  have p0 : w4.cell? ⟨g, 4, none⟩ = some (.int .i64 1) := hr1c 4 _ rfl
  have p1 : w4.cell? ⟨g, 5, none⟩ = some (.int .i64 z2) := hr1c 5 _ rfl
  have p2 : w4.cell? ⟨g, 6, none⟩ = some (.string ⟨#[]⟩) := hr1c 6 _ rfl
  have p3 : w4.cell? ⟨g, 7, none⟩ = some (.slice none 0 0) := hr1c 7 _ rfl
  have hsz1 : base ≤ w4.heap.size := Nat.le_trans hbase hG2.grow.size
  have s1 : (w4.alloc (.cells #[.int .i64 1, .int .i64 z2, .string ⟨#[]⟩, .slice none 0 0] 58)).cell? ⟨gw + 1, 0, none⟩ = some (.pointer (some ⟨gw, 0, none⟩)) := by rw [World.cell?_alloc_lt _ _ _ (by show gw + 1 < _; omega)]; exact hw1.c4
  have s2 : (w4.alloc (.cells #[.int .i64 1, .int .i64 z2, .string ⟨#[]⟩, .slice none 0 0] 58)).cell? ⟨gw, 1, none⟩ = some (.func (.func 46) #[] #[]) := by rw [World.cell?_alloc_lt _ _ _ (by show gw < _; omega)]; exact hw1.c1
  have s3 : (w4.alloc (.cells #[.int .i64 1, .int .i64 z2, .string ⟨#[]⟩, .slice none 0 0] 58)).cell? ⟨w4.heap.size, 0, none⟩ = some (.int .i64 1) := by rw [cell_of_row _ w4.heap.size 0 _ _ _ (heap_alloc_new w4 _)]; rfl
  have s4 : (w4.alloc (.cells #[.int .i64 1, .int .i64 z2, .string ⟨#[]⟩, .slice none 0 0] 58)).cell? ⟨w4.heap.size, 1, none⟩ = some (.int .i64 z2) := by rw [cell_of_row _ w4.heap.size 1 _ _ _ (heap_alloc_new w4 _)]; rfl
  have s5 : (w4.alloc (.cells #[.int .i64 1, .int .i64 z2, .string ⟨#[]⟩, .slice none 0 0] 58)).cell? ⟨w4.heap.size, 2, none⟩ = some (.string ⟨#[]⟩) := by rw [cell_of_row _ w4.heap.size 2 _ _ _ (heap_alloc_new w4 _)]; rfl
  have s6 : (w4.alloc (.cells #[.int .i64 1, .int .i64 z2, .string ⟨#[]⟩, .slice none 0 0] 58)).cell? ⟨w4.heap.size, 3, none⟩ = some (.slice none 0 0) := by rw [cell_of_row _ w4.heap.size 3 _ _ _ (heap_alloc_new w4 _)]; rfl
  have hxn : some w4.heap.size ≠ v4.ownBlock := own_far hG2.own
  have hxb : ∀ j, v4.ownBlock = some j → base ≤ j := fun j hj => (hG2.own.lt j hj).1
  clear hk1 hw1 hr1 hr1c
  go_wp2
  go_region_held3 (fun w' => w'.cell? ⟨gw + 1, 0, none⟩ = some (.pointer (some ⟨gw, 0, none⟩)) ∧ w'.cell? ⟨gw, 1, none⟩ = some (.func (.func 46) #[] #[]) ∧ w'.cell? ⟨w4.heap.size, 0, none⟩ = some (.int .i64 1) ∧ w'.cell? ⟨w4.heap.size, 1, none⟩ = some (.int .i64 z2) ∧ w'.cell? ⟨w4.heap.size, 2, none⟩ = some (.string ⟨#[]⟩) ∧ w'.cell? ⟨w4.heap.size, 3, none⟩ = some (.slice none 0 0))
    (first
      | (go_keep; done)
      | (go_split_ands
         refine ⟨?_, ?_, ?_, ?_, ?_, ?_⟩
         · exact (hk4 ⟨gw + 1, 0, none⟩ (.inl (by show gw + 1 < base; omega))).trans s1
         · exact (hk4 ⟨gw, 1, none⟩ (.inl (by show gw < base; omega))).trans s2
         · exact (hk4 ⟨w4.heap.size, 0, none⟩ (.inr rfl)).trans s3
         · exact (hk4 ⟨w4.heap.size, 1, none⟩ (.inr rfl)).trans s4
         · exact (hk4 ⟨w4.heap.size, 2, none⟩ (.inr rfl)).trans s5
         · exact (hk4 ⟨w4.heap.size, 3, none⟩ (.inr rfl)).trans s6))
    ((go_at_call 46; (refine (w1_any base v4 _ _ z2 _ (hG2.own.alloc _).drew hz2 (by have := Cd.numL_ten (u := 2 * z1) (by omega); simp; omega) (by simp; omega)).mono ?_); rintro e w5 ⟨v5, rfl, hG4⟩; have hk4 := grew_keep hG4 hxb hxn (by simp) (by simp; omega)))
  have hG2 := hG2.then (Grew.pre hG4 (grown_drew (World.grownBy_alloc w4 _ _)))
  clear hG4 hk4 p0 p1 p2 p3 s1 s2 s3 s4 s5 s6 hxn hxb
  go_wp2
  rw [rounds_succ]
  go_wp2
  go_ret
  exact ⟨v5, rfl, hG2⟩
end Go.Proofs.YtllabahapaeedaaDoor
