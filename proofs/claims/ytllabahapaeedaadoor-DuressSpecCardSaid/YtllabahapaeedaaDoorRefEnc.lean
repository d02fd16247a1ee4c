/- The reference's codec: the encoding of an integer. -/
import Derived.Test.YtllabahapaeedaaDoorRefInt
namespace Go.Proofs.YtllabahapaeedaaDoor
open Go.RowKit
set_option linter.unusedVariables false
set_option maxRecDepth 100000 in
set_option maxHeartbeats 1000000 in
theorem renc_int (u q : Int) (L : List Int) (hLp : 0 < L.length) (hLl : L.length ≤ 10) (hu : ∀ w, Calls Tryd.prog 56 #[.int .i64 u] w fun e w' => e = .returned (.int .u64 q) ∧ w = w')
    (ih : ∀ w, Calls Tryd.prog 55 #[.int .u64 q] w (OwnPost L w)) (w : World) :
    Calls Tryd.prog 43 #[intV u] w (OwnPost (1 :: L) w) := by
  obtain ⟨i0, hi, hz0, hz1, hz2⟩ := info_parts infoU8c
  have hown := World.ownsRow_lit (e := 5) (size := 1) (base := w.heap.size) (w.alloc (.cells #[.int .i64 1, .int .i64 u, .string ⟨#[]⟩, .slice none 0 0] 58)) #[.int .u8 1] 1 (by simp) (by decide) rfl
  rw [World.size_alloc] at hown
  have hB := ((Below.refl w.heap.size w).alloc (Nat.le_refl _) (.cells #[.int .i64 1, .int .i64 u, .string ⟨#[]⟩, .slice none 0 0] 58)).alloc (by simp) (.cells #[.int .u8 1] 5)
  have HO := Lib.hid (And.intro hown hB)
  obtain ⟨P, hP⟩ : ∃ P, OwnPost (1 :: L) w = P := ⟨_, rfl⟩
  rw [hP]
  have HP := Lib.hid hP
  clear hown hB hP
  unfold intV
  go_enter Tryd.func43, Tryd.ntmps43
  go_wp2_with fail
  refine (hu _).mono ?_
  rintro e w' ⟨rfl, rfl⟩
  go_wp2_with fail
  refine (ih _).mono ?_
  rintro e w2 ⟨g, cap, rfl, ho, hb⟩
  obtain ⟨hown, hB⟩ := HO.out
  have hown2 := own_below hown hb
  have hB2 := hB.trans (hb.mono (by simp; omega))
  have hsz : w.heap.size ≤ w2.heap.size := hB2.size
  have hc : ∀ j u, (L.map (Value.int .u8))[j]? = some u → w2.cell? ((⟨g, 0, none⟩ : Addr).add j) = some u := fun j u hj => by
    have hlt : j < L.length := by have := (List.getElem?_eq_some_iff.1 hj).1; simpa using this
    rw [show (⟨g, 0, none⟩ : Addr).add j = ⟨g, j, none⟩ by (simp [Addr.add]; exact fun h => h.symm), ho.cellAt j (by omega), hj]
  obtain ⟨m, hm⟩ : ∃ m, L.length = m := ⟨_, rfl⟩
  have hNL : (L.map (Value.int .u8)).length = m := by rw [List.length_map, hm]
  rw [hm] at hLp hLl ⊢
  have HM := Lib.hid hm
  clear hb ho hown hm
  go_wp2_with (at_builtin; refine wpList_append_lies _ rfl (.tmp 9) (.tmp 13) 53 rfl w.heap.size 5 i0 (.int .u8 0) 1 1 Tryd.underlying53 hi hz0 hz1 hz2 rfl (by decide) _ 1 _ (by rfl) hown2 ⟨g, 0, none⟩ m cap (L.map (Value.int .u8)) (by rfl) (by omega) hc (fun u hu => by obtain ⟨y, _, rfl⟩ := List.mem_map.1 hu; rfl) hLp (by unfold maxLen; omega) (by omega) hsz _ rfl ?_; intro g3 cap3 w3 ho3 hg3 hl3 hlt3)
  have hB3 := hB2.grown hg3 hB2.size (fun k e => by have e' : some (w.heap.size + 1) = some k := e; injection e' with e'; omega)
  go_wp2
  have h9 := HP.out
  have h8 := HM.out
  subst h9
  subst h8
  refine ⟨g3, cap3, by rw [List.length_cons, Nat.add_comm L.length 1]; rfl, ?_, hB3⟩
  rw [List.length_cons, Nat.add_comm L.length 1]
  exact ho3
theorem rencode_int (z : Nat) (hz : z < 4611686018427387904) (w : World) : Calls Tryd.prog 43 #[intV z] w (OwnPost (1 :: Cd.numL (2 * z)) w) :=
  renc_int (z : Int) ((2 * z : Nat) : Int) (Cd.numL (2 * z)) (numL_pos _) (Cd.numL_ten (by omega)) (fun w => runsigned_any z hz w) (rnumeral_any 9 (2 * z) (by omega) (by omega) (by omega)) w
end Go.Proofs.YtllabahapaeedaaDoor
