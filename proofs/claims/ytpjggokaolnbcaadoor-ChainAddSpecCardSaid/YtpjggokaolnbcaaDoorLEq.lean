/- Two digests are compared. -/
import Derived.Test.YtpjggokaolnbcaaDoorLHead2
import Derived.ChangeKeysEq
namespace Go.Proofs.YtpjggokaolnbcaaDoor
open Go.RowKit
set_option linter.unusedVariables false
theorem plain_u8 : Tryd.prog.plainKey 5 = true := by kernel_rfl
theorem cellsOf_u8 : Tryd.prog.cellsOf 5 = 1 := by kernel_rfl
theorem items_u8 (w : World) (d : Nat) (la lb : List Int) : ∀ (is : List Nat), (∀ i ∈ is, i < la.length ∧ i < lb.length) →
    (Op.eqItems (d + 1) 5 1 (la.map (Value.int .u8)).toArray (lb.map (Value.int .u8)).toArray is).run Tryd.prog w = .ok (is.all fun i => la.getD i 0 == lb.getD i 0) w
  | [], _ => by simp [Op.eqItems]
  | i :: is, h => by
    obtain ⟨h1, h2⟩ := h i (by simp)
    have p1 := run_part_plain (P := Tryd.prog) (w := w) plain_u8 (xs := (la.map (Value.int .u8)).toArray) (off := i * 1) (v := .int .u8 (la.getD i 0)) (by
      simp [List.getD_eq_getElem?_getD, List.getElem?_eq_getElem h1])
    have p2 := run_part_plain (P := Tryd.prog) (w := w) plain_u8 (xs := (lb.map (Value.int .u8)).toArray) (off := i * 1) (v := .int .u8 (lb.getD i 0)) (by
      simp [List.getD_eq_getElem?_getD, List.getElem?_eq_getElem h2])
    have p3 := run_equalIn_int (P := Tryd.prog) w d 5 .u8 .u8 (la.getD i 0) (lb.getD i 0) Tryd.underlying5
    have ih := items_u8 w d la lb is (fun j hj => h j (by simp [hj]))
    simp only [Op.eqItems, Sem.run_bind, p1, p2, p3, Result.andThen_ok, List.all_cons]
    cases hq : (la.getD i 0 == lb.getD i 0) with
    | false => simp
    | true => simpa using ih
theorem list_eq_all {la lb : List Int} {n : Nat} (ha : la.length = n) (hb : lb.length = n) : ((List.range n).all fun i => la.getD i 0 == lb.getD i 0) = decide (la = lb) := by
  rw [Bool.eq_iff_iff, List.all_eq_true, decide_eq_true_eq]
  constructor
  · intro h
    refine List.ext_getElem (by omega) fun i h1 h2 => ?_
    have := h i (List.mem_range.2 (by omega))
    simpa [List.getD_eq_getElem?_getD, List.getElem?_eq_getElem h1, List.getElem?_eq_getElem h2] using this
  · rintro rfl i _
    simp
theorem neq_digest (w : World) (la lb : List Int) (ha : la.length = 32) (hb : lb.length = 32) :
    (binOp .neq 35 (.agg (la.map (Value.int .u8)).toArray) (.agg (lb.map (Value.int .u8)).toArray)).run Tryd.prog w = .ok (.bool (!decide (la = lb))) w := by
  obtain ⟨i, hi⟩ := info_of_underlying (P := Tryd.prog) Tryd.underlying5
  rw [run_neq_struct, run_equalIn_array w 9999 _ _ Tryd.underlying35 hi, cellsOf_u8, items_u8 w 9998 la lb _ (fun j hj => by rw [List.mem_range] at hj; omega), list_eq_all ha hb]
  rfl
theorem eql_digest (w : World) (la lb : List Int) (ha : la.length = 32) (hb : lb.length = 32) :
    (binOp .eql 35 (.agg (la.map (Value.int .u8)).toArray) (.agg (lb.map (Value.int .u8)).toArray)).run Tryd.prog w = .ok (.bool (decide (la = lb))) w := by
  obtain ⟨i, hi⟩ := info_of_underlying (P := Tryd.prog) Tryd.underlying5
  rw [run_eql_struct, run_equalIn_array w 9999 _ _ Tryd.underlying35 hi, cellsOf_u8, items_u8 w 9998 la lb _ (fun j hj => by rw [List.mem_range] at hj; omega), list_eq_all ha hb]
  rfl
end Go.Proofs.YtpjggokaolnbcaaDoor
