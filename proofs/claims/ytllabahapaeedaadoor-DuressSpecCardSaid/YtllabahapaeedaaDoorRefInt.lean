/- The reference's codec: the encoding of an integer. -/
import Derived.Test.YtllabahapaeedaaDoorRefNumeral
namespace Go.Proofs.YtllabahapaeedaaDoor
open Go.RowKit
set_option linter.unusedVariables false
set_option maxRecDepth 100000 in
set_option maxHeartbeats 1000000 in
theorem rint_any (d : Int) (w : World) : Calls Tryd.prog 37 #[.int .i64 d] w fun e w' => e = .returned (intV d) ∧ Below w.heap.size w w' := by
  unfold intV
  go_enter Tryd.func37, Tryd.ntmps37
  go_wp2
  refine bodyPost_ret (results_cell_row (p := 2) rfl _ _ w.heap.size 58 _ (0, 0) _ (by rfl) (heap_alloc_new w _) Tryd.underlying58 (by rfl) (by kernel_rfl)) rfl ?_
  exact ⟨rfl, (Below.refl _ _).alloc (Nat.le_refl _) _⟩
set_option maxRecDepth 100000 in
set_option maxHeartbeats 1000000 in
theorem rlist_any (A : Option Addr) (n c : Nat) (w : World) : Calls Tryd.prog 36 #[.slice A n c] w fun e w' => e = .returned (listV A n c) ∧ Below w.heap.size w w' := by
  unfold listV
  go_enter Tryd.func36, Tryd.ntmps36
  go_wp2
  refine bodyPost_ret (results_cell_row (p := 2) rfl _ _ w.heap.size 58 _ (0, 0) _ (by rfl) (heap_alloc_new w _) Tryd.underlying58 (by rfl) (by kernel_rfl)) rfl ?_
  exact ⟨rfl, (Below.refl _ _).alloc (Nat.le_refl _) _⟩
end Go.Proofs.YtllabahapaeedaaDoor
