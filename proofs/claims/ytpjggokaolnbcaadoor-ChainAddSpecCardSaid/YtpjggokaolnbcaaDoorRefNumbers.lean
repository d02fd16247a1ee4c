/- The reference's digest: the table of numbers. -/
import Derived.Test.YtpjggokaolnbcaaDoorRefDig1
import Derived.Test.YtpjggokaolnbcaaDoorDigTag
import Derived.Great.BuildSlice
namespace Go.Proofs.YtpjggokaolnbcaaDoor
open Go.RowKit
set_option linter.unusedVariables false
theorem Ks_length : Sh.Ks.length = 64 := by kernel_rfl
theorem info64 : (Tryd.prog.info? 84).map (·.size) = some 64 := by kernel_rfl
theorem info8u : (Tryd.prog.info? 71).map (·.size) = some 8 := by kernel_rfl
def zer64 : List Int := List.replicate 64 0
theorem zer64_length : zer64.length = 64 := by kernel_rfl
theorem build64 (W : World) : (Instr.build 84 #[]).run Tryd.prog W = .ok (.agg (zer64.map (Value.int .u32)).toArray) W := by kernel_rfl
set_option maxRecDepth 100000 in
set_option maxHeartbeats 1000000 in
theorem rnumbers_any (w : World) : Calls Tryd.prog 64 #[] w fun e w' => e = .returned (.agg (Sh.Ks.map (Value.int .u32)).toArray) ∧ Below w.heap.size w w' := by
  have hI := Ints.new w 84 .u32 zer64
  have HI := Lib.hid hI
  clear hI
  go_enter Tryd.func64, Tryd.ntmps64
  go_wp2_with (first | (refine Great.wpList_buildFlatArr rfl 84 70 64 _ rfl .u32 Sh.Ks (by kernel_rfl) (by kernel_rfl) (by kernel_rfl) (by kernel_rfl) ?_) | (refine wpList_store_ints rfl 84 (.tmp 0) (.tmp 1) rfl w.heap.size .u32 Sh.Ks (by rfl) (by rfl) 84 _ HI.out (by rw [zer64_length, Ks_length]) (by rw [Ks_length]; exact info64) ?_; intro w2 hI2 hg2))
  refine bodyPost_ret (results_cell_row rfl _ _ w.heap.size 84 _ (0, 0) _ (by rfl) hI2 Tryd.underlying84 (by rfl) (by simpa [Ks_length] using info64)) rfl ?_
  exact ⟨rfl, ((Below.refl _ _).alloc (Nat.le_refl _) _).grown hg2 (by simp) (fun k e => by injection e with e; omega)⟩
end Go.Proofs.YtpjggokaolnbcaaDoor
