/- A slice of one link, built. -/
import Derived.Test.YtpjggokaolnbcaaDoorLBuilt
import Derived.Great.FillDense
import Derived.Great.BuildSlice
namespace Go.Proofs.YtpjggokaolnbcaaDoor
open Go.RowKit
set_option linter.unusedVariables false
theorem link_info : ∃ ie z, Tryd.prog.info? 37 = some ie ∧ ie.zero = some z ∧ ie.size = 35 ∧ z.cells.size = 35 ∧ ie.bytes = 72 := by
  have h := info_link
  have hz : ((Tryd.prog.info? 37).bind (·.zero)).map (·.cells.size) = some 35 := by kernel_rfl
  have hb : (Tryd.prog.info? 37).map (·.bytes) = some 72 := by kernel_rfl
  cases hi : Tryd.prog.info? 37 with
  | none => rw [hi] at h; cases h
  | some ie =>
    rw [hi] at h hz hb
    simp only [Option.map_some, Option.some.injEq, Option.bind_some] at h hz hb
    cases hq : ie.zero with
    | none => rw [hq] at hz; cases hz
    | some z =>
      rw [hq] at hz
      simp only [Option.map_some, Option.some.injEq] at hz
      exact ⟨ie, z, rfl, hq, h, hz, hb⟩
theorem wpList_box_link {ops : Array Oper} {rest : List Oper} {o : Oper} {a : Act} {w : World} {Q : Exit → Act → World → Prop} (hg : o.guard = none) (x : Operand) (ho : o.op = .buildSlice 22 1 #[(0, x)]) (CS : List Value) (hx : a.eval x = .agg CS.toArray) (hl : CS.length = 35)
    (h : wpList Tryd.prog ops Q rest (a.put o.dst (.slice (some ⟨w.heap.size, 0, none⟩) 1 1)) (w.alloc (.cells CS.toArray 37))) : wpList Tryd.prog ops Q (o :: rest) a w := by
  obtain ⟨ie, z, hi, hz, hs, hzs, _⟩ := link_info
  refine wpList_buildSlice hg 22 37 1 #[(0, x)] ho CS.toArray ie z Tryd.underlying22 hi hz (by rw [hs]; omega) (by rw [hs]; omega) ?_ h
  have hw := Great.fill_whole (s := 35) (by omega) [.agg CS.toArray] ((Array.range (1 * ie.size)).map (z.cells[· % z.cells.size]!)) (by intro v hv; simp at hv; subst hv; simpa [Value.cells] using hl) (by simp [hs])
  rw [hs] at hw ⊢
  have e1 : (Array.map (fun ((i, x) : Nat × Operand) => (i, a.eval x)) #[(0, x)]).toList = List.map (fun x => (x.snd, x.fst)) [Value.agg CS.toArray].zipIdx := by simp [hx]
  refine (congrArg _ e1).trans (hw.trans ?_)
  simp [Value.cells]
theorem wpList_build_as {P : Program} {ops : Array Oper} {rest : List Oper} {o : Oper} {a : Act} {w : World} {Q : Exit → Act → World → Prop} (hg : o.guard = none) (t : TypeId) (parts : Array (Nat × Operand)) (ho : o.op = .build t parts) (l : List (Nat × Value))
    (hl : (parts.toList.map fun (x : Nat × Operand) => (x.1, a.eval x.2)) = l) (cells : Array Value) (hb : P.built t l = some cells) (h : wpList P ops Q rest (a.put o.dst (.agg cells)) w) : wpList P ops Q (o :: rest) a w := by
  have hl' : (parts.map fun (i, x) => (i, a.eval x)).toList = l := by rw [Array.toList_map]; exact hl
  refine wpList_build hg t parts ho (by rw [hl', hb]; rfl) ?_
  rw [hl', hb]
  exact h
end Go.Proofs.YtpjggokaolnbcaaDoor
