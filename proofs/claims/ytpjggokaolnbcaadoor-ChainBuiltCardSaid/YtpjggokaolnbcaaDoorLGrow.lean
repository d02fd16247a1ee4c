/- An append that grows, and a slice of one link: at one operation. -/
import Derived.Test.YtpjggokaolnbcaaDoorLBox
namespace Go.Proofs.YtpjggokaolnbcaaDoor
open Go.RowKit
set_option linter.unusedVariables false
theorem wp_box_link {o : Oper} {a : Act} {w : World} {K : Act → World → Prop} {Q : Exit → Act → World → Prop} (x : Operand) (ho : o.op = .buildSlice 22 1 #[(0, x)]) (CS : List Value) (hx : a.eval x = .agg CS.toArray) (hl : CS.length = 35)
    (h : K (a.put o.dst (.slice (some ⟨w.heap.size, 0, none⟩) 1 1)) (w.alloc (.cells CS.toArray 37))) : o.wp Tryd.prog a w K Q := by
  obtain ⟨ie, z, hi, hz, hs, hzs, _⟩ := link_info
  refine wp_buildSlice 22 37 1 #[(0, x)] ho CS.toArray ie z Tryd.underlying22 hi hz (by rw [hs]; omega) (by rw [hs]; omega) ?_ h
  have hw := Great.fill_whole (s := 35) (by omega) [.agg CS.toArray] ((Array.range (1 * ie.size)).map (z.cells[· % z.cells.size]!)) (by intro v hv; simp at hv; subst hv; simpa [Value.cells] using hl) (by simp [hs])
  rw [hs] at hw ⊢
  have e1 : (Array.map (fun ((i, x) : Nat × Operand) => (i, a.eval x)) #[(0, x)]).toList = List.map (fun x => (x.snd, x.fst)) [Value.agg CS.toArray].zipIdx := by simp [hx]
  refine (congrArg _ e1).trans (hw.trans ?_)
  simp [Value.cells]
theorem run_box_link (w : World) (CS : List Value) (hl : CS.length = 35) :
    (Instr.buildSlice 22 1 #[(0, .agg CS.toArray)]).run Tryd.prog w = .ok (.slice (some ⟨w.heap.size, 0, none⟩) 1 1) (w.alloc (.cells CS.toArray 37)) := by
  obtain ⟨ie, z, hi, hz, hs, hzs, _⟩ := link_info
  refine run_buildSlice w 22 37 1 #[(0, .agg CS.toArray)] CS.toArray ie z Tryd.underlying22 hi hz (by rw [hs]; omega) (by rw [hs]; omega) ?_
  have hw := Great.fill_whole (s := 35) (by omega) [.agg CS.toArray] ((Array.range (1 * ie.size)).map (z.cells[· % z.cells.size]!)) (by intro v hv; simp at hv; subst hv; simpa [Value.cells] using hl) (by simp [hs])
  rw [hs] at hw ⊢
  refine hw.trans ?_
  simp [Value.cells]
/-- an append to a slice that is full -/
theorem wp_append_grows {P : Program} {w : World} {o : Oper} {a : Act} {K : Act → World → Prop} {Q : Exit → Act → World → Prop}
    (s x : Operand) (t : TypeId) (hop : o.op = Op.call { callee := Callee.builtin Builtin.append, args := #[s, x], argTypes := #[t, t] })
    (e : TypeId) (i : TypeInfo) (z : Value) (size bytes : Nat) (h1 : P.underlying t = some (.slice e)) (h2 : P.info? e = some i) (h3 : i.zero = some z) (h4 : i.size = size) (h5 : i.bytes = bytes) (h6 : z.cells.size = size) (h7 : 0 < size)
    (ao : Option Addr) (n cap : Nat) (olds : List Value) (hs : a.eval s = .slice ao n cap) (hnone : ao = none → n = 0 ∧ cap = 0) (hlo : olds.length = n * size) (holds : ∀ b, ao = some b → ∀ j u, olds[j]? = some u → w.cell? (b.add j) = some u)
    (ad : Addr) (m c : Nat) (news : List Value) (hx : a.eval x = .slice (some ad) m c) (hn : news.length = m * size) (hc : ∀ j u, news[j]? = some u → w.cell? (ad.add j) = some u) (h1c : ∀ u ∈ news, u.oneCell' = true)
    (hfull : cap < n + m) (b1 : n + m ≤ maxLen) (b2 : (n + m) * bytes ≤ 140737488355328)
    (hK : ∀ v' w', w'.ownsRow w.heap.size e size v' (n + m) (olds ++ news) → w.grownBy w' none → K (a.put o.dst v') w') : o.wp P a w K Q := by
  cases ao with
  | some b =>
    obtain ⟨v', w', hrun, r1, r2⟩ := run_append_arg_grows (P := P) w t o.type e i z size bytes h1 h2 h3 h4 h5 h6 h7 b n cap olds hlo (holds b rfl) ad m c news hn hc hfull b1 b2
    unfold Oper.wp
    simp [execOp, hop, resolve, invoke, builtin, hs, hx, hrun, Result.andThen]
    exact hK v' w' r1 r2
  | none =>
    obtain ⟨rfl, rfl⟩ := hnone rfl
    obtain rfl : olds = [] := List.eq_nil_of_length_eq_zero (by simpa using hlo)
    obtain ⟨v', w', hrun, r1, r2, _⟩ := run_append_own (P := P) w w.heap.size t o.type e i z size bytes h1 h2 h3 h4 h5 h6 h7 (.slice none 0 0) 0 [] (World.ownsRow_nil w _ e size) ad m c news hn hc h1c b1 b2 (Nat.le_refl _)
    unfold Oper.wp
    simp [execOp, hop, resolve, invoke, builtin, hs, hx, hrun, Result.andThen]
    exact hK v' w' r1 r2
end Go.Proofs.YtpjggokaolnbcaaDoor
