/- bytes.Clone. -/
import Derived.Test.YtpjggokaolnbcaaDoorLPart2
import Derived.Laws.OwnMore
import Derived.ArgAppend
import Derived.Great.FillDense
import Derived.Great.BuildSlice
import Derived.OrdersHeld
import Derived.Tactics
import Derived.KernelRfl
import Derived.Test.YtpjggokaolnbcaaDoorWords
namespace Go.Proofs.YtpjggokaolnbcaaDoor
open Go.RowKit
attribute [local go_sem] Oper.semAt_some
set_option linter.unusedVariables false
theorem eql_nil (w : World) (a : Option Addr) (l c : Nat) : (binOp .eql 23 (.slice a l c) (.slice none 0 0)).run Tryd.prog w = .ok (.bool a.isNone) w := by
  have h := run_equal_slice_nil (P := Tryd.prog) w 23 _ a l c Tryd.underlying23
  simp [binOp, h]
set_option maxRecDepth 100000 in
set_option maxHeartbeats 2000000 in
theorem clone_any (A : Option Addr) (n c : Nat) (l : List Int) (w : World) (hr : Rd w w.heap.size 1 A n (l.map (Value.int .u8))) (hn : n ≤ 100000) :
    Calls Tryd.prog 20 #[.slice A n c] w fun e w' => ∃ A' c', e = .returned (.slice A' l.length c') ∧ Rd w' w'.heap.size 1 A' l.length (l.map (Value.int .u8)) ∧ l.length ≤ c' ∧ c' ≤ maxLen ∧ Below w.heap.size w w' := by
  have hl : l.length = n := by have := hr.1; simpa using this
  rcases A with _ | a
  · have he := eql_nil w none n c
    have h0 : n = 0 := by
      rcases Nat.eq_zero_or_pos n with h | h
      · exact h
      · obtain ⟨b, o, h, _⟩ := hr.2 h; cases h
    subst h0
    obtain rfl : l = [] := List.eq_nil_of_length_eq_zero hl
    go_enter Tryd.func20, Tryd.ntmps20
    go_wp2
    go_ret
    exact ⟨none, 0, rfl, ⟨rfl, fun h => absurd h (by simp)⟩, Nat.le_refl _, by unfold maxLen; omega, Below.refl _ _⟩
  · obtain ⟨i0, hi, hz0, hz1, hz2⟩ := info_parts infoU8
    have he := eql_nil w (some a) n c
    have HL := Lib.hid hl
    have HR := Lib.hid hr
    clear hl hr
    have T : One w w.heap.size (w.alloc (.cells #[] 5)) 5 1 (.slice (some ⟨w.heap.size, 0, none⟩) 0 0) 0 [] :=
      ⟨World.ownsRow_lit w #[] 0 (Nat.le_refl _) (by unfold maxLen; omega) rfl, (Below.refl _ w).alloc (Nat.le_refl _) _, by simp⟩
    go_enter Tryd.func20, Tryd.ntmps20
    go_wp2_with (at_builtin; refine wpList_append_rd _ rfl (.tmp 5) (.tmp 6) 23 rfl w.heap.size 5 i0 _ 1 1 Tryd.underlying23 hi hz0 hz1 hz2 rfl (by omega) _ 0 _ (by rfl) T.own w.heap.size _ n _ _ (by rfl) (HR.out.below T.bel) (u8_one _) (by unfold maxLen; omega) (by omega) T.size ?_; intro v2 w2 hown2 hg2 _)
    have T2 := T.grew hown2 hg2
    clear hown2 hg2 T
    obtain ⟨A', c', rfl, hR, hlc, hcm⟩ := own_slice' T2.own
    go_wp2
    go_ret
    rw [Nat.zero_add] at hR hlc
    refine ⟨A', c', ?_, ?_, ?_, hcm, T2.bel⟩
    · rw [HL.out]
      first | done | rfl | simp
    · rw [HL.out]; exact hR
    · rw [HL.out]; exact hlc
end Go.Proofs.YtpjggokaolnbcaaDoor
/- A link is built. -/
namespace Go.Proofs.YtpjggokaolnbcaaDoor
open Go.RowKit
set_option linter.unusedVariables false
set_option maxRecDepth 100000 in
theorem built32 (a b : Int) (A : Option Addr) (n c : Nat) (u0 u1 u2 u3 u4 u5 u6 u7 u8 u9 u10 u11 u12 u13 u14 u15 u16 u17 u18 u19 u20 u21 u22 u23 u24 u25 u26 u27 u28 u29 u30 u31 : Int) :
    Tryd.prog.built 37 [(0, .int .i64 a), (1, .int .i64 b), (2, .agg #[.int .u8 u0, .int .u8 u1, .int .u8 u2, .int .u8 u3, .int .u8 u4, .int .u8 u5, .int .u8 u6, .int .u8 u7, .int .u8 u8, .int .u8 u9, .int .u8 u10, .int .u8 u11, .int .u8 u12, .int .u8 u13, .int .u8 u14, .int .u8 u15, .int .u8 u16, .int .u8 u17, .int .u8 u18, .int .u8 u19, .int .u8 u20, .int .u8 u21, .int .u8 u22, .int .u8 u23, .int .u8 u24, .int .u8 u25, .int .u8 u26, .int .u8 u27, .int .u8 u28, .int .u8 u29, .int .u8 u30, .int .u8 u31]), (3, .slice A n c)] = some #[.int .i64 a, .int .i64 b, .int .u8 u0, .int .u8 u1, .int .u8 u2, .int .u8 u3, .int .u8 u4, .int .u8 u5, .int .u8 u6, .int .u8 u7, .int .u8 u8, .int .u8 u9, .int .u8 u10, .int .u8 u11, .int .u8 u12, .int .u8 u13, .int .u8 u14, .int .u8 u15, .int .u8 u16, .int .u8 u17, .int .u8 u18, .int .u8 u19, .int .u8 u20, .int .u8 u21, .int .u8 u22, .int .u8 u23, .int .u8 u24, .int .u8 u25, .int .u8 u26, .int .u8 u27, .int .u8 u28, .int .u8 u29, .int .u8 u30, .int .u8 u31, .slice A n c] := by kernel_rfl
theorem built_link (a b : Int) (A : Option Addr) (n c : Nat) (U : List Int) (h : U.length = 32) :
    Tryd.prog.built 37 [(0, .int .i64 a), (1, .int .i64 b), (2, .agg (U.map (Value.int .u8)).toArray), (3, .slice A n c)] = some ([Value.int .i64 a, .int .i64 b] ++ U.map (Value.int .u8) ++ [Value.slice A n c]).toArray := by
  rcases U with _ | ⟨u0, U⟩
  · simp at h
  rcases U with _ | ⟨u1, U⟩
  · simp at h
  rcases U with _ | ⟨u2, U⟩
  · simp at h
  rcases U with _ | ⟨u3, U⟩
  · simp at h
  rcases U with _ | ⟨u4, U⟩
  · simp at h
  rcases U with _ | ⟨u5, U⟩
  · simp at h
  rcases U with _ | ⟨u6, U⟩
  · simp at h
  rcases U with _ | ⟨u7, U⟩
  · simp at h
  rcases U with _ | ⟨u8, U⟩
  · simp at h
  rcases U with _ | ⟨u9, U⟩
  · simp at h
  rcases U with _ | ⟨u10, U⟩
  · simp at h
  rcases U with _ | ⟨u11, U⟩
  · simp at h
  rcases U with _ | ⟨u12, U⟩
  · simp at h
  rcases U with _ | ⟨u13, U⟩
  · simp at h
  rcases U with _ | ⟨u14, U⟩
  · simp at h
  rcases U with _ | ⟨u15, U⟩
  · simp at h
  rcases U with _ | ⟨u16, U⟩
  · simp at h
  rcases U with _ | ⟨u17, U⟩
  · simp at h
  rcases U with _ | ⟨u18, U⟩
  · simp at h
  rcases U with _ | ⟨u19, U⟩
  · simp at h
  rcases U with _ | ⟨u20, U⟩
  · simp at h
  rcases U with _ | ⟨u21, U⟩
  · simp at h
  rcases U with _ | ⟨u22, U⟩
  · simp at h
  rcases U with _ | ⟨u23, U⟩
  · simp at h
  rcases U with _ | ⟨u24, U⟩
  · simp at h
  rcases U with _ | ⟨u25, U⟩
  · simp at h
  rcases U with _ | ⟨u26, U⟩
  · simp at h
  rcases U with _ | ⟨u27, U⟩
  · simp at h
  rcases U with _ | ⟨u28, U⟩
  · simp at h
  rcases U with _ | ⟨u29, U⟩
  · simp at h
  rcases U with _ | ⟨u30, U⟩
  · simp at h
  rcases U with _ | ⟨u31, U⟩
  · simp at h
  obtain rfl : U = [] := by
    apply List.eq_nil_of_length_eq_zero
    simp only [List.length_cons] at h
    omega
  exact built32 a b A n c u0 u1 u2 u3 u4 u5 u6 u7 u8 u9 u10 u11 u12 u13 u14 u15 u16 u17 u18 u19 u20 u21 u22 u23 u24 u25 u26 u27 u28 u29 u30 u31
end Go.Proofs.YtpjggokaolnbcaaDoor
/- A slice of one link, built. -/
namespace Go.Proofs.YtpjggokaolnbcaaDoor
open Go.RowKit
set_option linter.unusedVariables false
theorem link_info : ∃ ie z, Tryd.prog.info? 37 = some ie ∧ ie.zero = some z ∧ ie.size = 35 ∧ z.cells.size = 35 ∧ ie.bytes = 72 := by
  have h := info_link
  have hz : ((Tryd.prog.info? 37).bind (·.zero)).map (·.cells.size) = some 35 := by kernel_rfl
  have hb : (Tryd.prog.info? 37).map (·.bytes) = some 72 := by kernel_rfl
  cases hi : Tryd.prog.info? 37 with
  | none => rw [hi] at h; cases h
  | some ie =>
    rw [hi] at h hz hb
    simp only [Option.map_some, Option.some.injEq, Option.bind_some] at h hz hb
    cases hq : ie.zero with
    | none => rw [hq] at hz; cases hz
    | some z =>
      rw [hq] at hz
      simp only [Option.map_some, Option.some.injEq] at hz
      exact ⟨ie, z, rfl, hq, h, hz, hb⟩
theorem wpList_box_link {ops : Array Oper} {rest : List Oper} {o : Oper} {a : Act} {w : World} {Q : Exit → Act → World → Prop} (hg : o.guard = none) (x : Operand) (ho : o.op = .buildSlice 22 1 #[(0, x)]) (CS : List Value) (hx : a.eval x = .agg CS.toArray) (hl : CS.length = 35)
    (h : wpList Tryd.prog ops Q rest (a.put o.dst (.slice (some ⟨w.heap.size, 0, none⟩) 1 1)) (w.alloc (.cells CS.toArray 37))) : wpList Tryd.prog ops Q (o :: rest) a w := by
  obtain ⟨ie, z, hi, hz, hs, hzs, _⟩ := link_info
  refine wpList_buildSlice hg 22 37 1 #[(0, x)] ho CS.toArray ie z Tryd.underlying22 hi hz (by rw [hs]; omega) (by rw [hs]; omega) ?_ h
  have hw := Great.fill_whole (s := 35) (by omega) [.agg CS.toArray] ((Array.range (1 * ie.size)).map (z.cells[· % z.cells.size]!)) (by intro v hv; simp at hv; subst hv; simpa [Value.cells] using hl) (by simp [hs])
  rw [hs] at hw ⊢
  have e1 : (Array.map (fun ((i, x) : Nat × Operand) => (i, a.eval x)) #[(0, x)]).toList = List.map (fun x => (x.snd, x.fst)) [Value.agg CS.toArray].zipIdx := by simp [hx]
  refine (congrArg _ e1).trans (hw.trans ?_)
  simp [Value.cells]
theorem wpList_build_as {P : Program} {ops : Array Oper} {rest : List Oper} {o : Oper} {a : Act} {w : World} {Q : Exit → Act → World → Prop} (hg : o.guard = none) (t : TypeId) (parts : Array (Nat × Operand)) (ho : o.op = .build t parts) (l : List (Nat × Value))
    (hl : (parts.toList.map fun (x : Nat × Operand) => (x.1, a.eval x.2)) = l) (cells : Array Value) (hb : P.built t l = some cells) (h : wpList P ops Q rest (a.put o.dst (.agg cells)) w) : wpList P ops Q (o :: rest) a w := by
  have hl' : (parts.map fun (i, x) => (i, a.eval x)).toList = l := by rw [Array.toList_map]; exact hl
  refine wpList_build hg t parts ho (by rw [hl', hb]; rfl) ?_
  rw [hl', hb]
  exact h
end Go.Proofs.YtpjggokaolnbcaaDoor
/- An append that grows, and a slice of one link: at one operation. -/
namespace Go.Proofs.YtpjggokaolnbcaaDoor
open Go.RowKit
set_option linter.unusedVariables false
theorem wp_box_link {o : Oper} {a : Act} {w : World} {K : Act → World → Prop} {Q : Exit → Act → World → Prop} (x : Operand) (ho : o.op = .buildSlice 22 1 #[(0, x)]) (CS : List Value) (hx : a.eval x = .agg CS.toArray) (hl : CS.length = 35)
    (h : K (a.put o.dst (.slice (some ⟨w.heap.size, 0, none⟩) 1 1)) (w.alloc (.cells CS.toArray 37))) : o.wp Tryd.prog a w K Q := by
  obtain ⟨ie, z, hi, hz, hs, hzs, _⟩ := link_info
  refine wp_buildSlice 22 37 1 #[(0, x)] ho CS.toArray ie z Tryd.underlying22 hi hz (by rw [hs]; omega) (by rw [hs]; omega) ?_ h
  have hw := Great.fill_whole (s := 35) (by omega) [.agg CS.toArray] ((Array.range (1 * ie.size)).map (z.cells[· % z.cells.size]!)) (by intro v hv; simp at hv; subst hv; simpa [Value.cells] using hl) (by simp [hs])
  rw [hs] at hw ⊢
  have e1 : (Array.map (fun ((i, x) : Nat × Operand) => (i, a.eval x)) #[(0, x)]).toList = List.map (fun x => (x.snd, x.fst)) [Value.agg CS.toArray].zipIdx := by simp [hx]
  refine (congrArg _ e1).trans (hw.trans ?_)
  simp [Value.cells]
theorem run_box_link (w : World) (CS : List Value) (hl : CS.length = 35) :
    (Instr.buildSlice 22 1 #[(0, .agg CS.toArray)]).run Tryd.prog w = .ok (.slice (some ⟨w.heap.size, 0, none⟩) 1 1) (w.alloc (.cells CS.toArray 37)) := by
  obtain ⟨ie, z, hi, hz, hs, hzs, _⟩ := link_info
  refine run_buildSlice w 22 37 1 #[(0, .agg CS.toArray)] CS.toArray ie z Tryd.underlying22 hi hz (by rw [hs]; omega) (by rw [hs]; omega) ?_
  have hw := Great.fill_whole (s := 35) (by omega) [.agg CS.toArray] ((Array.range (1 * ie.size)).map (z.cells[· % z.cells.size]!)) (by intro v hv; simp at hv; subst hv; simpa [Value.cells] using hl) (by simp [hs])
  rw [hs] at hw ⊢
  refine hw.trans ?_
  simp [Value.cells]
/-- an append to a slice that is full -/
theorem wp_append_grows {P : Program} {w : World} {o : Oper} {a : Act} {K : Act → World → Prop} {Q : Exit → Act → World → Prop}
    (s x : Operand) (t : TypeId) (hop : o.op = Op.call { callee := Callee.builtin Builtin.append, args := #[s, x], argTypes := #[t, t] })
    (e : TypeId) (i : TypeInfo) (z : Value) (size bytes : Nat) (h1 : P.underlying t = some (.slice e)) (h2 : P.info? e = some i) (h3 : i.zero = some z) (h4 : i.size = size) (h5 : i.bytes = bytes) (h6 : z.cells.size = size) (h7 : 0 < size)
    (ao : Option Addr) (n cap : Nat) (olds : List Value) (hs : a.eval s = .slice ao n cap) (hnone : ao = none → n = 0 ∧ cap = 0) (hlo : olds.length = n * size) (holds : ∀ b, ao = some b → ∀ j u, olds[j]? = some u → w.cell? (b.add j) = some u)
    (ad : Addr) (m c : Nat) (news : List Value) (hx : a.eval x = .slice (some ad) m c) (hn : news.length = m * size) (hc : ∀ j u, news[j]? = some u → w.cell? (ad.add j) = some u) (h1c : ∀ u ∈ news, u.oneCell' = true)
    (hfull : cap < n + m) (b1 : n + m ≤ maxLen) (b2 : (n + m) * bytes ≤ 140737488355328)
    (hK : ∀ v' w', w'.ownsRow w.heap.size e size v' (n + m) (olds ++ news) → w.grownBy w' none → K (a.put o.dst v') w') : o.wp P a w K Q := by
  cases ao with
  | some b =>
    obtain ⟨v', w', hrun, r1, r2⟩ := run_append_arg_grows (P := P) w t o.type e i z size bytes h1 h2 h3 h4 h5 h6 h7 b n cap olds hlo (holds b rfl) ad m c news hn hc hfull b1 b2
    unfold Oper.wp
    simp [execOp, hop, resolve, invoke, builtin, hs, hx, hrun, Result.andThen]
    exact hK v' w' r1 r2
  | none =>
    obtain ⟨rfl, rfl⟩ := hnone rfl
    obtain rfl : olds = [] := List.eq_nil_of_length_eq_zero (by simpa using hlo)
    obtain ⟨v', w', hrun, r1, r2, _⟩ := run_append_own (P := P) w w.heap.size t o.type e i z size bytes h1 h2 h3 h4 h5 h6 h7 (.slice none 0 0) 0 [] (World.ownsRow_nil w _ e size) ad m c news hn hc h1c b1 b2 (Nat.le_refl _)
    unfold Oper.wp
    simp [execOp, hop, resolve, invoke, builtin, hs, hx, hrun, Result.andThen]
    exact hK v' w' r1 r2
end Go.Proofs.YtpjggokaolnbcaaDoor
/- A link behind others: the plain law of the memory. -/
namespace Go.Proofs.YtpjggokaolnbcaaDoor
open Go.RowKit
set_option linter.unusedVariables false
theorem head_byt (K : Sh.Cst) (L : List LkV) : ∀ b ∈ Ch.head K L, 0 ≤ b ∧ b < 256 := by
  unfold Ch.head
  split <;> exact fun b hb => Sh.sum_bytes _ _ b hb
theorem lks_append {w : World} {base n : Nat} {t : TypeId} {v : Value} {L : List LkV} {x : LkV} (hall : ∀ y ∈ L, y.ok w w.heap.size) (hx : x.ok w w.heap.size) (hl : L.length = n)
    (h : w.ownsRow base t 35 v (n + 1) (L.flatMap LkV.cells ++ x.cells)) : ∃ G C, v = .slice G (n + 1) C ∧ n + 1 ≤ C ∧ C ≤ maxLen ∧ Lks w w.heap.size G (n + 1) (L ++ [x]) := by
  obtain ⟨hlen, h | ⟨g, cap, cur, rfl, hb, hg, hnc, hcm, hsz, htk⟩⟩ := h
  · omega
  · refine ⟨_, _, rfl, hnc, hcm, by simp [hl], ?_, ?_, ?_⟩
    · intro y hy
      rcases List.mem_append.1 hy with hy | hy
      · exact hall y hy
      · rw [List.mem_singleton] at hy; subst hy; exact hx
    · simpa using hlen
    · intro _
      refine ⟨g, 0, rfl, heap_lt hg, fun j u hj => ?_⟩
      rw [cell_of_row w g _ cur t (0, 0) hg, Nat.zero_add, ← Array.getElem?_toList]
      have hjl : j < (n + 1) * 35 := by
        have := (List.getElem?_eq_some_iff.1 hj).1
        rw [List.flatMap_append] at this
        simp only [List.flatMap_cons, List.flatMap_nil, List.append_nil] at this
        omega
      rw [List.flatMap_append] at hj
      simp only [List.flatMap_cons, List.flatMap_nil, List.append_nil] at hj
      rw [← htk, List.getElem?_take] at hj
      simpa [hjl] using hj
theorem lks_head_cell {w : World} {B n : Nat} {A : Option Addr} {L : List LkV} (h : Lks w B A n L) (hn : 0 < n) : ∃ b o, A = some ⟨b, o, none⟩ ∧ b < B ∧ ∀ i v, (Ch.gk L 0).cells[i]? = some v → w.cell? ⟨b, o + i, none⟩ = some v := by
  obtain ⟨x, hx⟩ : ∃ x, L[0]? = some x := ⟨L[0]'(by rw [h.len]; omega), List.getElem?_eq_getElem _⟩
  obtain ⟨b, o, e, hb, hc⟩ := h.at hx
  refine ⟨b, o, e, hb, fun i v hv => ?_⟩
  have : Ch.gk L 0 = x := by unfold Ch.gk; simp [List.getD_eq_getElem?_getD, hx]
  rw [this] at hv
  have := hc i v hv
  simpa using this
end Go.Proofs.YtpjggokaolnbcaaDoor
/- A drawn region walked in ONE order, given as a list of indices: an operation marked true yields its value in every world that meets S; one marked false is the only one that can come up there, and S is shown behind it. -/
namespace Go.Proofs.YtpjggokaolnbcaaDoor
open Go.RowKit
section
variable {P : Program} {ops : Array Oper} {md : Region.Mode} {Q : Exit → Act → World → Prop} {S : World → Prop}
def wpOrd (P : Program) (ops : Array Oper) (Q : Exit → Act → World → Prop) (S : World → Prop) : List (Nat × Bool) → Act → World → Prop
  | [], a, w => Q .normal a w
  | (i, true) :: l, a, w => ∃ o v, ops[i]? = some o ∧ YieldsIf P ops S o v a ∧ wpOrd P ops Q S l (a.put o.dst v) w
  | (i, false) :: l, a, w => wpOp P ops Q i (fun a' w' => S w' ∧ wpOrd P ops Q S l a' w') a w
def ordB (md : Region.Mode) (ops : Array Oper) : List (Nat × Bool) → Array Bool → Bool
  | [], listed => (Region.ready md ops listed).isEmpty
  | (i, true) :: l, listed => (Region.ready md ops listed).contains i && Region.free md ops listed i && ordB md ops l (listed.setIfInBounds i true)
  | (i, false) :: l, listed => decide (Region.ready md ops listed = [i]) && ordB md ops l (listed.setIfInBounds i true)
theorem wpAnyH_of_ord (hsel : Region.noSelect ops = true) (hQ : ∀ (x : Option Tmp) (v : Value) c a w, Q (.panic c) (a.put x v) w → Q (.panic c) a w) :
    ∀ (l : List (Nat × Bool)) (listed : Array Bool) (a : Act) (w : World), ordB md ops l listed = true → S w → wpOrd P ops Q S l a w → wpAnyH P md ops Q S l.length listed a w
  | [], listed, a, w, hB, _, h => ⟨by simpa [ordB] using hB, h⟩
  | (i, true) :: l, listed, a, w, hB, hS, h => by
    simp only [ordB, Bool.and_eq_true] at hB
    obtain ⟨o, v, ho, hy, h⟩ := h
    exact wpAnyH_take ho hsel hB.1.2 hB.1.1 (fun c a w h => hQ _ _ c a w h) hy hS (wpAnyH_of_ord hsel hQ l _ _ w hB.2 hS h)
  | (i, false) :: l, listed, a, w, hB, hS, h => by
    simp only [ordB, Bool.and_eq_true, decide_eq_true_eq] at hB
    refine wpAnyH_all hB.1 (by simp) fun j hj => ?_
    rw [List.mem_singleton] at hj
    subst hj
    exact wpOp_mono (fun a' w' h' => ⟨h'.1, wpAnyH_of_ord hsel hQ l _ a' w' hB.2 h'.1 h'.2⟩) h
theorem wp_region_ord {id : Nat} {a : Act} {w : World} {l : List Oper} (S : World → Prop) (r : List (Nat × Bool)) (hm : P.follows .mixedOrders = true) (hsel : Region.noSelect l.toArray = true) (hr : r.length = l.length)
    (hB : ordB .any l.toArray r (Array.replicate l.length false) = true) (hQ : ∀ (x : Option Tmp) (v : Value) c a w, Q (.panic c) (a.put x v) w → Q (.panic c) a w) (hS : S w.drew)
    (h : wpOrd P l.toArray Q S r a w.drew) : (Code.region id l.toArray true).wp P Q a w := by
  refine wp_region_held (S := S) hm ?_
  have := wpAnyH_of_ord (md := .any) hsel hQ r (Array.replicate l.length false) a _ hB hS h
  rw [hr] at this
  simpa using this
theorem wpOrd_nil {a : Act} {w : World} (h : Q .normal a w) : wpOrd P ops Q S [] a w := h
/-- what yields in whatever world (that meets S) -/
theorem wpOrd_take {i : Nat} {l : List (Nat × Bool)} {a : Act} {w : World} {o : Oper} (ho : ops[i]? = some o) (v : Value) (hw : Region.wanted o (yielded ops a.tmps) = true)
    (hy : ∀ w', S w' → (execOp a.eval o).run P w' = .ok (.value v) w') (h : ∀ K : Act → Prop, (∀ a', wpOrd P ops Q S l a' w → K a') → K (a.put o.dst v)) : wpOrd P ops Q S ((i, true) :: l) a w :=
  ⟨o, v, ho, .inl ⟨hw, hy⟩, h _ fun _ h => h⟩
theorem wpOrd_skip {i : Nat} {l : List (Nat × Bool)} {a : Act} {w : World} {o : Oper} (ho : ops[i]? = some o) (hw : Region.wanted o (yielded ops a.tmps) = false)
    (h : ∀ K : Act → Prop, (∀ a', wpOrd P ops Q S l a' w → K a') → K (a.put o.dst undef)) : wpOrd P ops Q S ((i, true) :: l) a w :=
  ⟨o, undef, ho, .inr ⟨hw, rfl⟩, h _ fun _ h => h⟩
/-- the one that is forced -/
theorem wpOrd_force {i : Nat} {l : List (Nat × Bool)} {a : Act} {w : World} {o : Oper} (ho : ops[i]? = some o) (hw : Region.wanted o (yielded ops a.tmps) = true)
    (h : ∀ K : Act → World → Prop, (∀ a' w', S w' → wpOrd P ops Q S l a' w' → K a' w') → o.wp P a w K Q) : wpOrd P ops Q S ((i, false) :: l) a w := by
  unfold wpOrd wpOp
  rw [ho]
  show if Region.wanted o (yielded ops a.tmps) = true then _ else _
  rw [if_pos hw]
  exact .inl (h _ fun _ _ h1 h2 => ⟨h1, h2⟩)
theorem wpOrd_pass {i : Nat} {l : List (Nat × Bool)} {a : Act} {w : World} {o : Oper} (ho : ops[i]? = some o) (hw : Region.wanted o (yielded ops a.tmps) = false) (hS : S w)
    (h : ∀ K : Act → Prop, (∀ a', wpOrd P ops Q S l a' w → K a') → K (a.put o.dst undef)) : wpOrd P ops Q S ((i, false) :: l) a w := by
  unfold wpOrd wpOp
  rw [ho]
  show if Region.wanted o (yielded ops a.tmps) = true then _ else _
  rw [if_neg (by rw [hw]; simp)]
  exact h (fun a' => S w ∧ wpOrd P ops Q S l a' w) fun _ h => ⟨hS, h⟩
end
end Go.Proofs.YtpjggokaolnbcaaDoor
