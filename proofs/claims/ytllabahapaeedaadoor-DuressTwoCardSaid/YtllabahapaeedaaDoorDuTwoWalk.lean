/- DuressTwo: its walk at every input. -/
import Derived.Test.YtllabahapaeedaaDoorDuTwoTT
import Derived.Test.YtllabahapaeedaaDoorDuTwoTF
import Derived.Test.YtllabahapaeedaaDoorDuTwoFT
import Derived.Test.YtllabahapaeedaaDoorDuTwoFF
namespace Go.Proofs.YtllabahapaeedaaDoor
open Go.RowKit
set_option linter.unusedVariables false
theorem addc {a b v : Int} (h : Fm.ad a b = v) (w : World) : Calls Tryd.prog 19 #[.int .i64 a, .int .i64 b] w fun e w' => e = .returned (.int .i64 v) ∧ Below w.heap.size w w' := by
  rw [← h]; exact add_b a b w
theorem addw {a b v : Int} (h : Fm.ad a (-b) = v) (hb : 0 ≤ b ∧ b < 1073741789) (w : World) : Calls Tryd.prog 19 #[.int .i64 a, .int .i64 (IntKind.i64.wrap (-b))] w fun e w' => e = .returned (.int .i64 v) ∧ Below w.heap.size w w' := by
  have e : IntKind.i64.wrap (-b) = -b := by rw [IntKind.wrap_i64]; omega
  rw [e]; exact addc h w
theorem mulc {a b v : Int} (h : Fm.ml a b = v) (w : World) : Calls Tryd.prog 21 #[.int .i64 a, .int .i64 b] w fun e w' => e = .returned (.int .i64 v) ∧ w = w' := by
  rw [← h]; exact mul_any a b w
theorem invc {a v : Int} (h : Fm.inv a = v) (he : Fm.invE a = 0) (w : World) : Calls Tryd.prog 20 #[.int .i64 a] w fun e w' => e = .returned (.tuple #[.int .i64 v, .int .i64 0]) ∧ w = w' := by
  have := inv_any a w; rw [h, he] at this; exact this
theorem hashc {K : Sh.Cst} {d n v : Int} (hp : Du.poss d n = true) (h : Du.hoI K d n = v) (w : World) (hL : Laid w) : Calls Tryd.prog 18 #[.int .i64 d, .int .i64 n] w fun e w' => e = .returned (.tuple #[.int .i64 v, .bool true]) ∧ Below w.heap.size w w' := by
  rw [← h]; exact lhash_any K d n w hp hL
/-- what is left of a tag -/
def lft (t c : Int) (b : Bool) : Int := if b then Fm.ad t (-c) else t
theorem lft_bd {t c : Int} (b : Bool) (h1 : 0 ≤ t) (h2 : t < 1073741789) : 0 ≤ lft t c b ∧ lft t c b < 1073741789 := by
  cases b with
  | false => exact ⟨h1, h2⟩
  | true => exact ⟨Fm.ad_lo _ _, Fm.ad_hi _ _⟩
theorem readc {K : Sh.Cst} {a b c d n t : Int} {x y : Bool} (hr : Du.right a b c = true) (hp : Du.poss d n = true) (hn : Du.num t = true) (h : Du.said a b c (Du.hoI K d n) t = (x, y)) (w : World) (hL : Laid w) : Calls Tryd.prog 11 #[.agg #[.int .i64 a, .int .i64 b, .int .i64 c], .int .i64 d, .int .i64 n, .int .i64 t] w fun e w' => e = .returned (.tuple #[.bool x, .bool y, .int .i64 0]) ∧ Below w.heap.size w w' :=
  rcall K a b c d n t (by rw [Du.readR_yes hr hp hn, h]) w hL
theorem dt_walk (K : Sh.Cst) (t0 t1 d0 d1 n0 n1 c : Int) (b0 b1 : Bool) (by_ : Int) (w : World) (hL : Laid w) :
    Calls Tryd.prog 7 #[pr t0 t1, pr d0 d1, pr n0 n1, .int .i64 c, prb b0 b1, .int .i64 by_] w fun e w' => e = .returned (.bool true) ∧ Below w.heap.size w w' := by
  cases q0 : Du.poss d0 n0 with
  | false => exact dt_g0 K t0 t1 d0 d1 n0 n1 c by_ b0 b1 w hL q0
  | true =>
  cases q1 : Du.poss d1 n1 with
  | false => exact dt_g1 K t0 t1 d0 d1 n0 n1 c by_ b0 b1 w hL q0 q1
  | true =>
  cases q2 : Du.num t0 with
  | false => exact dt_g2 K t0 t1 d0 d1 n0 n1 c by_ b0 b1 w hL q0 q1 q2
  | true =>
  cases q3 : Du.num t1 with
  | false => exact dt_g3 K t0 t1 d0 d1 n0 n1 c by_ b0 b1 w hL q0 q1 q2 q3
  | true =>
  by_cases q4 : 1 ≤ c
  · cases q5 : Du.num c with
    | false => exact dt_g5 K t0 t1 d0 d1 n0 n1 c by_ b0 b1 w hL q0 q1 q2 q3 q4 q5
    | true =>
      by_cases hne : Du.hoI K d0 n0 = Du.hoI K d1 n1
      · exact dt_same K t0 t1 d0 d1 n0 n1 c by_ b0 b1 w hL (Du.hoI K d1 n1) q0 q1 q2 q3 q4 q5 (hashc q0 hne) (hashc q1 rfl)
      · have hg := hoI_bd K d0 n0
        have hh := hoI_bd K d1 n1
        obtain ⟨g, eg⟩ : ∃ g, Du.hoI K d0 n0 = g := ⟨_, rfl⟩
        obtain ⟨h, eh⟩ : ∃ h, Du.hoI K d1 n1 = h := ⟨_, rfl⟩
        have h1 := hashc q0 eg
        have h2 := hashc q1 eh
        have ht0 := Du.num_iff.1 q2
        have ht1 := Du.num_iff.1 q3
        have hc := Du.num_iff.1 q5
        have bl0 := lft_bd (c := c) b0 ht0.1 ht0.2
        have bl1 := lft_bd (c := c) b1 ht1.1 ht1.2
        rw [eg] at hg hne
        rw [eh] at hh hne
        obtain ⟨l0, el0⟩ : ∃ l0, lft t0 c b0 = l0 := ⟨_, rfl⟩
        obtain ⟨l1, el1⟩ : ∃ l1, lft t1 c b1 = l1 := ⟨_, rfl⟩
        rw [el0] at bl0
        rw [el1] at bl1
        obtain ⟨x, ex⟩ : ∃ x, Fm.ad g (-h) = x := ⟨_, rfl⟩
        obtain ⟨one, e1⟩ : ∃ one, Fm.inv x = one := ⟨_, rfl⟩
        obtain ⟨y, ey⟩ : ∃ y, Fm.ad l0 (-l1) = y := ⟨_, rfl⟩
        obtain ⟨b, e2⟩ : ∃ b, Fm.ml y one = b := ⟨_, rfl⟩
        obtain ⟨m, em⟩ : ∃ m, Fm.ml b g = m := ⟨_, rfl⟩
        obtain ⟨a, e3⟩ : ∃ a, Fm.ad l0 (-m) = a := ⟨_, rfl⟩
        have hm : 0 ≤ m ∧ m < 1073741789 := by rw [← em]; exact ⟨Fm.ml_lo _ _, Fm.ml_hi _ _⟩
        obtain ⟨k0, k1, k2⟩ := Fm.two_math hg hh hne bl0 bl1 (one := one) (b := b) (a := a) (by rw [ex]; exact e1.symm) (by rw [ey]; exact e2.symm) (by rw [em]; exact e3.symm)
        rw [ex] at k0
        have hr : Du.right a b c = true := Du.right_iff.2 ⟨by rw [← e3]; exact ⟨Fm.ad_lo _ _, Fm.ad_hi _ _⟩, by rw [← e2]; exact ⟨Fm.ml_lo _ _, Fm.ml_hi _ _⟩, q4, hc.2⟩
        have s0 : Du.said a b c (Du.hoI K d0 n0) t0 = (b0, true) := by
          rw [eg]
          refine said_of q4 hc.2 ht0.1 ht0.2 ?_
          rw [k1, ← el0]; rfl
        have s1 : Du.said a b c (Du.hoI K d1 n1) t1 = (b1, true) := by
          rw [eh]
          refine said_of q4 hc.2 ht1.1 ht1.2 ?_
          rw [k2, ← el1]; rfl
        have hr2 := right_ad by_ hr
        have hu : 1 ≤ by_ → Du.num by_ = true → ∃ x1 y1 : Bool, ((y1 = true ∧ x1 = !b0) ∨ (y1 = false ∧ x1 = false)) ∧ Du.said (Fm.ad a by_) b c (Du.hoI K d0 n0) t0 = (x1, y1) := fun j1 j2 => by
          rcases said_other j1 (Du.num_iff.1 j2).2 ht0.1 ht0.2 s0 with ⟨p1, p2⟩ | p
          · exact ⟨_, _, .inl ⟨p1, p2⟩, rfl⟩
          · exact ⟨false, false, .inr ⟨rfl, rfl⟩, p⟩
        have hby : by_ < 1 ∨ 1 ≤ by_ := by omega
        have hu2 : ∀ nb, (!b0) = nb → 1 ≤ by_ → Du.num by_ = true → ∃ x1 y1 : Bool, ((y1 = true ∧ x1 = nb) ∨ (y1 = false ∧ x1 = false)) ∧ ∀ w, Laid w → Calls Tryd.prog 11 #[.agg #[.int .i64 (Fm.ad a by_), .int .i64 b, .int .i64 c], .int .i64 d0, .int .i64 n0, .int .i64 t0] w fun e w' => e = .returned (.tuple #[.bool x1, .bool y1, .int .i64 0]) ∧ Below w.heap.size w w' := fun nb hnb j1 j2 => by
          obtain ⟨x1, y1, p, q⟩ := hu j1 j2
          rw [hnb] at p
          exact ⟨x1, y1, p, readc hr2 q0 q2 q⟩
        have r1 := readc hr q0 q2 s0
        have r2 := readc hr q1 q3 s1
        have r4 := readc hr2 q1 q3 (show Du.said (Fm.ad a by_) b c (Du.hoI K d1 n1) t1 = ((Du.said (Fm.ad a by_) b c (Du.hoI K d1 n1) t1).1, (Du.said (Fm.ad a by_) b c (Du.hoI K d1 n1) t1).2) from rfl)
        cases b0 with
        | true =>
          cases b1 with
          | true => exact dt_tt K t0 t1 d0 d1 n0 n1 c by_ w hL g h l0 l1 x one y b m a _ q0 q1 q2 q3 q4 q5 h1 h2 hne hh bl1 hm hc.2 (addc el0) (addc el1) (addc ex) (invc e1 k0) (addc ey) (mulc e2) (mulc em) (addw e3 hm) hr r1 r2 hby (addc rfl) _ _ (hu2 _ rfl) r4
          | false => exact dt_tf K t0 t1 d0 d1 n0 n1 c by_ w hL g h l0 l1 x one y b m a _ q0 q1 q2 q3 q4 q5 h1 h2 hne hh bl1 hm hc.2 (addc el0) el1 (addc ex) (invc e1 k0) (addc ey) (mulc e2) (mulc em) (addw e3 hm) hr r1 r2 hby (addc rfl) _ _ (hu2 _ rfl) r4
        | false =>
          cases b1 with
          | true => exact dt_ft K t0 t1 d0 d1 n0 n1 c by_ w hL g h l0 l1 x one y b m a _ q0 q1 q2 q3 q4 q5 h1 h2 hne hh bl1 hm hc.2 el0 (addc el1) (addc ex) (invc e1 k0) (addc ey) (mulc e2) (mulc em) (addw e3 hm) hr r1 r2 hby (addc rfl) _ _ (hu2 _ rfl) r4
          | false => exact dt_ff K t0 t1 d0 d1 n0 n1 c by_ w hL g h l0 l1 x one y b m a _ q0 q1 q2 q3 q4 q5 h1 h2 hne hh bl1 hm hc.2 el0 el1 (addc ex) (invc e1 k0) (addc ey) (mulc e2) (mulc em) (addw e3 hm) hr r1 r2 hby (addc rfl) _ _ (hu2 _ rfl) r4
  · exact dt_g4 K t0 t1 d0 d1 n0 n1 c by_ b0 b1 w hL q0 q1 q2 q3 (by omega)
end Go.Proofs.YtllabahapaeedaaDoor
