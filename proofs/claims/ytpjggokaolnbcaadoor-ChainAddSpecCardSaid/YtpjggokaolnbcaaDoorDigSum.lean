/- SHA-256: Sum. -/
import Derived.Test.YtpjggokaolnbcaaDoorDigAbsorb
namespace Go.Proofs.YtpjggokaolnbcaaDoor
open Go.RowKit
set_option linter.unusedVariables false
namespace Sh
/-- the state behind j whole blocks -/
def sb (c : Cst) (bs : List Int) : Nat → List Int
  | 0 => Hs
  | j + 1 => block c (sb c bs j) ((bs.drop (64 * j)).take 64)
theorem sb_length (c : Cst) (bs : List Int) : ∀ j, (sb c bs j).length = 8
  | 0 => rfl
  | j + 1 => by rw [sb, block_length, sb_length c bs j]
def zer (n : Nat) : List Int := List.replicate n 0
/-- the last block, or two -/
def pre (rest : List Int) : List Int := (rest ++ (zer 128).drop rest.length).set rest.length 128
def tail (rest : List Int) (o : Nat) (n : Int) : List Int := put (pre rest) o 8 n 8
theorem pre_length {rest : List Int} (h : rest.length ≤ 128) : (pre rest).length = 128 := by
  rw [pre, List.length_set, List.length_append, List.length_drop, zer, List.length_replicate]; omega
/-- bytes of the state -/
def out (s : List Int) : Nat → List Int
  | 0 => List.replicate 32 0
  | q + 1 => put (out s q) (4 * q) 4 (IntKind.u64.wrap (s.getD q 0)) 4
theorem out_length (s : List Int) : ∀ q, (out s q).length = 32
  | 0 => by rw [out, List.length_replicate]
  | q + 1 => by rw [out, put_length, out_length s q]
def lastState (c : Cst) (bs : List Int) : List Int :=
  if bs.length % 64 ≤ 55 then block c (sb c bs (bs.length / 64)) ((tail (bs.drop (64 * (bs.length / 64))) 56 (bs.length * 8)).take 64)
  else block c (block c (sb c bs (bs.length / 64)) ((tail (bs.drop (64 * (bs.length / 64))) 120 (bs.length * 8)).take 64)) (((tail (bs.drop (64 * (bs.length / 64))) 120 (bs.length * 8)).drop 64).take 64)
def sum (c : Cst) (bs : List Int) : List Int := out (lastState c bs) c.d
theorem sum_length (c : Cst) (bs : List Int) : (sum c bs).length = 32 := out_length _ _
def Byt (x : Int) : Prop := 0 ≤ x ∧ x < 256
theorem byte_bd (n : Int) (i : Nat) : Byt (byte n i) := by
  unfold Byt byte
  rw [show IntKind.u8.wrap (n / 2 ^ (8 * i)) = (n / 2 ^ (8 * i)) % 256 by simp [IntKind.wrap, IntKind.bits, IntKind.signed]]
  omega
theorem put_bytes {l : List Int} (h : ∀ x ∈ l, Byt x) (o m : Nat) (n : Int) : ∀ k, ∀ x ∈ put l o m n k, Byt x
  | 0 => h
  | k + 1 => fun x hx => by
    rw [put] at hx
    rcases List.mem_or_eq_of_mem_set hx with h1 | h1
    · exact put_bytes h o m n k x h1
    · subst h1; exact byte_bd n k
theorem tail_bytes {rest : List Int} (h : ∀ x ∈ rest, Byt x) (o : Nat) (n : Int) : ∀ x ∈ tail rest o n, Byt x := put_bytes (fun x hx => by
  rcases List.mem_or_eq_of_mem_set hx with h1 | h1
  · rcases List.mem_append.1 h1 with h2 | h2
    · exact h x h2
    · have := List.eq_of_mem_replicate (List.mem_of_mem_drop h2)
      subst this; exact ⟨by decide, by decide⟩
  · subst h1; exact ⟨by decide, by decide⟩) _ _ _ _
theorem tail_length {rest : List Int} (h : rest.length ≤ 128) (o : Nat) (n : Int) : (tail rest o n).length = 128 := by
  rw [tail, put_length, pre_length h]
end Sh
theorem make128 : ∃ ob : Obj, (∀ W, (Instr.makeSlice 23 (.int .i64 64) (.int .i64 128)).run Tryd.prog W = .ok (.slice (some ⟨W.heap.size, 0, none⟩) 64 128) (W.alloc ob)) ∧ ∀ W : World, Ints (W.alloc ob) W.heap.size 5 .u8 (Sh.zer 128) :=
  ⟨.cells ((List.replicate 128 (0 : Int)).map (Value.int .u8)).toArray 5, fun _ => by kernel_rfl, fun W => Ints.new W _ _ _⟩
theorem ints_some {w : World} {g : Nat} {t : TypeId} {k : IntKind} {l : List Int} (h : Ints w g t k l) {i : Nat} (hi : i < l.length) : ∃ y, w.cell? ⟨g, i, none⟩ = some (.int k y) := ⟨_, h.cell hi⟩
theorem wpList_store_same {P : Program} {ops : Array Oper} {rest : List Oper} {o : Oper} {a : Act} {w : World} {Q : Exit → Act → World → Prop} (hgd : o.guard = none) (ty : TypeId) (x y : Operand) (ho : o.op = .store ty x y)
    (g : Nat) (cells : Array Value) (hx : a.eval x = .pointer (some ⟨g, 0, none⟩)) (hy : a.eval y = .agg cells)
    (t : TypeId) (hg : w.heap[g]? = some (.cells cells t (0, 0))) (hi : (P.info? ty).map (·.size) = some cells.size)
    (h1 : cells.all (·.oneCell') = true) (h : wpList P ops Q rest (a.put o.dst undef) w) : wpList P ops Q (o :: rest) a w :=
  wpList_store_row hgd ty x y ho g cells hx hy t cells hg hi rfl h1 (by rw [setRow_self w g cells t (0, 0) hg]; exact h)
theorem ints_one (k : IntKind) (l : List Int) : (l.map (Value.int k)).toArray.all (·.oneCell') = true := by
  rw [Array.all_eq_true_iff_forall_mem]
  intro v hv
  obtain ⟨x, _, rfl⟩ := List.mem_map.1 (by simpa using hv)
  rfl
theorem index8 (a b c d e f g h : Int) (q : Nat) (hq : q < 8) (W : World) : (Instr.index 72 (.agg #[.int .u32 a, .int .u32 b, .int .u32 c, .int .u32 d, .int .u32 e, .int .u32 f, .int .u32 g, .int .u32 h]) (.int .i64 q)).run Tryd.prog W = .ok (.int .u32 ([a, b, c, d, e, f, g, h].getD q 0)) W := by
  obtain rfl | rfl | rfl | rfl | rfl | rfl | rfl | rfl : q = 0 ∨ q = 1 ∨ q = 2 ∨ q = 3 ∨ q = 4 ∨ q = 5 ∨ q = 6 ∨ q = 7 := by omega
  all_goals kernel_rfl
theorem slice8 (g q : Nat) (hq : q < 8) (W : World) : (Instr.sliceAt 35 (.pointer (some ⟨g, 0, none⟩)) (some (.int .i64 (4 * (q : Int)))) (some (.int .i64 (4 * (q : Int) + 4))) none).run Tryd.prog W = .ok (.slice (some ⟨g, 4 * q, none⟩) 4 (32 - 4 * q)) W := by
  obtain rfl | rfl | rfl | rfl | rfl | rfl | rfl | rfl : q = 0 ∨ q = 1 ∨ q = 2 ∨ q = 3 ∨ q = 4 ∨ q = 5 ∨ q = 6 ∨ q = 7 := by omega
  all_goals kernel_rfl
theorem hb_of_grown {w w' : World} {b o n g : Nat} {xs : List Value} (h : Rd w w.heap.size 1 (some ⟨b, o, none⟩) n xs) (hg : w.grownBy w' (some g)) (hne : b ≠ g) : Rd w' w'.heap.size 1 (some ⟨b, o, none⟩) n xs := by
  refine ⟨h.1, fun hn => ?_⟩
  obtain ⟨b', o', e, hb, hc⟩ := h.2 hn
  injection e with e
  injection e with e1 e2
  subst e1; subst e2
  exact ⟨b, o, rfl, Nat.lt_of_lt_of_le hb hg.size, fun j u hu => hg.cell (hc j u hu) (by simpa using hne)⟩
def lenOf : Value → Nat | .slice _ n _ => n | _ => 0
set_option maxRecDepth 100000 in
set_option maxHeartbeats 4000000 in
theorem sum_any (K : Sh.Cst) (A : Option Addr) (n cap : Nat) (bs : List Int) (w : World) (hr : Rd w w.heap.size 1 A n (bs.map (Value.int .u8))) (hbb : ∀ x ∈ bs, 0 ≤ x ∧ x < 256)
    (hn : n ≤ 1000000) (hnc : n ≤ cap) (hcap : cap ≤ maxLen) (hL : Laid w) :
    Calls Tryd.prog 32 #[.slice A n cap] w fun e w' => e = .returned (.agg ((Sh.sum K bs).map (Value.int .u8)).toArray) ∧ Below w.heap.size w w' := by
  unfold maxLen at hcap
  have hlen : bs.length = n := by simpa using hr.1
  have hKd := Lib.hid K.hd
  have hst : ∀ W, Below 2 w W → ∀ (j : Nat) (v : Value), (Sh.Hs.map (Value.int .u32))[j]? = some v → W.cell? ((⟨0, 0, none⟩ : Addr).add j) = some v := fun W hW =>
    ints_cells (fun i hi => by rw [Nat.zero_add]; exact (hL.below hW (Nat.le_refl _)).start i hi)
  go_enter Tryd.func32, Tryd.ntmps32
  go_wp2_with (refine wpList_load_cells rfl 71 (.global 0) rfl ⟨0, 0, none⟩ (by rfl) [.int .u32 1779033703, .int .u32 3144134277, .int .u32 1013904242, .int .u32 2773480762, .int .u32 1359893119, .int .u32 2600822924, .int .u32 528734635, .int .u32 1541459225] _ (hst _ (by first | exact Below.refl _ _ | exact (Below.refl 2 w).alloc hL.size _ | exact ((Below.refl 2 w).alloc hL.size _).alloc (by simp; have := hL.size; omega) _)) Tryd.underlying71 (by rfl) (by kernel_rfl) ?_)
  have hD := (Ints.new w 35 .u8 (List.replicate 32 0)).alloc (.cells (Sh.Hs.map (Value.int .u32)).toArray 72)
  have hS := Ints.new (w.alloc (.cells ((List.replicate 32 (0 : Int)).map (Value.int .u8)).toArray 35)) 72 .u32 Sh.Hs
  have hB := ((Below.refl w.heap.size w).alloc (Nat.le_refl _) (.cells ((List.replicate 32 (0 : Int)).map (Value.int .u8)).toArray 35)).alloc (by simp) (.cells (Sh.Hs.map (Value.int .u32)).toArray 72)
  rw [World.size_alloc] at hS
  go_loopw [5] (fun v wr => ∃ (j : Nat) (A' : Option Addr), 64 * j ≤ n ∧ v = .slice A' (n - 64 * j) (cap - 64 * j) ∧ Rd wr w.heap.size 1 A' (n - 64 * j) ((bs.drop (64 * j)).map (Value.int .u8)) ∧ Ints wr w.heap.size 35 .u8 (List.replicate 32 0) ∧ Ints wr (w.heap.size + 1) 72 .u32 (Sh.sb K bs j) ∧ Below w.heap.size w wr) (fun v _ => lenOf v)
  case atStart => exact ⟨0, A, by omega, by simp, by have hR0 := hr.below hB; simp only [Nat.mul_zero, Nat.sub_zero, List.drop_zero]; exact hR0, hD, hS, hB⟩
  case round =>
    clear hD hS hB hst
    obtain ⟨j, A', hj, rfl, hR, hD, hS, hB⟩ := hrel
    obtain ⟨m, hm⟩ : ∃ m, n - 64 * j = m := ⟨_, rfl⟩
    obtain ⟨c, hc⟩ : ∃ c, cap - 64 * j = c := ⟨_, rfl⟩
    rw [hm] at hR ⊢
    rw [hc]
    have hmc : m ≤ c := by omega
    have hcb : c ≤ 9223372036854775807 := by omega
    by_cases h64 : 64 ≤ m
    · have k1 : (64 : Int) ≤ m := by omega
      have k2 : (64 : Int) ≤ c := by omega
      have k2' : 64 ≤ c := by omega
      obtain ⟨b, o, hA, hb, _⟩ := hR.2 (by omega)
      subst hA
      have HM := Lib.hid hm
      have HC := Lib.hid hc
      clear hm hc
      have hT := (hR.take (k := 64) h64).more hB.size
      rw [← List.map_take] at hT
      have hTb : ∀ x ∈ (bs.drop (64 * j)).take 64, 0 ≤ x ∧ x < 256 := fun x hx => hbb x (List.mem_of_mem_drop (List.mem_of_mem_take hx))
      have HT := Lib.hid hT
      have HTb := Lib.hid hTb
      clear hT hTb
      go_wp2_with fail
      refine (absorb_any K (w.heap.size + 1) b o c 72 (Sh.sb K bs j) ((bs.drop (64 * j)).take 64) _ hS (Sh.sb_length K bs j) HT.out HTb.out k2' (by unfold maxLen; omega) (by omega) (hL.below hB hL.size)).mono ?_
      rintro e w2 ⟨rfl, hS2, hg2⟩
      have hR2 := (hR.cut (k := 64) (cap := c) h64 hmc).grown hg2 hB.size (fun g e => by injection e with e; omega)
      have hD2 := hD.grown hg2 (by simp)
      have hB2 := hB.grown hg2 hB.size (fun g e => by injection e with e; omega)
      have hS2 : Ints w2 (w.heap.size + 1) 72 .u32 (Sh.sb K bs (j + 1)) := hS2
      have HX : Hid (((bs.drop (64 * j)).map (Value.int .u8)).drop (64 * 1) = (bs.drop (64 * (j + 1))).map (Value.int .u8)) := by
        show _ = _
        rw [← List.map_drop, List.drop_drop]
        congr 2
      rw [HX.out] at hR2
      have HR2 := Lib.hid hR2
      clear hR2 hR hD hB hS hg2
      by_cases h4 : c = 64
      · have h5 : m = 64 := by omega
        subst h4
        subst h5
        go_wp2
        go_roundw
        case rel => exact ⟨j + 1, some ⟨b, o, none⟩, by have := HM.out; omega, by rw [show n - 64 * (j + 1) = 0 by have := HM.out; omega, show cap - 64 * (j + 1) = 0 by have := HC.out; omega], by have h := HR2.out; rw [if_pos trivial] at h; rw [show n - 64 * (j + 1) = 64 - 64 by have := HM.out; omega]; exact h, hD2, hS2, hB2⟩
        case measure => simp [lenOf]
      · go_wp2
        go_roundw
        case rel => exact ⟨j + 1, some ⟨b, o + 64, none⟩, by have := HM.out; omega, by rw [show n - 64 * (j + 1) = m - 64 by have := HM.out; omega, show cap - 64 * (j + 1) = c - 64 by have := HC.out; omega], by have h := HR2.out; rw [if_neg h4] at h; rw [show n - 64 * (j + 1) = m - 64 by have := HM.out; omega]; simpa [Addr.add_flat] using h, hD2, hS2, hB2⟩
        case measure => simp [lenOf]; omega
    · have hm64 : m < 64 := by omega
      have hj : j = bs.length / 64 := by omega
      have hml : m = bs.length % 64 := by omega
      have hrl : (bs.drop (64 * j)).length = m := by rw [List.length_drop]; omega
      have hrb : ∀ x ∈ bs.drop (64 * j), Sh.Byt x := fun x hx => hbb x (List.mem_of_mem_drop hx)
      have hm1 : ((bs.length : Nat) : Int) * 8 = (n : Int) * 8 := by rw [hlen]
      obtain ⟨rest, hrest⟩ : ∃ r, bs.drop (64 * j) = r := ⟨_, rfl⟩
      rw [hrest] at hR hrl hrb
      have hR := Lib.hid hR
      have HJ := Lib.hid hj
      have HML := Lib.hid hml
      have HRL := Lib.hid hrl
      have HRB := Lib.hid hrb
      have HRE := Lib.hid hrest
      have HM1 := Lib.hid hm1
      clear hm hc hj hml hrl hrb hrest hm1 hlen
      obtain ⟨ob, hmk, hEa⟩ := make128
      have hge := hS.lt
      have hE := hEa wr
      have hD := hD.alloc ob
      have hS := hS.alloc ob
      have hgr := World.grownBy_alloc wr ob none
      clear hEa
      by_cases h55 : m ≤ 55
      · have k1 : (m : Int) ≤ 55 := by omega
        go_wp2_with ((refine wpList_copy_rd rfl (.tmp 22) (.tmp 23) 23 23 rfl 5 Tryd.underlying23 (by kernel_rfl) wr.heap.size 0 64 128 _ _ _ (by rfl) (by rfl) hE rest (hR.out.alloc hB.size _) (by omega) (by rw [Sh.zer, List.length_replicate, HRL.out]; omega) ?_); intro w3 hE0 hgE; have hE3 : Ints w3 wr.heap.size 5 .u8 (rest ++ (Sh.zer 128).drop rest.length) := (by simpa using hE0); clear hE0; obtain ⟨y3, q3⟩ := ints_some hE3 (i := m) (by rw [List.length_append, List.length_drop, Sh.zer, List.length_replicate, HRL.out]; omega); have f3 := hE3.frozen m)
        have hP : Ints (w3.setCell ⟨wr.heap.size, m, none⟩ (.int .u8 128)) wr.heap.size 5 .u8 (Sh.pre rest) := by have h := HRL.out; subst h; exact hE3.set_ rest.length 128
        have hgP := grown_set hgE m (.int .u8 128)
        have hD := hD.grown hgP (by simp; omega)
        have hS := hS.grown hgP (by simp; omega)
        have hB := (hB.alloc hB.size ob).grown hgP (by simp; have := hB.size; omega) (fun g e => by injection e with e; have := hB.size; omega)
        clear hE3 hgE q3 f3 hgP
        generalize w3.setCell ⟨wr.heap.size, m, none⟩ (.int .u8 128) = w4 at hP hD hS hB ⊢
        refine (put_any wr.heap.size 56 8 72 5 (Sh.pre rest) _ w4 hP (by rw [Sh.pre_length (by rw [HRL.out]; omega)]; omega) (by omega) (by omega)).mono ?_
        rintro e w5 ⟨rfl, hP5, hg5⟩
        have hP5 : Ints w5 wr.heap.size 5 .u8 (Sh.tail rest 56 ((n : Int) * 8)) := hP5
        have hD5 := hD.grown hg5 (by simp; omega)
        have hS5 := hS.grown hg5 (by simp; omega)
        have hB5 := hB.grown hg5 hB.size (fun g e => by injection e with e; omega)
        clear hP hD hS hB hg5
        have hlt := Sh.tail_length (rest := rest) (by rw [HRL.out]; omega) 56 ((n : Int) * 8)
        have htb := Sh.tail_bytes HRB.out 56 ((n : Int) * 8)
        generalize hT : Sh.tail rest 56 ((n : Int) * 8) = T at *
        have HT := Lib.hid hT
        have hb5 := hP5.rd 0 64 (by omega)
        rw [List.drop_zero] at hb5
        have hbb5 : ∀ x ∈ T.take 64, 0 ≤ x ∧ x < 256 := fun x hx => htb x (List.mem_of_mem_take hx)
        have HB5 := Lib.hid hb5
        have HBB5 := Lib.hid hbb5
        have HTL := Lib.hid hlt
        clear hT hb5 hbb5 htb hlt
        go_wp2_with fail
        refine wp_loop_rounds 2 ?_
        rw [rounds_succ]
        go_wp2_with fail
        refine (absorb_any K (w.heap.size + 1) wr.heap.size 0 128 72 (Sh.sb K bs j) (T.take 64) _ hS5 (Sh.sb_length K bs j) HB5.out HBB5.out (by omega) (by unfold maxLen; omega) (by omega) (hL.below hB5 hL.size)).mono ?_
        rintro e w6 ⟨rfl, hS6, hg6⟩
        have hD6 := hD5.grown hg6 (by simp)
        have hB6 := hB5.grown hg6 hB5.size (fun g e => by injection e with e; omega)
        clear hg6 hS5 hD5 hB5 hP5
        have HLS : Hid (Sh.lastState K bs = Sh.block K (Sh.sb K bs j) (T.take 64)) := by
          show _ = _
          have h1 := HJ.out
          have h2 := HML.out
          have h3 := HRE.out
          have h4 := HT.out
          have h5 := HM1.out
          rw [Sh.lastState, if_pos (by omega), ← h1, h3, h5, h4]
        have hFl := (Sh.block_length K (Sh.sb K bs j) (T.take 64)).trans (Sh.sb_length K bs j)
        generalize Sh.block K (Sh.sb K bs j) (T.take 64) = F at *
        go_wp2
        rw [rounds_succ]
        obtain ⟨f0, f1, f2, f3, f4, f5, f6, f7, rfl⟩ := eight hFl
        clear hFl
        go_wp2_with (refine wpList_load_row rfl 72 (.tmp 3) rfl (w.heap.size + 1) (by rfl) 72 _ (0, 0) _ hS6 Tryd.underlying72 (by rfl) (by kernel_rfl) ?_)
        obtain ⟨ff, hff⟩ : ∃ ff, [f0, f1, f2, f3, f4, f5, f6, f7] = ff := ⟨_, rfl⟩
        go_loopw [54] (fun i wx => ∃ q : Nat, q ≤ 8 ∧ i = .int .i64 q ∧ Ints wx w.heap.size 35 .u8 (Sh.out ff q) ∧ Below w.heap.size w wx) (fun i _ => 8 - (intOf i).toNat)
        case atStart => exact ⟨0, by omega, rfl, hD6, hB6⟩
        case round =>
          clear hD6 hB6 hS6
          obtain ⟨q, hq, rfl, hD, hB⟩ := hrel
          by_cases hlt : q < 8
          · have hix := index8 f0 f1 f2 f3 f4 f5 f6 f7 q hlt
            rw [hff] at hix
            have HQ : Hid (Sh.out ff (q + 1) = Sh.put (Sh.out ff q) (4 * q) 4 (IntKind.u64.wrap (ff.getD q 0)) 4) := rfl
            generalize ff.getD q 0 = fx at *
            have k1 : (q : Int) < 8 := by omega
            have hsl := slice8 w.heap.size q hlt
            have k2 : (4 * (q : Int)) ≤ 28 := by omega
            go_wp2_with fail
            refine (put_any w.heap.size (4 * q) 4 (32 - 4 * q) 35 (Sh.out ff q) _ _ hD (by rw [Sh.out_length]; omega) (by omega) (by omega)).mono ?_
            rintro e w7 ⟨rfl, hD7, hg7⟩
            go_wp2
            go_roundw
            case rel => exact ⟨q + 1, by omega, by go_num, by rw [HQ.out]; exact hD7, hB.grown hg7 hB.size (fun g e => by injection e with e; omega)⟩
            case measure => simp [intOf]; omega
          · have hqd : q = K.d := by have := hKd.out; omega
            rw [hqd] at hD
            have HSum : Hid (Sh.sum K bs = Sh.out ff K.d) := by
              show _ = _
              rw [Sh.sum, HLS.out, hff]
            have hDl := Sh.out_length ff K.d
            generalize Sh.out ff K.d = D at *
            have hi73 : (Tryd.prog.info? 35).map (·.size) = some ((D.map (Value.int .u8)).toArray.size) := by
              rw [show (D.map (Value.int .u8)).toArray.size = 32 by simp [hDl]]
              kernel_rfl
            clear hDl hqd
            go_wp2_with (first | (refine wpList_load_row rfl 35 (.tmp 2) rfl w.heap.size (by rfl) 35 _ (0, 0) _ hD Tryd.underlying35 (by rfl) hi73 ?_) | (refine wpList_store_same rfl 35 (.tmp 2) (.tmp 68) rfl w.heap.size _ (by rfl) (by rfl) 35 hD hi73 (ints_one .u8 D) ?_))
            refine bodyPost_ret (results_cell_row rfl _ _ w.heap.size 35 _ (0, 0) _ (by rfl) hD Tryd.underlying35 (by rfl) hi73) rfl ?_
            exact ⟨by rw [HSum.out], hB⟩
      · have k1 : (55 : Int) < m := by omega
        go_wp2_with ((refine wpList_copy_rd rfl (.tmp 22) (.tmp 23) 23 23 rfl 5 Tryd.underlying23 (by kernel_rfl) wr.heap.size 0 64 128 _ _ _ (by rfl) (by rfl) hE rest (hR.out.alloc hB.size _) (by omega) (by rw [Sh.zer, List.length_replicate, HRL.out]; omega) ?_); intro w3 hE0 hgE; have hE3 : Ints w3 wr.heap.size 5 .u8 (rest ++ (Sh.zer 128).drop rest.length) := (by simpa using hE0); clear hE0; obtain ⟨y3, q3⟩ := ints_some hE3 (i := m) (by rw [List.length_append, List.length_drop, Sh.zer, List.length_replicate, HRL.out]; omega); have f3 := hE3.frozen m)
        have hP : Ints (w3.setCell ⟨wr.heap.size, m, none⟩ (.int .u8 128)) wr.heap.size 5 .u8 (Sh.pre rest) := by have h := HRL.out; subst h; exact hE3.set_ rest.length 128
        have hgP := grown_set hgE m (.int .u8 128)
        have hD := hD.grown hgP (by simp; omega)
        have hS := hS.grown hgP (by simp; omega)
        have hB := (hB.alloc hB.size ob).grown hgP (by simp; have := hB.size; omega) (fun g e => by injection e with e; have := hB.size; omega)
        clear hE3 hgE q3 f3 hgP
        generalize w3.setCell ⟨wr.heap.size, m, none⟩ (.int .u8 128) = w4 at hP hD hS hB ⊢
        refine (put_any wr.heap.size 120 8 8 5 (Sh.pre rest) _ w4 hP (by rw [Sh.pre_length (by rw [HRL.out]; omega)]; omega) (by omega) (by omega)).mono ?_
        rintro e w5 ⟨rfl, hP5, hg5⟩
        have hP5 : Ints w5 wr.heap.size 5 .u8 (Sh.tail rest 120 ((n : Int) * 8)) := hP5
        have hD5 := hD.grown hg5 (by simp; omega)
        have hS5 := hS.grown hg5 (by simp; omega)
        have hB5 := hB.grown hg5 hB.size (fun g e => by injection e with e; omega)
        clear hP hD hS hB hg5
        have hlt := Sh.tail_length (rest := rest) (by rw [HRL.out]; omega) 120 ((n : Int) * 8)
        have htb := Sh.tail_bytes HRB.out 120 ((n : Int) * 8)
        generalize hT : Sh.tail rest 120 ((n : Int) * 8) = T at *
        have HT := Lib.hid hT
        have hb5 := hP5.rd 0 64 (by omega)
        rw [List.drop_zero] at hb5
        have hbb5 : ∀ x ∈ T.take 64, 0 ≤ x ∧ x < 256 := fun x hx => htb x (List.mem_of_mem_take hx)
        have hb5b := hP5.rd 64 64 (by omega)
        have hbb5b : ∀ x ∈ (T.drop 64).take 64, 0 ≤ x ∧ x < 256 := fun x hx => htb x (List.mem_of_mem_drop (List.mem_of_mem_take hx))
        have HB5b := Lib.hid hb5b
        have HBB5b := Lib.hid hbb5b
        clear hb5b hbb5b
        have HB5 := Lib.hid hb5
        have HBB5 := Lib.hid hbb5
        have HTL := Lib.hid hlt
        clear hT hb5 hbb5 htb hlt
        go_wp2_with fail
        refine wp_loop_rounds 3 ?_
        rw [rounds_succ]
        go_wp2_with fail
        refine (absorb_any K (w.heap.size + 1) wr.heap.size 0 128 72 (Sh.sb K bs j) (T.take 64) _ hS5 (Sh.sb_length K bs j) HB5.out HBB5.out (by omega) (by unfold maxLen; omega) (by omega) (hL.below hB5 hL.size)).mono ?_
        rintro e w6 ⟨rfl, hS6, hg6⟩
        have hD6 := hD5.grown hg6 (by simp)
        have hB6 := hB5.grown hg6 hB5.size (fun g e => by injection e with e; omega)
        have hE6 := Lib.hid (hb_of_grown HB5b.out hg6 (by simp; omega))
        have hg6s := hg6.size
        clear hg6 hS5 hD5 hB5 hP5
        have HSL := Lib.hid ((Sh.block_length K (Sh.sb K bs j) (T.take 64)).trans (Sh.sb_length K bs j))
        go_wp2
        rw [rounds_succ]
        go_wp2_with fail
        refine (absorb_any K (w.heap.size + 1) wr.heap.size 64 64 72 (Sh.block K (Sh.sb K bs j) (T.take 64)) ((T.drop 64).take 64) _ hS6 HSL.out hE6.out HBB5b.out (by omega) (by unfold maxLen; omega) (by omega) (hL.below hB6 hL.size)).mono ?_
        rintro e w7 ⟨rfl, hS7, hg7⟩
        have hD7 := hD6.grown hg7 (by simp)
        have hB7 := hB6.grown hg7 hB6.size (fun g e => by injection e with e; omega)
        clear hg7 hS6 hD6 hB6
        have HLS : Hid (Sh.lastState K bs = Sh.block K (Sh.block K (Sh.sb K bs j) (T.take 64)) ((T.drop 64).take 64)) := by
          show _ = _
          have h1 := HJ.out
          have h2 := HML.out
          have h3 := HRE.out
          have h4 := HT.out
          have h5 := HM1.out
          rw [Sh.lastState, if_neg (by omega), ← h1, h3, h5, h4]
        have hFl := (Sh.block_length K (Sh.block K (Sh.sb K bs j) (T.take 64)) ((T.drop 64).take 64)).trans ((Sh.block_length K (Sh.sb K bs j) (T.take 64)).trans (Sh.sb_length K bs j))
        generalize Sh.block K (Sh.block K (Sh.sb K bs j) (T.take 64)) ((T.drop 64).take 64) = F at *
        have hS6 := hS7
        have hD6 := hD7
        have hB6 := hB7
        clear hS7 hD7 hB7
        go_wp2
        rw [rounds_succ]
        obtain ⟨f0, f1, f2, f3, f4, f5, f6, f7, rfl⟩ := eight hFl
        clear hFl
        go_wp2_with (refine wpList_load_row rfl 72 (.tmp 3) rfl (w.heap.size + 1) (by rfl) 72 _ (0, 0) _ hS6 Tryd.underlying72 (by rfl) (by kernel_rfl) ?_)
        obtain ⟨ff, hff⟩ : ∃ ff, [f0, f1, f2, f3, f4, f5, f6, f7] = ff := ⟨_, rfl⟩
        go_loopw [54] (fun i wx => ∃ q : Nat, q ≤ 8 ∧ i = .int .i64 q ∧ Ints wx w.heap.size 35 .u8 (Sh.out ff q) ∧ Below w.heap.size w wx) (fun i _ => 8 - (intOf i).toNat)
        case atStart => exact ⟨0, by omega, rfl, hD6, hB6⟩
        case round =>
          clear hD6 hB6 hS6
          obtain ⟨q, hq, rfl, hD, hB⟩ := hrel
          by_cases hlt : q < 8
          · have hix := index8 f0 f1 f2 f3 f4 f5 f6 f7 q hlt
            rw [hff] at hix
            have HQ : Hid (Sh.out ff (q + 1) = Sh.put (Sh.out ff q) (4 * q) 4 (IntKind.u64.wrap (ff.getD q 0)) 4) := rfl
            generalize ff.getD q 0 = fx at *
            have k1 : (q : Int) < 8 := by omega
            have hsl := slice8 w.heap.size q hlt
            have k2 : (4 * (q : Int)) ≤ 28 := by omega
            go_wp2_with fail
            refine (put_any w.heap.size (4 * q) 4 (32 - 4 * q) 35 (Sh.out ff q) _ _ hD (by rw [Sh.out_length]; omega) (by omega) (by omega)).mono ?_
            rintro e w7 ⟨rfl, hD7, hg7⟩
            go_wp2
            go_roundw
            case rel => exact ⟨q + 1, by omega, by go_num, by rw [HQ.out]; exact hD7, hB.grown hg7 hB.size (fun g e => by injection e with e; omega)⟩
            case measure => simp [intOf]; omega
          · have hqd : q = K.d := by have := hKd.out; omega
            rw [hqd] at hD
            have HSum : Hid (Sh.sum K bs = Sh.out ff K.d) := by
              show _ = _
              rw [Sh.sum, HLS.out, hff]
            have hDl := Sh.out_length ff K.d
            generalize Sh.out ff K.d = D at *
            have hi73 : (Tryd.prog.info? 35).map (·.size) = some ((D.map (Value.int .u8)).toArray.size) := by
              rw [show (D.map (Value.int .u8)).toArray.size = 32 by simp [hDl]]
              kernel_rfl
            clear hDl hqd
            go_wp2_with (first | (refine wpList_load_row rfl 35 (.tmp 2) rfl w.heap.size (by rfl) 35 _ (0, 0) _ hD Tryd.underlying35 (by rfl) hi73 ?_) | (refine wpList_store_same rfl 35 (.tmp 2) (.tmp 68) rfl w.heap.size _ (by rfl) (by rfl) 35 hD hi73 (ints_one .u8 D) ?_))
            refine bodyPost_ret (results_cell_row rfl _ _ w.heap.size 35 _ (0, 0) _ (by rfl) hD Tryd.underlying35 (by rfl) hi73) rfl ?_
            exact ⟨by rw [HSum.out], hB⟩
end Go.Proofs.YtpjggokaolnbcaaDoor
