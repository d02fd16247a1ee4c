/- Package codec: the writer of lists, and Encode, at lists of numbers and texts. -/
import Derived.Test.YtpjggokaolnbcaaDoorLCodec2
import Derived.StillTailTactics
namespace Go.Proofs.YtpjggokaolnbcaaDoor
open Go.RowKit
set_option linter.unusedVariables false
def El.enc : El → List Int
  | .int z => 1 :: Cd.numL (uns z)
  | .txt s => [2] ++ Cd.numL s.size ++ strInts s
def encEls (l : List El) : List Int := [3] ++ Cd.numL l.length ++ l.flatMap El.enc
theorem El.enc_length {x : El} (h : x.ok) : x.enc.length ≤ 2011 := by
  cases x with
  | int z =>
    unfold El.ok at h
    have := Cd.numL_ten (uns_lt h)
    simp only [El.enc, List.length_cons]; omega
  | txt s =>
    unfold El.ok at h
    have := Cd.numL_ten (u := s.size) (by omega)
    simp only [El.enc, List.length_append, List.length_cons, List.length_nil, strInts_length]; omega
theorem flat_len {l : List El} (h : ∀ x ∈ l, x.ok) : (l.flatMap El.enc).length ≤ 2011 * l.length := by
  induction l with
  | nil => simp
  | cons a l ih =>
    have h1 := El.enc_length (h a (by simp))
    have h2 := ih (fun x hx => h x (by simp [hx]))
    simp only [List.flatMap_cons, List.length_append, List.length_cons]
    omega
theorem take_enc {l : List El} {k : Nat} {x : El} (h : l[k]? = some x) : (l.take (k + 1)).flatMap El.enc = (l.take k).flatMap El.enc ++ x.enc := by
  rw [List.take_add_one, h]; simp
def nilV : Value := .slice none 0 0
set_option maxRecDepth 100000 in
set_option maxHeartbeats 4000000 in
theorem w3_list (base g c gw n : Nat) (l : List El) (w : World) (hl : l.length = n) (hp : 0 < n) (hn : n ≤ 20) (hok : ∀ x ∈ l, x.ok) (hbase : base ≤ w.heap.size) (hgw : gw + 1 < base)
    (hr : Rd w base 4 (some ⟨g, 0, none⟩) n (elsCells l)) (hnc : n ≤ c) (hW : Wr w gw) :
    Calls Tryd.prog 50 #[.slice none 0 0, listV (some ⟨g, 0, none⟩) n c, .pointer (some ⟨gw + 1, 0, none⟩)] w (NumPost base w nilV 0 [] ([3] ++ Cd.numL n ++ l.flatMap El.enc)) := by
  obtain ⟨i0, hi, hz0', hz1', hz2'⟩ := info_parts infoU8c
  have hbox : (w.alloc (.cells #[.int .i64 3, .int .i64 0, .string ⟨#[]⟩, .slice (some ⟨g, 0, none⟩) n c] 52)).cell? ⟨w.heap.size, 3, none⟩ = some (.slice (some ⟨g, 0, none⟩) n c) := by
    rw [cell_of_row _ w.heap.size 3 _ _ _ (heap_alloc_new w _)]; rfl
  have hown : w.ownsRow base 5 1 (.slice none 0 0) 0 (([] : List Int).map (Value.int .u8)) := World.ownsRow_nil _ _ _ _
  have hne : some w.heap.size ≠ (Value.slice none 0 0).ownBlock := by simp [Value.ownBlock]
  have hu64 : IntKind.u64.wrap (n : Int) = (n : Int) := by
    rw [show IntKind.u64.wrap (n : Int) = (n : Int) % 18446744073709551616 by simp [IntKind.wrap, IntKind.bits, IntKind.signed]]; omega
  have hten := Cd.numL_ten (u := n) (by omega)
  have hg := rd_lt hr hp
  have HT := Lib.hid hten
  have HW := Lib.hid hW
  have HR := Lib.hid hr
  have HL := Lib.hid hl
  have HK := Lib.hid hok
  have hn9 : (n : Int) ≤ 20 := by omega
  obtain ⟨P, hP⟩ : ∃ P, NumPost base w nilV 0 [] ([3] ++ Cd.numL n ++ l.flatMap El.enc) = P := ⟨_, rfl⟩
  rw [hP]
  obtain ⟨X, hX⟩ : ∃ X, [3] ++ Cd.numL n = X := ⟨_, rfl⟩
  rw [hX] at hP
  have HP := Lib.hid hP
  have HX0 := Lib.hid hX
  clear hP hX
  clear hW hr hten hl hok
  unfold listV
  go_enter Tryd.func50, Tryd.ntmps50
  go_wp2
  go_region_held3 (fun w' => w'.cell? ⟨w.heap.size, 3, none⟩ = some (.slice (some ⟨g, 0, none⟩) n c))
    (first
      | (go_keep; done)
      | exact hq1
      | exact (hG.grow.cell_far ⟨w.heap.size, 3, none⟩ hlt1 hne1).trans hq1)
    ((first | (go_at_call 47; (refine (numeral_any base v1 1 [3] n w1 (by simpa using hown1) (by omega) (by omega) (by omega)).mono ?_); rintro e w3 ⟨v3, rfl, hG⟩) | (refine wp_atc (by rfl) (wp_append_rd _ (.tmp 8) (.tmp 9) 23 (by rfl) base 5 i0 _ 1 1 Tryd.underlying23 hi hz0' hz1' hz2' rfl (by omega) (.slice none 0 0) 0 _ (by rfl) ((hown.alloc _).alloc _).drew _ _ 1 _ [.int .u8 3] (by rfl) (rd_one _ _ _ _ (by simp)).drew (fun u hu => by simp at hu; subst hu; rfl) (by unfold maxLen; omega) (by omega) (by simp; omega) ?_); intro v1 w1 hown1 hg1 hb1; have hq1 := (hg1.cell_far ⟨w.heap.size, 3, none⟩ (by simp; omega) hne).trans (cell_box2 w _ _ hbox); have hlt1 : w.heap.size < w1.heap.size := (by have := hg1.size; simp at this; omega); have hne1 := own_ne hne hb1 (by simp; omega)) | fail))
  have hG0 : Grew base w (.slice none 0 0) 0 [] w1 v1 [3] := Grew.mk1 (grown_drew (grown_alloc (World.grownBy_alloc w _ _) _)) hown1 hg1 hb1
  have hG2 : Grew base w (.slice none 0 0) 0 [] w3 v3 ([3] ++ Cd.numL n) := hG0.then hG
  have hq3 := (hG.grow.cell_far ⟨w.heap.size, 3, none⟩ hlt1 hne1).trans hq1
  clear hG0 hG hown1 hg1 hb1 hq1 hne1 hlt1 hbox hown hne
  have hXl : X.length ≤ 11 := by rw [← HX0.out]; have := HT.out; simp only [List.length_append, List.length_cons, List.length_nil]; omega
  rw [HX0.out] at hG2
  go_wp2
  go_loopw [0, 19] (fun v i wr => ∃ (k : Nat) (u : Value), u = v ∧ k ≤ n ∧ i = .int .i64 k ∧ Grew base w (.slice none 0 0) 0 [] wr u (X ++ (l.take k).flatMap El.enc)) (fun _ i _ => n - (intOf i).toNat)
  case atStart => exact ⟨0, _, rfl, by omega, rfl, by rw [List.take_zero, List.flatMap_nil, List.append_nil]; exact hG2⟩
  case round =>
    clear hG2 hq3
    obtain ⟨k, v, hvu, hk, rfl, hG⟩ := hrel
    subst hvu
    have hsz : base ≤ wr.heap.size := Nat.le_trans hbase hG.grow.size
    by_cases hlt : k < n
    · have k1 : (k : Int) < n := by omega
      have hfl := flat_len (l := l.take k) (fun x hx => HK.out x (List.mem_of_mem_take hx))
      have hfl2 : ((l.take k).flatMap El.enc).length ≤ 40220 := by
        rw [List.length_take] at hfl
        omega
      clear hfl
      have hk0 : ∀ p : Addr, p.block < base → wr.cell? p = w.cell? p := fun p hp => grew_cellL hG (fun j h => by cases h) hp hbase
      have hw0 := HW.out.keep (w' := wr) (fun p hp => hk0 p (by omega))
      have hRr := HR.out.keep (w' := wr) hk0
      clear hk0
      obtain ⟨x, hx⟩ : ∃ x, l[k]? = some x := ⟨_, List.getElem?_eq_getElem (by rw [HL.out]; exact hlt)⟩
      cases x with
      | int z =>
        have hok := HK.out _ (List.mem_of_getElem? hx)
        unfold El.ok at hok
        have HX := Lib.hid hx
        have p0 : wr.cell? ⟨g, k * 4, none⟩ = some (.int .i64 1) := el_at hRr hx (i := 0) rfl
        have p1 : wr.cell? ⟨g, k * 4 + 1, none⟩ = some (.int .i64 z) := el_at hRr hx (i := 1) rfl
        have p2 : wr.cell? ⟨g, k * 4 + 2, none⟩ = some (.string ⟨#[]⟩) := el_at hRr hx (i := 2) rfl
        have p3 : wr.cell? ⟨g, k * 4 + 3, none⟩ = some (.slice none 0 0) := el_at hRr hx (i := 3) rfl
        clear hRr hx
        have hGo := hG.own.alloc (.cells #[.int .i64 1, .int .i64 z, .string ⟨#[]⟩, .slice none 0 0] 52)
        have hGp := World.grownBy_alloc wr (.cells #[.int .i64 1, .int .i64 z, .string ⟨#[]⟩, .slice none 0 0] 52) v.ownBlock
        have s1 : (wr.alloc (.cells #[.int .i64 1, .int .i64 z, .string ⟨#[]⟩, .slice none 0 0] 52)).cell? ⟨gw + 1, 0, none⟩ = some (.pointer (some ⟨gw, 0, none⟩)) := (World.cell?_alloc_lt _ _ _ (by show gw + 1 < _; omega)).trans hw0.c4
        have s2 : (wr.alloc (.cells #[.int .i64 1, .int .i64 z, .string ⟨#[]⟩, .slice none 0 0] 52)).cell? ⟨gw, 1, none⟩ = some (.func (.func 46) #[] #[]) := (World.cell?_alloc_lt _ _ _ (by show gw < _; omega)).trans hw0.c1
        have s3 : (wr.alloc (.cells #[.int .i64 1, .int .i64 z, .string ⟨#[]⟩, .slice none 0 0] 52)).cell? ⟨wr.heap.size, 0, none⟩ = some (.int .i64 1) := by rw [cell_of_row _ wr.heap.size 0 _ _ _ (heap_alloc_new wr _)]; rfl
        have s4 : (wr.alloc (.cells #[.int .i64 1, .int .i64 z, .string ⟨#[]⟩, .slice none 0 0] 52)).cell? ⟨wr.heap.size, 1, none⟩ = some (.int .i64 z) := by rw [cell_of_row _ wr.heap.size 1 _ _ _ (heap_alloc_new wr _)]; rfl
        have s5 : (wr.alloc (.cells #[.int .i64 1, .int .i64 z, .string ⟨#[]⟩, .slice none 0 0] 52)).cell? ⟨wr.heap.size, 2, none⟩ = some (.string ⟨#[]⟩) := by rw [cell_of_row _ wr.heap.size 2 _ _ _ (heap_alloc_new wr _)]; rfl
        have s6 : (wr.alloc (.cells #[.int .i64 1, .int .i64 z, .string ⟨#[]⟩, .slice none 0 0] 52)).cell? ⟨wr.heap.size, 3, none⟩ = some (.slice none 0 0) := by rw [cell_of_row _ wr.heap.size 3 _ _ _ (heap_alloc_new wr _)]; rfl
        have hsy : base ≤ (wr.alloc (.cells #[.int .i64 1, .int .i64 z, .string ⟨#[]⟩, .slice none 0 0] 52)).heap.size := by simp; omega
        have HS := Lib.hid (And.intro s1 (And.intro s2 (And.intro s3 (And.intro s4 (And.intro s5 s6)))))
        have HG := Lib.hid (And.intro hGo (And.intro hGp hsy))
        clear s1 s2 s3 s4 s5 s6 hGo hGp hsy hw0
        go_wp2
        obtain ⟨hGo, hGp, hsy⟩ := HG.out
        obtain ⟨s1, s2, s3, s4, s5, s6⟩ := HS.out
        clear HG HS p0 p1 p2 p3
        generalize (wr.alloc (.cells #[.int .i64 1, .int .i64 z, .string ⟨#[]⟩, .slice none 0 0] 52)) = wz at s1 s2 s3 s4 s5 s6 hGo hGp hsy ⊢
        go_still_tail 9, (by kernel_rfl)
        change wpList _ _ _ _ _ wz.drew
        have hGo := hGo.drew
        have hGp := grown_drew hGp
        have hsy : base ≤ wz.drew.heap.size := hsy
        have s1 : wz.drew.cell? _ = _ := s1
        have s2 : wz.drew.cell? _ = _ := s2
        have s3 : wz.drew.cell? _ = _ := s3
        have s4 : wz.drew.cell? _ = _ := s4
        have s5 : wz.drew.cell? _ = _ := s5
        have s6 : wz.drew.cell? _ = _ := s6
        generalize wz.drew = wy at s1 s2 s3 s4 s5 s6 hGo hGp hsy ⊢
        go_wp2_with fail
        refine (w1I_any base v _ _ z _ hGo hok (by simp only [List.length_append]; omega) (by omega)).mono ?_
        rintro e w4 ⟨v4, rfl, hG4⟩
        have hG5 := hG.then (Grew.preL hG4 hGp)
        clear hG4 hGo hGp s1 s2 s3 s4 s5 s6 hG
        go_wp2
        go_roundw
        case rel => exact ⟨k + 1, v4, rfl, by omega, by go_num, by rw [take_enc HX.out, ← List.append_assoc]; exact hG5⟩
        case measure => simp [intOf]; omega
      | txt s =>
        have hok := HK.out _ (List.mem_of_getElem? hx)
        unfold El.ok at hok
        have HX := Lib.hid hx
        have p0 : wr.cell? ⟨g, k * 4, none⟩ = some (.int .i64 2) := el_at hRr hx (i := 0) rfl
        have p1 : wr.cell? ⟨g, k * 4 + 1, none⟩ = some (.int .i64 0) := el_at hRr hx (i := 1) rfl
        have p2 : wr.cell? ⟨g, k * 4 + 2, none⟩ = some (.string s) := el_at hRr hx (i := 2) rfl
        have p3 : wr.cell? ⟨g, k * 4 + 3, none⟩ = some (.slice none 0 0) := el_at hRr hx (i := 3) rfl
        clear hRr hx
        have hGo := hG.own.alloc (.cells #[.int .i64 2, .int .i64 0, .string s, .slice none 0 0] 52)
        have hGp := World.grownBy_alloc wr (.cells #[.int .i64 2, .int .i64 0, .string s, .slice none 0 0] 52) v.ownBlock
        have s1 : (wr.alloc (.cells #[.int .i64 2, .int .i64 0, .string s, .slice none 0 0] 52)).cell? ⟨gw + 1, 0, none⟩ = some (.pointer (some ⟨gw, 0, none⟩)) := (World.cell?_alloc_lt _ _ _ (by show gw + 1 < _; omega)).trans hw0.c4
        have s2 : (wr.alloc (.cells #[.int .i64 2, .int .i64 0, .string s, .slice none 0 0] 52)).cell? ⟨gw, 2, none⟩ = some (.func (.func 49) #[] #[]) := (World.cell?_alloc_lt _ _ _ (by show gw < _; omega)).trans hw0.c2
        have s3 : (wr.alloc (.cells #[.int .i64 2, .int .i64 0, .string s, .slice none 0 0] 52)).cell? ⟨wr.heap.size, 0, none⟩ = some (.int .i64 2) := by rw [cell_of_row _ wr.heap.size 0 _ _ _ (heap_alloc_new wr _)]; rfl
        have s4 : (wr.alloc (.cells #[.int .i64 2, .int .i64 0, .string s, .slice none 0 0] 52)).cell? ⟨wr.heap.size, 1, none⟩ = some (.int .i64 0) := by rw [cell_of_row _ wr.heap.size 1 _ _ _ (heap_alloc_new wr _)]; rfl
        have s5 : (wr.alloc (.cells #[.int .i64 2, .int .i64 0, .string s, .slice none 0 0] 52)).cell? ⟨wr.heap.size, 2, none⟩ = some (.string s) := by rw [cell_of_row _ wr.heap.size 2 _ _ _ (heap_alloc_new wr _)]; rfl
        have s6 : (wr.alloc (.cells #[.int .i64 2, .int .i64 0, .string s, .slice none 0 0] 52)).cell? ⟨wr.heap.size, 3, none⟩ = some (.slice none 0 0) := by rw [cell_of_row _ wr.heap.size 3 _ _ _ (heap_alloc_new wr _)]; rfl
        have hsy : base ≤ (wr.alloc (.cells #[.int .i64 2, .int .i64 0, .string s, .slice none 0 0] 52)).heap.size := by simp; omega
        have HS := Lib.hid (And.intro s1 (And.intro s2 (And.intro s3 (And.intro s4 (And.intro s5 s6)))))
        have HG := Lib.hid (And.intro hGo (And.intro hGp hsy))
        clear s1 s2 s3 s4 s5 s6 hGo hGp hsy hw0
        go_wp2
        obtain ⟨hGo, hGp, hsy⟩ := HG.out
        obtain ⟨s1, s2, s3, s4, s5, s6⟩ := HS.out
        clear HG HS p0 p1 p2 p3
        generalize (wr.alloc (.cells #[.int .i64 2, .int .i64 0, .string s, .slice none 0 0] 52)) = wz at s1 s2 s3 s4 s5 s6 hGo hGp hsy ⊢
        go_still_tail 9, (by kernel_rfl)
        change wpList _ _ _ _ _ wz.drew
        have hGo := hGo.drew
        have hGp := grown_drew hGp
        have hsy : base ≤ wz.drew.heap.size := hsy
        have s1 : wz.drew.cell? _ = _ := s1
        have s2 : wz.drew.cell? _ = _ := s2
        have s3 : wz.drew.cell? _ = _ := s3
        have s4 : wz.drew.cell? _ = _ := s4
        have s5 : wz.drew.cell? _ = _ := s5
        have s6 : wz.drew.cell? _ = _ := s6
        generalize wz.drew = wy at s1 s2 s3 s4 s5 s6 hGo hGp hsy ⊢
        go_wp2_with fail
        refine (w2_any base v _ _ s _ hGo (Nat.le_trans hok (by omega)) (by simp only [List.length_append]; omega) (by omega)).mono ?_
        rintro e w4 ⟨v4, rfl, hG4⟩
        have hG5 := hG.then (Grew.preL hG4 hGp)
        clear hG4 hGo hGp s1 s2 s3 s4 s5 s6 hG
        go_wp2
        go_roundw
        case rel => exact ⟨k + 1, v4, rfl, by omega, by go_num, by rw [take_enc HX.out, ← List.append_assoc]; exact hG5⟩
        case measure => simp [intOf]; omega
    · obtain rfl : k = n := by omega
      have HG := Lib.hid hG
      have k9 : ¬ (k : Int) < (k : Int) := by omega
      clear hG
      go_wp2
      have h9 := HP.out
      subst h9
      refine ⟨_, rfl, ?_⟩
      have h := HG.out
      rw [List.take_of_length_le (by rw [HL.out]; omega)] at h
      exact h
end Go.Proofs.YtpjggokaolnbcaaDoor
