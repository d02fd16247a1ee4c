/- Package codec: the writer of lists, and Encode, at lists of numbers and texts. -/
import Derived.Test.YtpjggokaolnbcaaDoorLCodec2
import Derived.StillTailTactics
import Derived.Laws.BytesString
namespace Go.Proofs.YtpjggokaolnbcaaDoor
open Go.RowKit
set_option linter.unusedVariables false
def El.enc : El → List Int
  | .int z => 1 :: Cd.numL (uns z)
  | .txt s => [2] ++ Cd.numL s.size ++ strInts s
def encEls (l : List El) : List Int := [3] ++ Cd.numL l.length ++ l.flatMap El.enc
theorem El.enc_length {x : El} (h : x.ok) : x.enc.length ≤ 2011 := by
  cases x with
  | int z =>
    unfold El.ok at h
    have := Cd.numL_ten (uns_lt h)
    simp only [El.enc, List.length_cons]; omega
  | txt s =>
    unfold El.ok at h
    have := Cd.numL_ten (u := s.size) (by omega)
    simp only [El.enc, List.length_append, List.length_cons, List.length_nil, strInts_length]; omega
theorem flat_len {l : List El} (h : ∀ x ∈ l, x.ok) : (l.flatMap El.enc).length ≤ 2011 * l.length := by
  induction l with
  | nil => simp
  | cons a l ih =>
    have h1 := El.enc_length (h a (by simp))
    have h2 := ih (fun x hx => h x (by simp [hx]))
    simp only [List.flatMap_cons, List.length_append, List.length_cons]
    omega
theorem take_enc {l : List El} {k : Nat} {x : El} (h : l[k]? = some x) : (l.take (k + 1)).flatMap El.enc = (l.take k).flatMap El.enc ++ x.enc := by
  rw [List.take_add_one, h]; simp
def nilV : Value := .slice none 0 0
set_option maxRecDepth 100000 in
set_option maxHeartbeats 4000000 in
theorem w3_list (base g c gw n : Nat) (l : List El) (w : World) (hl : l.length = n) (hp : 0 < n) (hn : n ≤ 20) (hok : ∀ x ∈ l, x.ok) (hbase : base ≤ w.heap.size) (hgw : gw + 1 < base)
    (hr : Rd w base 4 (some ⟨g, 0, none⟩) n (elsCells l)) (hnc : n ≤ c) (hW : Wr w gw) :
    Calls Tryd.prog 50 #[.slice none 0 0, listV (some ⟨g, 0, none⟩) n c, .pointer (some ⟨gw + 1, 0, none⟩)] w (NumPost base w nilV 0 [] ([3] ++ Cd.numL n ++ l.flatMap El.enc)) := by
  obtain ⟨i0, hi, hz0', hz1', hz2'⟩ := info_parts infoU8c
  have hbox : (w.alloc (.cells #[.int .i64 3, .int .i64 0, .string ⟨#[]⟩, .slice (some ⟨g, 0, none⟩) n c] 52)).cell? ⟨w.heap.size, 3, none⟩ = some (.slice (some ⟨g, 0, none⟩) n c) := by
    rw [cell_of_row _ w.heap.size 3 _ _ _ (heap_alloc_new w _)]; rfl
  have hown : w.ownsRow base 5 1 (.slice none 0 0) 0 (([] : List Int).map (Value.int .u8)) := World.ownsRow_nil _ _ _ _
  have hne : some w.heap.size ≠ (Value.slice none 0 0).ownBlock := by simp [Value.ownBlock]
  have hu64 : IntKind.u64.wrap (n : Int) = (n : Int) := by
    rw [show IntKind.u64.wrap (n : Int) = (n : Int) % 18446744073709551616 by simp [IntKind.wrap, IntKind.bits, IntKind.signed]]; omega
  have hten := Cd.numL_ten (u := n) (by omega)
  have hg := rd_lt hr hp
  have HT := Lib.hid hten
  have HW := Lib.hid hW
  have HR := Lib.hid hr
  have HL := Lib.hid hl
  have HK := Lib.hid hok
  have hn9 : (n : Int) ≤ 20 := by omega
  obtain ⟨P, hP⟩ : ∃ P, NumPost base w nilV 0 [] ([3] ++ Cd.numL n ++ l.flatMap El.enc) = P := ⟨_, rfl⟩
  rw [hP]
  obtain ⟨X, hX⟩ : ∃ X, [3] ++ Cd.numL n = X := ⟨_, rfl⟩
  rw [hX] at hP
  have HP := Lib.hid hP
  have HX0 := Lib.hid hX
  clear hP hX
  clear hW hr hten hl hok
  unfold listV
  go_enter Tryd.func50, Tryd.ntmps50
  go_wp2
  go_region_held3 (fun w' => w'.cell? ⟨w.heap.size, 3, none⟩ = some (.slice (some ⟨g, 0, none⟩) n c))
    (first
      | (go_keep; done)
      | exact hq1
      | exact (hG.grow.cell_far ⟨w.heap.size, 3, none⟩ hlt1 hne1).trans hq1)
    ((first | (go_at_call 47; (refine (numeral_any base v1 1 [3] n w1 (by simpa using hown1) (by omega) (by omega) (by omega)).mono ?_); rintro e w3 ⟨v3, rfl, hG⟩) | (refine wp_atc (by rfl) (wp_append_rd _ (.tmp 8) (.tmp 9) 23 (by rfl) base 5 i0 _ 1 1 Tryd.underlying23 hi hz0' hz1' hz2' rfl (by omega) (.slice none 0 0) 0 _ (by rfl) ((hown.alloc _).alloc _).drew _ _ 1 _ [.int .u8 3] (by rfl) (rd_one _ _ _ _ (by simp)).drew (fun u hu => by simp at hu; subst hu; rfl) (by unfold maxLen; omega) (by omega) (by simp; omega) ?_); intro v1 w1 hown1 hg1 hb1; have hq1 := (hg1.cell_far ⟨w.heap.size, 3, none⟩ (by simp; omega) hne).trans (cell_box2 w _ _ hbox); have hlt1 : w.heap.size < w1.heap.size := (by have := hg1.size; simp at this; omega); have hne1 := own_ne hne hb1 (by simp; omega)) | fail))
  have hG0 : Grew base w (.slice none 0 0) 0 [] w1 v1 [3] := Grew.mk1 (grown_drew (grown_alloc (World.grownBy_alloc w _ _) _)) hown1 hg1 hb1
  have hG2 : Grew base w (.slice none 0 0) 0 [] w3 v3 ([3] ++ Cd.numL n) := hG0.then hG
  have hq3 := (hG.grow.cell_far ⟨w.heap.size, 3, none⟩ hlt1 hne1).trans hq1
  clear hG0 hG hown1 hg1 hb1 hq1 hne1 hlt1 hbox hown hne
  have hXl : X.length ≤ 11 := by rw [← HX0.out]; have := HT.out; simp only [List.length_append, List.length_cons, List.length_nil]; omega
  rw [HX0.out] at hG2
  go_wp2
  go_loopw [0, 19] (fun v i wr => ∃ (k : Nat) (u : Value), u = v ∧ k ≤ n ∧ i = .int .i64 k ∧ Grew base w (.slice none 0 0) 0 [] wr u (X ++ (l.take k).flatMap El.enc)) (fun _ i _ => n - (intOf i).toNat)
  case atStart => exact ⟨0, _, rfl, by omega, rfl, by rw [List.take_zero, List.flatMap_nil, List.append_nil]; exact hG2⟩
  case round =>
    clear hG2 hq3
    obtain ⟨k, v, hvu, hk, rfl, hG⟩ := hrel
    subst hvu
    have hsz : base ≤ wr.heap.size := Nat.le_trans hbase hG.grow.size
    by_cases hlt : k < n
    · have k1 : (k : Int) < n := by omega
      have hfl := flat_len (l := l.take k) (fun x hx => HK.out x (List.mem_of_mem_take hx))
      have hfl2 : ((l.take k).flatMap El.enc).length ≤ 40220 := by
        rw [List.length_take] at hfl
        omega
      clear hfl
      have hk0 : ∀ p : Addr, p.block < base → wr.cell? p = w.cell? p := fun p hp => grew_cellL hG (fun j h => by cases h) hp hbase
      have hw0 := HW.out.keep (w' := wr) (fun p hp => hk0 p (by omega))
      have hRr := HR.out.keep (w' := wr) hk0
      clear hk0
      obtain ⟨x, hx⟩ : ∃ x, l[k]? = some x := ⟨_, List.getElem?_eq_getElem (by rw [HL.out]; exact hlt)⟩
      cases x with
      | int z =>
        have hok := HK.out _ (List.mem_of_getElem? hx)
        unfold El.ok at hok
        have HX := Lib.hid hx
        have p0 : wr.cell? ⟨g, k * 4, none⟩ = some (.int .i64 1) := el_at hRr hx (i := 0) rfl
        have p1 : wr.cell? ⟨g, k * 4 + 1, none⟩ = some (.int .i64 z) := el_at hRr hx (i := 1) rfl
        have p2 : wr.cell? ⟨g, k * 4 + 2, none⟩ = some (.string ⟨#[]⟩) := el_at hRr hx (i := 2) rfl
        have p3 : wr.cell? ⟨g, k * 4 + 3, none⟩ = some (.slice none 0 0) := el_at hRr hx (i := 3) rfl
        clear hRr hx
        have hGo := hG.own.alloc (.cells #[.int .i64 1, .int .i64 z, .string ⟨#[]⟩, .slice none 0 0] 52)
        have hGp := World.grownBy_alloc wr (.cells #[.int .i64 1, .int .i64 z, .string ⟨#[]⟩, .slice none 0 0] 52) v.ownBlock
        have s1 : (wr.alloc (.cells #[.int .i64 1, .int .i64 z, .string ⟨#[]⟩, .slice none 0 0] 52)).cell? ⟨gw + 1, 0, none⟩ = some (.pointer (some ⟨gw, 0, none⟩)) := (World.cell?_alloc_lt _ _ _ (by show gw + 1 < _; omega)).trans hw0.c4
        have s2 : (wr.alloc (.cells #[.int .i64 1, .int .i64 z, .string ⟨#[]⟩, .slice none 0 0] 52)).cell? ⟨gw, 1, none⟩ = some (.func (.func 46) #[] #[]) := (World.cell?_alloc_lt _ _ _ (by show gw < _; omega)).trans hw0.c1
        have s3 : (wr.alloc (.cells #[.int .i64 1, .int .i64 z, .string ⟨#[]⟩, .slice none 0 0] 52)).cell? ⟨wr.heap.size, 0, none⟩ = some (.int .i64 1) := by rw [cell_of_row _ wr.heap.size 0 _ _ _ (heap_alloc_new wr _)]; rfl
        have s4 : (wr.alloc (.cells #[.int .i64 1, .int .i64 z, .string ⟨#[]⟩, .slice none 0 0] 52)).cell? ⟨wr.heap.size, 1, none⟩ = some (.int .i64 z) := by rw [cell_of_row _ wr.heap.size 1 _ _ _ (heap_alloc_new wr _)]; rfl
        have s5 : (wr.alloc (.cells #[.int .i64 1, .int .i64 z, .string ⟨#[]⟩, .slice none 0 0] 52)).cell? ⟨wr.heap.size, 2, none⟩ = some (.string ⟨#[]⟩) := by rw [cell_of_row _ wr.heap.size 2 _ _ _ (heap_alloc_new wr _)]; rfl
        have s6 : (wr.alloc (.cells #[.int .i64 1, .int .i64 z, .string ⟨#[]⟩, .slice none 0 0] 52)).cell? ⟨wr.heap.size, 3, none⟩ = some (.slice none 0 0) := by rw [cell_of_row _ wr.heap.size 3 _ _ _ (heap_alloc_new wr _)]; rfl
        have hsy : base ≤ (wr.alloc (.cells #[.int .i64 1, .int .i64 z, .string ⟨#[]⟩, .slice none 0 0] 52)).heap.size := by simp; omega
        have HS := Lib.hid (And.intro s1 (And.intro s2 (And.intro s3 (And.intro s4 (And.intro s5 s6)))))
        have HG := Lib.hid (And.intro hGo (And.intro hGp hsy))
        clear s1 s2 s3 s4 s5 s6 hGo hGp hsy hw0
        go_wp2
        obtain ⟨hGo, hGp, hsy⟩ := HG.out
        obtain ⟨s1, s2, s3, s4, s5, s6⟩ := HS.out
        clear HG HS p0 p1 p2 p3
        generalize (wr.alloc (.cells #[.int .i64 1, .int .i64 z, .string ⟨#[]⟩, .slice none 0 0] 52)) = wz at s1 s2 s3 s4 s5 s6 hGo hGp hsy ⊢
        go_still_tail 9, (by kernel_rfl)
        change wpList _ _ _ _ _ wz.drew
        have hGo := hGo.drew
        have hGp := grown_drew hGp
        have hsy : base ≤ wz.drew.heap.size := hsy
        have s1 : wz.drew.cell? _ = _ := s1
        have s2 : wz.drew.cell? _ = _ := s2
        have s3 : wz.drew.cell? _ = _ := s3
        have s4 : wz.drew.cell? _ = _ := s4
        have s5 : wz.drew.cell? _ = _ := s5
        have s6 : wz.drew.cell? _ = _ := s6
        generalize wz.drew = wy at s1 s2 s3 s4 s5 s6 hGo hGp hsy ⊢
        go_wp2_with fail
        refine (w1I_any base v _ _ z _ hGo hok (by simp only [List.length_append]; omega) (by omega)).mono ?_
        rintro e w4 ⟨v4, rfl, hG4⟩
        have hG5 := hG.then (Grew.preL hG4 hGp)
        clear hG4 hGo hGp s1 s2 s3 s4 s5 s6 hG
        go_wp2
        go_roundw
        case rel => exact ⟨k + 1, v4, rfl, by omega, by go_num, by rw [take_enc HX.out, ← List.append_assoc]; exact hG5⟩
        case measure => simp [intOf]; omega
      | txt s =>
        have hok := HK.out _ (List.mem_of_getElem? hx)
        unfold El.ok at hok
        have HX := Lib.hid hx
        have p0 : wr.cell? ⟨g, k * 4, none⟩ = some (.int .i64 2) := el_at hRr hx (i := 0) rfl
        have p1 : wr.cell? ⟨g, k * 4 + 1, none⟩ = some (.int .i64 0) := el_at hRr hx (i := 1) rfl
        have p2 : wr.cell? ⟨g, k * 4 + 2, none⟩ = some (.string s) := el_at hRr hx (i := 2) rfl
        have p3 : wr.cell? ⟨g, k * 4 + 3, none⟩ = some (.slice none 0 0) := el_at hRr hx (i := 3) rfl
        clear hRr hx
        have hGo := hG.own.alloc (.cells #[.int .i64 2, .int .i64 0, .string s, .slice none 0 0] 52)
        have hGp := World.grownBy_alloc wr (.cells #[.int .i64 2, .int .i64 0, .string s, .slice none 0 0] 52) v.ownBlock
        have s1 : (wr.alloc (.cells #[.int .i64 2, .int .i64 0, .string s, .slice none 0 0] 52)).cell? ⟨gw + 1, 0, none⟩ = some (.pointer (some ⟨gw, 0, none⟩)) := (World.cell?_alloc_lt _ _ _ (by show gw + 1 < _; omega)).trans hw0.c4
        have s2 : (wr.alloc (.cells #[.int .i64 2, .int .i64 0, .string s, .slice none 0 0] 52)).cell? ⟨gw, 2, none⟩ = some (.func (.func 49) #[] #[]) := (World.cell?_alloc_lt _ _ _ (by show gw < _; omega)).trans hw0.c2
        have s3 : (wr.alloc (.cells #[.int .i64 2, .int .i64 0, .string s, .slice none 0 0] 52)).cell? ⟨wr.heap.size, 0, none⟩ = some (.int .i64 2) := by rw [cell_of_row _ wr.heap.size 0 _ _ _ (heap_alloc_new wr _)]; rfl
        have s4 : (wr.alloc (.cells #[.int .i64 2, .int .i64 0, .string s, .slice none 0 0] 52)).cell? ⟨wr.heap.size, 1, none⟩ = some (.int .i64 0) := by rw [cell_of_row _ wr.heap.size 1 _ _ _ (heap_alloc_new wr _)]; rfl
        have s5 : (wr.alloc (.cells #[.int .i64 2, .int .i64 0, .string s, .slice none 0 0] 52)).cell? ⟨wr.heap.size, 2, none⟩ = some (.string s) := by rw [cell_of_row _ wr.heap.size 2 _ _ _ (heap_alloc_new wr _)]; rfl
        have s6 : (wr.alloc (.cells #[.int .i64 2, .int .i64 0, .string s, .slice none 0 0] 52)).cell? ⟨wr.heap.size, 3, none⟩ = some (.slice none 0 0) := by rw [cell_of_row _ wr.heap.size 3 _ _ _ (heap_alloc_new wr _)]; rfl
        have hsy : base ≤ (wr.alloc (.cells #[.int .i64 2, .int .i64 0, .string s, .slice none 0 0] 52)).heap.size := by simp; omega
        have HS := Lib.hid (And.intro s1 (And.intro s2 (And.intro s3 (And.intro s4 (And.intro s5 s6)))))
        have HG := Lib.hid (And.intro hGo (And.intro hGp hsy))
        clear s1 s2 s3 s4 s5 s6 hGo hGp hsy hw0
        go_wp2
        obtain ⟨hGo, hGp, hsy⟩ := HG.out
        obtain ⟨s1, s2, s3, s4, s5, s6⟩ := HS.out
        clear HG HS p0 p1 p2 p3
        generalize (wr.alloc (.cells #[.int .i64 2, .int .i64 0, .string s, .slice none 0 0] 52)) = wz at s1 s2 s3 s4 s5 s6 hGo hGp hsy ⊢
        go_still_tail 9, (by kernel_rfl)
        change wpList _ _ _ _ _ wz.drew
        have hGo := hGo.drew
        have hGp := grown_drew hGp
        have hsy : base ≤ wz.drew.heap.size := hsy
        have s1 : wz.drew.cell? _ = _ := s1
        have s2 : wz.drew.cell? _ = _ := s2
        have s3 : wz.drew.cell? _ = _ := s3
        have s4 : wz.drew.cell? _ = _ := s4
        have s5 : wz.drew.cell? _ = _ := s5
        have s6 : wz.drew.cell? _ = _ := s6
        generalize wz.drew = wy at s1 s2 s3 s4 s5 s6 hGo hGp hsy ⊢
        go_wp2_with fail
        refine (w2_any base v _ _ s _ hGo (Nat.le_trans hok (by omega)) (by simp only [List.length_append]; omega) (by omega)).mono ?_
        rintro e w4 ⟨v4, rfl, hG4⟩
        have hG5 := hG.then (Grew.preL hG4 hGp)
        clear hG4 hGo hGp s1 s2 s3 s4 s5 s6 hG
        go_wp2
        go_roundw
        case rel => exact ⟨k + 1, v4, rfl, by omega, by go_num, by rw [take_enc HX.out, ← List.append_assoc]; exact hG5⟩
        case measure => simp [intOf]; omega
    · obtain rfl : k = n := by omega
      have HG := Lib.hid hG
      have k9 : ¬ (k : Int) < (k : Int) := by omega
      clear hG
      go_wp2
      have h9 := HP.out
      subst h9
      refine ⟨_, rfl, ?_⟩
      have h := HG.out
      rw [List.take_of_length_le (by rw [HL.out]; omega)] at h
      exact h
end Go.Proofs.YtpjggokaolnbcaaDoor
/- Package codec: Encode, at lists of numbers and texts. -/
namespace Go.Proofs.YtpjggokaolnbcaaDoor
open Go.RowKit
set_option linter.unusedVariables false
def EncPost (bs : List Int) (w : World) (e : Ending) (w' : World) : Prop :=
  ∃ (A : Option Addr) (c : Nat), e = .returned (.tuple #[.slice A bs.length c, .int .i64 0]) ∧ Rd w' w'.heap.size 1 A bs.length (bs.map (Value.int .u8)) ∧ bs.length ≤ c ∧ c ≤ maxLen ∧ Below w.heap.size w w'
theorem own_slice2 {w : World} {base : Nat} {e : TypeId} {v : Value} {size n : Nat} {xs : List Value} (h : w.ownsRow base e size v n xs) : ∃ A c, v = .slice A n c ∧ Rd w w.heap.size size A n xs ∧ n ≤ c ∧ c ≤ maxLen := by
  have h0 := h
  rcases h.2 with ⟨rfl, rfl⟩ | ⟨g, cap, cur, rfl, _, _, h1, h2, _⟩
  · exact ⟨_, _, rfl, ⟨h0.1, fun h => absurd h (by omega)⟩, Nat.le_refl _, Nat.zero_le _⟩
  · exact ⟨_, _, rfl, Rd.of_own h0, h1, h2⟩
theorem w3_encEls (base g c gw n : Nat) (l : List El) (w : World) (hl : l.length = n) (hp : 0 < n) (hn : n ≤ 20) (hok : ∀ x ∈ l, x.ok) (hbase : base ≤ w.heap.size) (hgw : gw + 1 < base)
    (hr : Rd w base 4 (some ⟨g, 0, none⟩) n (elsCells l)) (hnc : n ≤ c) (hW : Wr w gw) :
    Calls Tryd.prog 50 #[.slice none 0 0, listV (some ⟨g, 0, none⟩) n c, .pointer (some ⟨gw + 1, 0, none⟩)] w (NumPost base w (.slice none 0 0) 0 [] (encEls l)) := by
  have h := w3_list base g c gw n l w hl hp hn hok hbase hgw hr hnc hW
  unfold nilV at h
  unfold encEls
  rw [hl]
  exact h
set_option maxRecDepth 100000 in
set_option maxHeartbeats 2000000 in
theorem encode_list (g c n : Nat) (l : List El) (w : World) (hl : l.length = n) (hp : 0 < n) (hn : n ≤ 20) (hok : ∀ x ∈ l, x.ok)
    (hr : Rd w w.heap.size 4 (some ⟨g, 0, none⟩) n (elsCells l)) (hnc : n ≤ c) :
    Calls Tryd.prog 26 #[listV (some ⟨g, 0, none⟩) n c] w (EncPost (encEls l) w) := by
  have HR := Lib.hid hr
  have hR := Lib.hid ((hr.alloc (Nat.le_refl _) (.cells #[.int .i64 3, .int .i64 0, .string ⟨#[]⟩, .slice (some ⟨g, 0, none⟩) n c] 52)).more (B' := w.heap.size + 1) (by omega))
  clear hr
  have hc3 := check_list g c n l
  have hg := rd_lt HR.out hp
  have HL := Lib.hid hl
  have HK := Lib.hid hok
  clear hl hok
  have hw3 := fun base g c gw w h1 h2 h3 h4 h5 => w3_encEls base g c gw n l w HL.out hp hn HK.out h1 h2 h3 h4 h5
  obtain ⟨E, hE⟩ : ∃ E, encEls l = E := ⟨_, rfl⟩
  rw [hE] at hw3 ⊢
  have HE := Lib.hid hE
  have HC3 := Lib.hid hw3
  clear hE hw3
  unfold listV at hc3 ⊢
  go_enter Tryd.func26, Tryd.ntmps26
  go_wp2_with fail
  refine (hc3 _ HL.out hp (by omega) (by rw [World.size_alloc]; exact hR.out) hnc).mono ?_
  rintro e w1 ⟨rfl, hb1⟩
  have hB1 := ((Below.refl w.heap.size w).alloc (Nat.le_refl _) _).trans (hb1.mono (by simp))
  have b0 : w1.cell? ⟨w.heap.size, 0, none⟩ = some (.int .i64 3) := (hb1.cell (p := ⟨w.heap.size, 0, none⟩) (by simp)).trans (alloc_cell0 w _ _ _)
  have b1 : w1.cell? ⟨w.heap.size, 1, none⟩ = some (.int .i64 0) := (hb1.cell (p := ⟨w.heap.size, 1, none⟩) (by simp)).trans (alloc_cell1 w _ _ _ _)
  have b2 : w1.cell? ⟨w.heap.size, 2, none⟩ = some (.string ⟨#[]⟩) := (hb1.cell (p := ⟨w.heap.size, 2, none⟩) (by simp)).trans (by rw [cell_of_row _ w.heap.size 2 _ _ _ (heap_alloc_new w _)]; rfl)
  have b3 : w1.cell? ⟨w.heap.size, 3, none⟩ = some (.slice (some ⟨g, 0, none⟩) n c) := (hb1.cell (p := ⟨w.heap.size, 3, none⟩) (by simp)).trans (by rw [cell_of_row _ w.heap.size 3 _ _ _ (heap_alloc_new w _)]; rfl)
  have hs1 : w.heap.size < w1.heap.size := by have := hb1.size; simp at this; omega
  clear hb1 hc3
  go_wp2
  go_region_with ((first | (go_at_call 36; (refine (writer_any _).mono ?_); rintro e w2 ⟨rfl, hW, hb2, hsz2⟩; have c3 : w2.cell? ⟨w1.heap.size, 3, none⟩ = some (.func (.func 50) #[] #[.pointer (some ⟨w1.heap.size + 1, 0, none⟩)]) := hW.c3; have d0 := (hb2.cell (p := ⟨w.heap.size, 0, none⟩) hs1).trans b0; have d1 := (hb2.cell (p := ⟨w.heap.size, 1, none⟩) hs1).trans b1; have d2 := (hb2.cell (p := ⟨w.heap.size, 2, none⟩) hs1).trans b2; have d3 := (hb2.cell (p := ⟨w.heap.size, 3, none⟩) hs1).trans b3; have hs2 : w.heap.size < w2.heap.size := (by have := hb2.size; simp at this; omega)) | (go_at_call 50; (refine (HC3.out w2.heap.size g c w1.heap.size w2 (Nat.le_refl _) (by simp at hsz2; omega) (((HR.out.below hB1).below (w' := w2) ⟨hb2.os, hb2.tape, hb2.output, hb2.size, fun k hk => hb2.block k (Nat.lt_of_lt_of_le hk hB1.size)⟩).more (by omega)) hnc hW).mono ?_); rintro e w3 ⟨v3, rfl, hG⟩)))
  all_goals
    obtain ⟨A, cc, rfl, hRr, hl, hm⟩ := own_slice2 hG.own
    have hbw : Below w.heap.size w1 w2 := ⟨hb2.os, hb2.tape, hb2.output, hb2.size, fun k hk => hb2.block k (Nat.lt_of_lt_of_le hk hB1.size)⟩
    have hfin := (hB1.trans hbw).grown hG.grow (by omega) (fun k h => by cases h)
    rw [Nat.zero_add, List.nil_append] at hRr
    rw [Nat.zero_add] at hl
    go_wp2
    go_ret2
    exact ⟨A, cc, (show _ = Ending.returned (.tuple #[.slice A (0 + E.length) cc, .int .i64 0]) from rfl).trans (by rw [Nat.zero_add]), hRr, hl, hm, hfin⟩
end Go.Proofs.YtpjggokaolnbcaaDoor
/- Links in memory; the values that a link's text is made of. -/
namespace Go.Proofs.YtpjggokaolnbcaaDoor
open Go.RowKit
set_option linter.unusedVariables false
/-- bytes as a string -/
def toBA (l : List Int) : ByteArray := l.foldl (fun r n => r.push (UInt8.ofNat n.toNat)) ByteArray.empty
theorem push_list : ∀ (l : List Int) (s : ByteArray), (l.foldl (fun r n => r.push (UInt8.ofNat n.toNat)) s).data.toList = s.data.toList ++ l.map fun n => UInt8.ofNat n.toNat
  | [], s => by simp
  | a :: l, s => by
    rw [List.foldl_cons, push_list l]
    simp [ByteArray.push]
theorem strInts_toBA {l : List Int} (h : ∀ x ∈ l, 0 ≤ x ∧ x < 256) : strInts (toBA l) = l := by
  unfold strInts toBA
  rw [push_list]
  simp only [ByteArray.empty, ByteArray.emptyWithCapacity, List.map_append, List.map_map]
  show ([] : List Int) ++ _ = l
  rw [List.nil_append]
  conv => rhs; rw [← List.map_id l]
  apply List.map_congr_left
  intro x hx
  obtain ⟨h1, h2⟩ := h x hx
  simp [Function.comp]
  omega
theorem toBA_size (l : List Int) : (toBA l).size = l.length := by
  show (toBA l).data.size = _
  rw [← Array.length_toList, toBA, push_list]
  simp [ByteArray.empty, ByteArray.emptyWithCapacity]
  rfl
theorem conv_text {P : Program} (w : World) (src dst e : TypeId) (hs : P.underlying src = some (.slice e)) (he : P.underlying e = some (.int .u8)) (hd : P.underlying dst = some .string)
    {B n c : Nat} {A : Option Addr} {l : List Int} (hr : Rd w B 1 A n (l.map (Value.int .u8))) : (convert src dst (.slice A n c)).run P w = .ok (.string (toBA l)) w := by
  rw [run_convert_bytes_string w src dst e A n c hs he hd]
  have hl : l.length = n := by simpa using hr.1
  rcases A with _ | a
  · have h0 : n = 0 := by
      rcases Nat.eq_zero_or_pos n with h0 | h0
      · exact h0
      · obtain ⟨b, o, h, _⟩ := hr.2 h0
        cases h
    have : l = [] := List.eq_nil_of_length_eq_zero (by omega)
    subst this
    rfl
  · have hc : ∀ j u, (l.map (Value.int .u8))[j]? = some u → w.cell? (a.add j) = some u := by
      intro j u hu
      have hj : j < n := by have := (List.getElem?_eq_some_iff.1 hu).1; simpa [hl] using this
      obtain ⟨b, o, h, _, hcc⟩ := hr.2 (by omega)
      injection h with h
      subst h
      rw [Addr.add_flat]
      exact hcc j u hu
    have h := run_loadCells_list (P := P) w a (l.map (Value.int .u8)) hc
    rw [List.length_map, hl] at h
    exact run_bytesToString w a n c l h
set_option maxRecDepth 100000 in
set_option maxHeartbeats 1000000 in
theorem number_any (n : Int) (w : World) : Calls Tryd.prog 28 #[.int .i64 n] w fun e w' => e = .returned (intV n) ∧ Below w.heap.size w w' := by
  unfold intV
  go_enter Tryd.func28, Tryd.ntmps28
  go_wp2
  refine bodyPost_ret (results_cell_row (p := 2) rfl _ _ w.heap.size 52 _ (0, 0) _ (by rfl) (heap_alloc_new w _) Tryd.underlying52 (by rfl) (by kernel_rfl)) rfl ?_
  exact ⟨rfl, (Below.refl _ _).alloc (Nat.le_refl _) _⟩
set_option maxRecDepth 100000 in
set_option maxHeartbeats 1000000 in
theorem clist_any (A : Option Addr) (n c : Nat) (w : World) : Calls Tryd.prog 27 #[.slice A n c] w fun e w' => e = .returned (listV A n c) ∧ Below w.heap.size w w' := by
  unfold listV
  go_enter Tryd.func27, Tryd.ntmps27
  go_wp2
  refine bodyPost_ret (results_cell_row (p := 2) rfl _ _ w.heap.size 52 _ (0, 0) _ (by rfl) (heap_alloc_new w _) Tryd.underlying52 (by rfl) (by kernel_rfl)) rfl ?_
  exact ⟨rfl, (Below.refl _ _).alloc (Nat.le_refl _) _⟩
set_option maxRecDepth 100000 in
set_option maxHeartbeats 1000000 in
theorem text_any (A : Option Addr) (n c : Nat) (l : List Int) (w : World) (hr : Rd w w.heap.size 1 A n (l.map (Value.int .u8))) :
    Calls Tryd.prog 29 #[.slice A n c] w fun e w' => e = .returned (txtV (toBA l)) ∧ Below w.heap.size w w' := by
  have hcv := conv_text (P := Tryd.prog) (c := c) (w.alloc (.cells #[.int .i64 0, .int .i64 0, .string ⟨#[]⟩, .slice none 0 0] 52)) 23 9 5 Tryd.underlying23 Tryd.underlying5 Tryd.underlying9 (hr.alloc (Nat.le_refl _) _)
  obtain ⟨S, hS⟩ : ∃ S, toBA l = S := ⟨_, rfl⟩
  rw [hS] at hcv ⊢
  clear hS hr
  unfold txtV
  go_enter Tryd.func29, Tryd.ntmps29
  go_wp2
  refine bodyPost_ret (results_cell_row (p := 2) rfl _ _ w.heap.size 52 _ (0, 0) _ (by rfl) (heap_alloc_new w _) Tryd.underlying52 (by rfl) (by kernel_rfl)) rfl ?_
  exact ⟨rfl, (Below.refl _ _).alloc (Nat.le_refl _) _⟩
/-- a link, and where its data lie -/
structure LkV where
  node : Int
  no : Int
  prev : List Int
  data : List Int
  A : Option Addr
  c : Nat
namespace LkV
def cells (x : LkV) : List Value := [.int .i64 x.node, .int .i64 x.no] ++ x.prev.map (Value.int .u8) ++ [.slice x.A x.data.length x.c]
structure ok (w : World) (B : Nat) (x : LkV) : Prop where
  plen : x.prev.length = 32
  pbyt : ∀ b ∈ x.prev, 0 ≤ b ∧ b < 256
  dbyt : ∀ b ∈ x.data, 0 ≤ b ∧ b < 256
  rd : Rd w B 1 x.A x.data.length (x.data.map (Value.int .u8))
  cap : x.data.length ≤ x.c
  room : x.c ≤ maxLen
theorem ok.below {w w' : World} {B : Nat} {x : LkV} (h : x.ok w B) (hb : Below B w w') : x.ok w' B := ⟨h.plen, h.pbyt, h.dbyt, h.rd.below hb, h.cap, h.room⟩
theorem ok.more {w : World} {B B' : Nat} {x : LkV} (h : x.ok w B) (hB : B ≤ B') : x.ok w B' := ⟨h.plen, h.pbyt, h.dbyt, h.rd.more hB, h.cap, h.room⟩
theorem cells_length {w : World} {B : Nat} {x : LkV} (h : x.ok w B) : x.cells.length = 35 := by simp [cells, h.plen]
end LkV
end Go.Proofs.YtpjggokaolnbcaaDoor
