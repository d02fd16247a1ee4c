import Derived.StillTailTactics
import Derived.Test.YtifejdpffkeniaaGreatDoorS02
import Derived.Test.YtifejdpffkeniaaGreatDoorS03
set_option linter.unusedVariables false
set_option maxRecDepth 100000
set_option maxHeartbeats 40000000
namespace Go.Proofs.YtifejdpffkeniaaGreatDoor
open Go.RowKit
attribute [local go_sem] Oper.semAt_some
inductive Tv where
 | int (z : Int)
 | txt (s : ByteArray)
 | lst (A : Option Addr) (n c : Nat)
instance : Inhabited Tv := ⟨.int 0⟩
namespace Tv
def cells : Tv → List Value
 | int z => [.int .i64 1,.int .i64 z,.string ⟨#[]⟩,.slice none 0 0]
 | txt s => [.int .i64 2,.int .i64 0,.string s,.slice none 0 0]
 | lst A n c => [.int .i64 3,.int .i64 0,.string ⟨#[]⟩,.slice A n c]
def val : Tv → Value
 | int z => .agg #[.int .i64 1,.int .i64 z,.string ⟨#[]⟩,.slice none 0 0]
 | txt s => .agg #[.int .i64 2,.int .i64 0,.string s,.slice none 0 0]
 | lst A n c => .agg #[.int .i64 3,.int .i64 0,.string ⟨#[]⟩,.slice A n c]
theorem cells_length (x : Tv) : x.cells.length = 4 := by cases x <;> rfl
end Tv
def tvCells (l : List Tv) : List Value := l.flatMap Tv.cells
theorem tv_at {w : World} {B n : Nat} {A : Option Addr} {l : List Tv} (hr : Rd w B 4 A n (tvCells l)) (hn : l.length = n) {k : Nat} (hk : k < n) : ∃ b o,A = some ⟨b,o,none⟩ ∧ b < B ∧ ∀ (x : Tv),l[k]? = some x → ∀ i v,x.cells[i]? = some v → w.cell? ⟨b,o + (k * 4 + i),none⟩ = some v := by
 obtain ⟨b,o,e,hb,hc⟩ := hr.2 (by omega);refine ⟨b,o,e,hb,fun x hx i v hv => ?_⟩;have hi : i < 4 := by have := (List.getElem?_eq_some_iff.1 hv).1;rwa [Tv.cells_length] at this
 exact hc (k * 4 + i) v (by rw [tvCells,flat_at Tv.cells 4 Tv.cells_length l k i x hx hi,hv])
def FC (w : World) (B : Nat) (x : Tv) (d : Int) : Prop := 0 ≤ d ∧ d ≤ 10 ∧ ∀ W,Below B w W → Calls Tryz.prog 134 #[x.val] W fun e w' => e = .returned (.tuple #[.int .i64 d,.bool true]) ∧ Below W.heap.size W w'
theorem FC.below {w w' : World} {B : Nat} {x : Tv} {d : Int} (h : FC w B x d) (hb : Below B w w') : FC w' B x d := ⟨h.1,h.2.1,fun W hW => h.2.2 W (hb.trans hW)⟩
theorem FC.more {w : World} {B B' : Nat} {x : Tv} {d : Int} (h : FC w B x d) (hB : B ≤ B') : FC w B' x d := ⟨h.1,h.2.1,fun W hW => h.2.2 W (hW.mono hB)⟩
theorem fc_int (w : World) (B : Nat) (z : Int) : FC w B (.int z) 0 := ⟨by decide,by decide,fun W _ => formed_int z W⟩
theorem fc_txt (w : World) (B : Nat) (s : ByteArray) : FC w B (.txt s) 0 := ⟨by decide,by decide,fun W _ => formed_txt s W⟩
theorem fc_nil (w : World) (B : Nat) : FC w B (.lst none 0 0) 1 := by
 refine ⟨by decide,by decide,fun W _ => ?_⟩;unfold Tv.val;go_enter Tryz.func134,Tryz.ntmps134;go_wp2;refine wp_loop_rounds 1 ?_;rw [rounds_succ];go_wp2;go_ret2;exact ⟨rfl,((Below.refl _ _).alloc (Nat.le_refl _) _).alloc (by simp) _⟩
def mxd (ds : Nat → Int) : Nat → Int
 | 0 => 0
 | k + 1 => max (mxd ds k) (ds k)
theorem mxd_le {ds : Nat → Int} {n : Nat} (h : ∀ k,k < n → 0 ≤ ds k ∧ ds k ≤ 9) : ∀ k,k ≤ n → 0 ≤ mxd ds k ∧ mxd ds k ≤ 9
 | 0,_ => ⟨Int.le_refl 0,by show (0 : Int) ≤ 9;decide⟩
 | k + 1,hk => by
  have h1 := mxd_le h k (by omega);have h2 := h k (by omega);show 0 ≤ max (mxd ds k) (ds k) ∧ max (mxd ds k) (ds k) ≤ 9;omega
theorem fc_list (w : World) (B : Nat) (A : Option Addr) (n c : Nat) (l : List Tv) (ds : Nat → Int) (hl : l.length = n) (hp : 0 < n) (hn : n ≤ 1000) (hr : Rd w B 4 A n (tvCells l)) (hnc : n ≤ c) (hB : B ≤ w.heap.size)
  (hk : ∀ (k : Nat) (x : Tv),l[k]? = some x → FC w B x (ds k)) (hd : ∀ k,k < n → ds k ≤ 9) : FC w B (.lst A n c) (mxd ds n + 1) := by
 have hd' : ∀ k,k < n → 0 ≤ ds k ∧ ds k ≤ 9 := fun k h => ⟨(hk k _ (List.getElem?_eq_getElem (by omega))).1,hd k h⟩;have hmx := mxd_le hd';refine ⟨by have := hmx n (Nat.le_refl _);omega,by have := hmx n (Nat.le_refl _);omega,fun W hW => ?_⟩;have HMX := Lib.hid hmx;have hz : (((n : Int) == 0) : Bool) = false := by simp;omega
 have hBW := hB;clear hB;have hB : Below W.heap.size W ((W.alloc (.cells #[.int .i64 3,.int .i64 0,.string ⟨#[]⟩,.slice A n c] 107)).alloc (.cells #[.bool false,.bool false,.bool false,.bool true] 215)) := ((Below.refl W.heap.size W).alloc (Nat.le_refl _) _).alloc (by simp) _
 have HK : Hid (∀ k,k < n → ∃ b o,A = some ⟨b,o,none⟩ ∧ ∀ (x : Tv),l[k]? = some x → ∀ V,Below W.heap.size W V → (∀ i v,x.cells[i]? = some v → V.cell? ⟨b,o + (k * 4 + i),none⟩ = some v) ∧ Calls Tryz.prog 134 #[x.val] (V.alloc (.cells x.cells.toArray 107)) fun e w' => e = .returned (.tuple #[.int .i64 (ds k),.bool true]) ∧ Below (V.alloc (.cells x.cells.toArray 107)).heap.size (V.alloc (.cells x.cells.toArray 107)) w') := fun k h => by
  obtain ⟨b,o,e1,hb,hc⟩ := tv_at hr hl h;refine ⟨b,o,e1,fun x hx V hV => ⟨fun i v hv => ?_,?_⟩⟩
  ·have hb2 : (⟨b,o + (k * 4 + i),none⟩ : Addr).block < B := hb
   rw [hV.cell (p := ⟨b,o + (k * 4 + i),none⟩) (by have := hW.size;show b < W.heap.size;omega),hW.cell hb2];exact hc x hx i v hv
  ·exact (hk k x hx).2.2 _ ((hW.trans (hV.mono (by have := hW.size;omega))).alloc (by have := hW.size;have := hV.size;omega) _)
 have HL := Lib.hid hl;clear hl hr hd hd' hk hW hmx hBW;show Calls _ _ #[.agg #[.int .i64 3,.int .i64 0,.string ⟨#[]⟩,.slice A n c]] _ _;go_enter Tryz.func134,Tryz.ntmps134;go_wp2
 go_loopw [2,57] (fun d i wr => ∃ k : Nat,k ≤ n ∧ i = .int .i64 k ∧ d = .int .i64 (mxd ds k) ∧ Below W.heap.size W wr) (fun _ i _ => n - (intOf i).toNat)
 case atStart => exact ⟨0,by omega,rfl,rfl,hB⟩
 case round =>
  clear hB;obtain ⟨k,hk,rfl,rfl,hB⟩ := hrel;have hm1 := HMX.out k hk
  by_cases hlt : k < n
  ·have k1 : (k : Int) < n := by omega
   obtain ⟨x,hx⟩ : ∃ x,l[k]? = some x := ⟨_,List.getElem?_eq_getElem (by rw [HL.out];exact hlt)⟩;obtain ⟨b,o,hA,hh⟩ := HK.out k hlt;subst hA;obtain ⟨hcc,hfc⟩ := hh x hx wr hB;have HDK : Hid (max (mxd ds k) (ds k) = mxd ds (k + 1)) := rfl;obtain ⟨E,hE⟩ : ∃ E,ds k = E := ⟨_,rfl⟩;obtain ⟨M,hM⟩ : ∃ M,mxd ds k = M := ⟨_,rfl⟩;rw [hE] at HDK hfc;rw [hM] at HDK hm1 ⊢;have HB := Lib.hid hB;clear hh hE hM hB
   cases x with
   | int z =>
    have p0 : wr.cell? ⟨b,o + k * 4,none⟩ = some (.int .i64 1) := hcc 0 _ rfl;have p1 : wr.cell? ⟨b,o + (k * 4 + 1),none⟩ = some (.int .i64 z) := hcc 1 _ rfl;have p2 : wr.cell? ⟨b,o + (k * 4 + 2),none⟩ = some (.string ⟨#[]⟩) := hcc 2 _ rfl;have p3 : wr.cell? ⟨b,o + (k * 4 + 3),none⟩ = some (.slice none 0 0) := hcc 3 _ rfl;rw [← Nat.add_assoc] at p1 p2 p3;have HFC : Hid (Calls Tryz.prog 134 #[.agg #[.int .i64 1,.int .i64 z,.string ⟨#[]⟩,.slice none 0 0]] (wr.alloc (.cells #[.int .i64 1,.int .i64 z,.string ⟨#[]⟩,.slice none 0 0] 107)) fun e w' => e = .returned (.tuple #[.int .i64 E,.bool true]) ∧ Below (wr.alloc (.cells #[.int .i64 1,.int .i64 z,.string ⟨#[]⟩,.slice none 0 0] 107)).heap.size (wr.alloc (.cells #[.int .i64 1,.int .i64 z,.string ⟨#[]⟩,.slice none 0 0] 107)) w') := hfc;clear hcc hx hfc
    go_wp2_with (go_at_call 134;(with_reducible refine HFC.out.mono ?_);rintro e w2 ⟨rfl,hb2⟩)
    go_roundw
    case rel =>
     refine ⟨k + 1,by omega,by go_num,?_,(HB.out.alloc HB.out.size _).trans (hb2.mono (by have := HB.out.size;simp;omega))⟩;show Value.int .i64 _ = _;rw [← HDK.out];rw [show max M E = if M < E then E else M by split <;> omega]
    case measure => simp [intOf];omega
   | txt s =>
    have p0 : wr.cell? ⟨b,o + k * 4,none⟩ = some (.int .i64 2) := hcc 0 _ rfl;have p1 : wr.cell? ⟨b,o + (k * 4 + 1),none⟩ = some (.int .i64 0) := hcc 1 _ rfl;have p2 : wr.cell? ⟨b,o + (k * 4 + 2),none⟩ = some (.string s) := hcc 2 _ rfl;have p3 : wr.cell? ⟨b,o + (k * 4 + 3),none⟩ = some (.slice none 0 0) := hcc 3 _ rfl;rw [← Nat.add_assoc] at p1 p2 p3;have HFC : Hid (Calls Tryz.prog 134 #[.agg #[.int .i64 2,.int .i64 0,.string s,.slice none 0 0]] (wr.alloc (.cells #[.int .i64 2,.int .i64 0,.string s,.slice none 0 0] 107)) fun e w' => e = .returned (.tuple #[.int .i64 E,.bool true]) ∧ Below (wr.alloc (.cells #[.int .i64 2,.int .i64 0,.string s,.slice none 0 0] 107)).heap.size (wr.alloc (.cells #[.int .i64 2,.int .i64 0,.string s,.slice none 0 0] 107)) w') := hfc;clear hcc hx hfc
    go_wp2_with (go_at_call 134;(with_reducible refine HFC.out.mono ?_);rintro e w2 ⟨rfl,hb2⟩)
    go_roundw
    case rel =>
     refine ⟨k + 1,by omega,by go_num,?_,(HB.out.alloc HB.out.size _).trans (hb2.mono (by have := HB.out.size;simp;omega))⟩;show Value.int .i64 _ = _;rw [← HDK.out];rw [show max M E = if M < E then E else M by split <;> omega]
    case measure => simp [intOf];omega
   | lst A2 n2 c2 =>
    have p0 : wr.cell? ⟨b,o + k * 4,none⟩ = some (.int .i64 3) := hcc 0 _ rfl;have p1 : wr.cell? ⟨b,o + (k * 4 + 1),none⟩ = some (.int .i64 0) := hcc 1 _ rfl;have p2 : wr.cell? ⟨b,o + (k * 4 + 2),none⟩ = some (.string ⟨#[]⟩) := hcc 2 _ rfl;have p3 : wr.cell? ⟨b,o + (k * 4 + 3),none⟩ = some (.slice A2 n2 c2) := hcc 3 _ rfl;rw [← Nat.add_assoc] at p1 p2 p3;have HFC : Hid (Calls Tryz.prog 134 #[.agg #[.int .i64 3,.int .i64 0,.string ⟨#[]⟩,.slice A2 n2 c2]] (wr.alloc (.cells #[.int .i64 3,.int .i64 0,.string ⟨#[]⟩,.slice A2 n2 c2] 107)) fun e w' => e = .returned (.tuple #[.int .i64 E,.bool true]) ∧ Below (wr.alloc (.cells #[.int .i64 3,.int .i64 0,.string ⟨#[]⟩,.slice A2 n2 c2] 107)).heap.size (wr.alloc (.cells #[.int .i64 3,.int .i64 0,.string ⟨#[]⟩,.slice A2 n2 c2] 107)) w') := hfc;clear hcc hx hfc
    go_wp2_with (go_at_call 134;(with_reducible refine HFC.out.mono ?_);rintro e w2 ⟨rfl,hb2⟩)
    go_roundw
    case rel =>
     refine ⟨k + 1,by omega,by go_num,?_,(HB.out.alloc HB.out.size _).trans (hb2.mono (by have := HB.out.size;simp;omega))⟩;show Value.int .i64 _ = _;rw [← HDK.out];rw [show max M E = if M < E then E else M by split <;> omega]
    case measure => simp [intOf];omega
  ·have k9 : ¬ (k : Int) < (n : Int) := by omega
   have hkn : k = n := by omega
   have HKN := Lib.hid hkn;obtain ⟨M,hM⟩ : ∃ M,mxd ds k = M := ⟨_,rfl⟩;have HM := Lib.hid hM;rw [hM] at hm1 ⊢;clear hkn hM;go_wp2;go_ret2;exact ⟨by rw [← HM.out,HKN.out];rfl,hB⟩
theorem check_tv (w : World) (B : Nat) (x : Tv) (d : Int) (h : FC w B x d) (hB : B ≤ w.heap.size) : Calls Tryz.prog 97 #[x.val] w fun e w' => e = .returned (.int .i64 0) ∧ Below w.heap.size w w' := by
 have hd0 := h.1;have hd1 := h.2.1;have HB := Lib.hid hB;clear hB
 cases x with
 | int z =>
  show Calls _ _ #[.agg #[.int .i64 1,.int .i64 z,.string ⟨#[]⟩,.slice none 0 0]] _ _;have HF : Hid (∀ W,Below B w W → Calls Tryz.prog 134 #[.agg #[.int .i64 1,.int .i64 z,.string ⟨#[]⟩,.slice none 0 0]] W fun e w' => e = .returned (.tuple #[.int .i64 d,.bool true]) ∧ Below W.heap.size W w') := h.2.2;clear h;go_enter Tryz.func97,Tryz.ntmps97
  go_wp2_with fail
  refine (HF.out _ ((Below.refl _ _).alloc HB.out _)).mono ?_;rintro e w1 ⟨rfl,hb1⟩;have HB1 : Hid (Below w.heap.size w w1) := ((Below.refl w.heap.size w).alloc (Nat.le_refl _) _).trans (hb1.mono (by simp));clear hb1;go_wp2;go_ret;exact ⟨rfl,HB1.out⟩
 | txt s =>
  show Calls _ _ #[.agg #[.int .i64 2,.int .i64 0,.string s,.slice none 0 0]] _ _;have HF : Hid (∀ W,Below B w W → Calls Tryz.prog 134 #[.agg #[.int .i64 2,.int .i64 0,.string s,.slice none 0 0]] W fun e w' => e = .returned (.tuple #[.int .i64 d,.bool true]) ∧ Below W.heap.size W w') := h.2.2;clear h;go_enter Tryz.func97,Tryz.ntmps97
  go_wp2_with fail
  refine (HF.out _ ((Below.refl _ _).alloc HB.out _)).mono ?_;rintro e w1 ⟨rfl,hb1⟩;have HB1 : Hid (Below w.heap.size w w1) := ((Below.refl w.heap.size w).alloc (Nat.le_refl _) _).trans (hb1.mono (by simp));clear hb1;go_wp2;go_ret;exact ⟨rfl,HB1.out⟩
 | lst A n c =>
  show Calls _ _ #[.agg #[.int .i64 3,.int .i64 0,.string ⟨#[]⟩,.slice A n c]] _ _;have HF : Hid (∀ W,Below B w W → Calls Tryz.prog 134 #[.agg #[.int .i64 3,.int .i64 0,.string ⟨#[]⟩,.slice A n c]] W fun e w' => e = .returned (.tuple #[.int .i64 d,.bool true]) ∧ Below W.heap.size W w') := h.2.2;clear h;go_enter Tryz.func97,Tryz.ntmps97
  go_wp2_with fail
  refine (HF.out _ ((Below.refl _ _).alloc HB.out _)).mono ?_;rintro e w1 ⟨rfl,hb1⟩;have HB1 : Hid (Below w.heap.size w w1) := ((Below.refl w.heap.size w).alloc (Nat.le_refl _) _).trans (hb1.mono (by simp));clear hb1;go_wp2;go_ret;exact ⟨rfl,HB1.out⟩
end Go.Proofs.YtifejdpffkeniaaGreatDoor
namespace Go.Proofs.YtifejdpffkeniaaGreatDoor
open Go.RowKit
def wcF : Tv → Nat
 | .int _ => 135
 | .txt _ => 138
 | .lst _ _ _ => 139
def wcA (gw : Nat) (v : Value) (x : Tv) : Array Value := match x with
 | .int _ => #[v,x.val]
 | .txt _ => #[v,x.val]
 | .lst _ _ _ => #[v,x.val,.pointer (some ⟨gw + 1,0,none⟩)]
def WC (w : World) (B : Nat) (x : Tv) (bs : List Int) : Prop :=
 ∀ (base gw : Nat) (v : Value) (n : Nat) (xs : List Int) (W : World),B ≤ base → base ≤ W.heap.size → (∀ k,k < B → W.heap[k]? = w.heap[k]?) → gw + 1 < base → Wr W gw → W.ownsRow base 5 1 v n (xs.map (Value.int .u8)) → n + bs.length ≤ 700000 →
  Calls Tryz.prog (wcF x) (wcA gw v x) W (NumPost base W v n xs bs)
theorem WC.below {w w' : World} {B : Nat} {x : Tv} {bs : List Int} (h : WC w B x bs) (hb : Below B w w') : WC w' B x bs := fun base gw v n xs W h1 h2 h3 => h base gw v n xs W h1 h2 fun k hk => (h3 k hk).trans (hb.block k hk)
theorem WC.more {w : World} {B B' : Nat} {x : Tv} {bs : List Int} (h : WC w B x bs) (hB : B ≤ B') : WC w B' x bs := fun base gw v n xs W h1 h2 h3 => h base gw v n xs W (by omega) h2 fun k hk => h3 k (by omega)
theorem wc_int (w : World) (B : Nat) (z : Int) (hz : -9223372036854775808 ≤ z ∧ z < 9223372036854775808) : WC w B (.int z) (1 :: Cd.numL (uns z)) := fun base gw v n xs W h1 h2 h3 h4 h5 h6 h7 => w1I_any base v n xs z W h6 hz (by omega) h2
theorem wc_txt (w : World) (B : Nat) (s : ByteArray) (hs : s.size ≤ 100000) : WC w B (.txt s) ([2] ++ Cd.numL s.size ++ strInts s) := fun base gw v n xs W h1 h2 h3 h4 h5 h6 h7 => w2_any base v n xs s W h6 hs (by omega) h2
def encL (es : List (List Int)) : List Int := [3] ++ Cd.numL es.length ++ es.flatten
theorem take_flat {es : List (List Int)} {k : Nat} (h : k < es.length) : (es.take (k + 1)).flatten = (es.take k).flatten ++ es.getD k [] := by
 rw [List.take_add_one,List.getElem?_eq_getElem h,List.getD_eq_getElem?_getD,List.getElem?_eq_getElem h,List.flatten_append];show _ ++ [es[k]].flatten = _ ++ es[k];rw [List.flatten_cons,List.flatten_nil,List.append_nil]
theorem take_flat_le {es : List (List Int)} {k : Nat} (h : k < es.length) : (es.take k).flatten.length + (es.getD k []).length ≤ es.flatten.length := by
 have h1 := take_flat h
 have h2 : ((es.take (k + 1)).flatten).length ≤ es.flatten.length := by
  have : es.flatten = (es.take (k + 1)).flatten ++ (es.drop (k + 1)).flatten := by rw [← List.flatten_append,List.take_append_drop]
  rw [this,List.length_append];omega
 rw [h1,List.length_append] at h2;exact h2
theorem own_base {w : World} {b : Nat} {e : TypeId} {v : Value} {size n : Nat} {xs : List Value} (h : w.ownsRow b e size v n xs) : ∀ j,v.ownBlock = some j → b ≤ j := fun j hj => (h.lt j hj).1
theorem wc_list (w : World) (B : Nat) (A : Option Addr) (N c : Nat) (l : List Tv) (es : List (List Int)) (hl : l.length = N) (hel : es.length = N) (hN : N ≤ 100) (hel2 : es.flatten.length ≤ 100000) (hr : Rd w B 4 A N (tvCells l)) (hnc : N ≤ c)
  (hk : ∀ (k : Nat) (x : Tv),l[k]? = some x → WC w B x (es.getD k [])) : WC w B (.lst A N c) (encL es) := by
 intro base gw v0 n0 xs w0 hBb hbase hsame hgw hW hown hroom;obtain ⟨i0,hi,hz0',hz1',hz2'⟩ := info_parts infoU8c
 have hbox : (w0.alloc (.cells #[.int .i64 3,.int .i64 0,.string ⟨#[]⟩,.slice A N c] 107)).cell? ⟨w0.heap.size,3,none⟩ = some (.slice A N c) := by
  rw [cell_of_row _ w0.heap.size 3 _ _ _ (heap_alloc_new w0 _)];rfl
 have hne := own_far hown;have hvb := own_base hown
 have hu64 : IntKind.u64.wrap (N : Int) = (N : Int) := by
  rw [show IntKind.u64.wrap (N : Int) = (N : Int) % 18446744073709551616 by simp [IntKind.wrap,IntKind.bits,IntKind.signed]];omega
 have hten := Cd.numL_ten (u := N) (by omega);have hlen : (encL es).length = 1 + (Cd.numL N).length + es.flatten.length := by unfold encL;rw [hel];simp;omega
 have HT := Lib.hid hten;have HW := Lib.hid hW;have hn9 : (N : Int) ≤ 100 := by omega
 have HK : Hid (∀ (k : Nat),k < N → ∃ b o,A = some ⟨b,o,none⟩ ∧ ∀ (x : Tv),l[k]? = some x → ∀ V : World,(∀ j,j < base → V.heap[j]? = w0.heap[j]?) → (∀ i v,x.cells[i]? = some v → V.cell? ⟨b,o + (k * 4 + i),none⟩ = some v) ∧ ∀ (v : Value) (W : World),base ≤ W.heap.size → (∀ j,j < base → W.heap[j]? = V.heap[j]?) → Wr W gw → W.ownsRow base 5 1 v (n0 + ([3] ++ Cd.numL N ++ (es.take k).flatten).length) ((xs ++ ([3] ++ Cd.numL N ++ (es.take k).flatten)).map (Value.int .u8)) → Calls Tryz.prog (wcF x) (wcA gw v x) W (NumPost base W v (n0 + ([3] ++ Cd.numL N ++ (es.take k).flatten).length) (xs ++ ([3] ++ Cd.numL N ++ (es.take k).flatten)) (es.getD k []))) := fun k hk' => by
  obtain ⟨b,o,e1,hb,hc⟩ := tv_at hr hl hk';refine ⟨b,o,e1,fun x hx V hV => ⟨fun i v hv => ?_,fun v W h2 h3 h5 h6 => ?_⟩⟩
  ·have e2 : V.cell? ⟨b,o + (k * 4 + i),none⟩ = w.cell? ⟨b,o + (k * 4 + i),none⟩ := World.cell?_of_block ((hV b (by omega)).trans (hsame b hb))
   rw [e2];exact hc x hx i v hv
  ·refine hk k x hx base gw v _ _ W hBb h2 (fun j hj => ((h3 j (by omega)).trans (hV j (by omega))).trans (hsame j hj)) hgw h5 h6 ?_
   have := take_flat_le (es := es) (k := k) (by omega);simp only [List.length_append,List.length_cons,List.length_nil];omega
 have HL := Lib.hid hl;have HEL := Lib.hid hel;have hn0 : n0 ≤ 700000 := by omega
 obtain ⟨P,hP⟩ : ∃ P,NumPost base w0 v0 n0 xs (encL es) = P := ⟨_,rfl⟩;show Calls _ _ #[v0,.agg #[.int .i64 3,.int .i64 0,.string ⟨#[]⟩,.slice A N c],.pointer (some ⟨gw + 1,0,none⟩)] w0 (NumPost base w0 v0 n0 xs (encL es));unfold encL at hP hlen ⊢;rw [hel] at hP ⊢;rw [hP];obtain ⟨X,hX⟩ : ∃ X,[3] ++ Cd.numL N = X := ⟨_,rfl⟩;rw [hX] at hP HK;have HP := Lib.hid hP;have HX0 := Lib.hid hX;have HV := Lib.hid hvb;clear hP hX hW hr hten hl hel hk hsame hlen hvb;show Calls _ 139 _ _ _;go_enter Tryz.func139,Tryz.ntmps139;go_wp2
 go_region_held3 (fun w' => w'.cell? ⟨w0.heap.size,3,none⟩ = some (.slice A N c))
  (first
   | (go_keep;done)
   | exact hq1
   | exact (hG.grow.cell_far ⟨w0.heap.size,3,none⟩ hlt1 hne1).trans hq1)
  ((first | (go_at_call 136;(refine (numeral_any base v1 (n0 + 1) (xs ++ [3]) N w1 (by simpa using hown1) (by omega) (by omega) (by omega)).mono ?_);rintro e w3 ⟨v3,rfl,hG⟩) | (refine wp_atc (by rfl) (wp_append_rd _ (.tmp 8) (.tmp 9) 57 (by rfl) base 5 i0 _ 1 1 Tryz.underlying57 hi hz0' hz1' hz2' rfl (by omega) v0 n0 _ (by rfl) ((hown.alloc _).alloc _).drew _ _ 1 _ [.int .u8 3] (by rfl) (rd_one _ _ _ _ (by simp)).drew (fun u hu => by simp at hu;subst hu;rfl) (by unfold maxLen;omega) (by omega) (by simp;omega) ?_);intro v1 w1 hown1 hg1 hb1;have hq1 := (hg1.cell_far ⟨w0.heap.size,3,none⟩ (by simp;omega) hne).trans (cell_box2 w0 _ _ hbox);have hlt1 : w0.heap.size < w1.heap.size := (by have := hg1.size;simp at this;omega);have hne1 := own_ne hne hb1 (by simp;omega)) | fail))
 have hG0 : Grew base w0 v0 n0 xs w1 v1 [3] := Grew.mk1 (grown_drew (grown_alloc (World.grownBy_alloc w0 _ _) _)) hown1 hg1 hb1;have hG2 : Grew base w0 v0 n0 xs w3 v3 ([3] ++ Cd.numL N) := hG0.then hG;have hq3 := (hG.grow.cell_far ⟨w0.heap.size,3,none⟩ hlt1 hne1).trans hq1;clear hG0 hG hown1 hg1 hb1 hq1 hne1 hlt1 hbox hown hne;rw [HX0.out] at hG2;go_wp2
 go_loopw [0,19] (fun v i wr => ∃ (k : Nat) (u : Value),u = v ∧ k ≤ N ∧ i = .int .i64 k ∧ Grew base w0 v0 n0 xs wr u (X ++ (es.take k).flatten)) (fun _ i _ => N - (intOf i).toNat)
 case atStart => exact ⟨0,_,rfl,by omega,rfl,by rw [List.take_zero,List.flatten_nil,List.append_nil];exact hG2⟩
 case round =>
  clear hG2 hq3;obtain ⟨k,v,hvu,hk,rfl,hG⟩ := hrel;subst hvu;have hsz : base ≤ wr.heap.size := Nat.le_trans hbase hG.grow.size
  by_cases hlt : k < N
  ·have k1 : (k : Int) < N := by omega
   have hb0 : ∀ j,j < base → wr.heap[j]? = w0.heap[j]? := fun j hj => hG.grow.block j (by omega) (fun e => by have := HV.out _ e.symm;omega);have hk0 : ∀ p : Addr,p.block < base → wr.cell? p = w0.cell? p := fun p hp => World.cell?_of_block (hb0 _ hp);have hw0 := HW.out.keep (w' := wr) (fun p hp => hk0 p (by omega));clear hk0;obtain ⟨x,hx⟩ : ∃ x,l[k]? = some x := ⟨_,List.getElem?_eq_getElem (by rw [HL.out];exact hlt)⟩;obtain ⟨b,o,hA,hh⟩ := HK.out k hlt;subst hA;obtain ⟨hcc,hfc⟩ := hh x hx wr hb0;have hfc := hfc v;clear hh hb0
   cases x with
   | int z =>
    have p0 : wr.cell? ⟨b,o + k * 4,none⟩ = some (.int .i64 1) := hcc 0 _ rfl;have p1 : wr.cell? ⟨b,o + (k * 4 + 1),none⟩ = some (.int .i64 z) := hcc 1 _ rfl;have p2 : wr.cell? ⟨b,o + (k * 4 + 2),none⟩ = some (.string ⟨#[]⟩) := hcc 2 _ rfl;have p3 : wr.cell? ⟨b,o + (k * 4 + 3),none⟩ = some (.slice none 0 0) := hcc 3 _ rfl;rw [← Nat.add_assoc] at p1 p2 p3;have HFC : Hid (∀ (W : World),base ≤ W.heap.size → (∀ j,j < base → W.heap[j]? = wr.heap[j]?) → Wr W gw → W.ownsRow base 5 1 v (n0 + (X ++ (es.take k).flatten).length) ((xs ++ (X ++ (es.take k).flatten)).map (Value.int .u8)) → Calls Tryz.prog 135 #[v,.agg #[.int .i64 1,.int .i64 z,.string ⟨#[]⟩,.slice none 0 0]] W (NumPost base W v (n0 + (X ++ (es.take k).flatten).length) (xs ++ (X ++ (es.take k).flatten)) (es.getD k []))) := fun W h2 h3 h5 h6 => hfc W h2 h3 h5 h6;clear hcc hx hfc;have hGo := hG.own.alloc (.cells #[.int .i64 1,.int .i64 z,.string ⟨#[]⟩,.slice none 0 0] 107);have hGp := World.grownBy_alloc wr (.cells #[.int .i64 1,.int .i64 z,.string ⟨#[]⟩,.slice none 0 0] 107) v.ownBlock;have s0 : Wr (wr.alloc (.cells #[.int .i64 1,.int .i64 z,.string ⟨#[]⟩,.slice none 0 0] 107)) gw := hw0.keep (fun p hp => World.cell?_alloc_lt _ _ _ (by omega));have s7 : ∀ j,j < base → (wr.alloc (.cells #[.int .i64 1,.int .i64 z,.string ⟨#[]⟩,.slice none 0 0] 107)).heap[j]? = wr.heap[j]? := fun j hj => Below.heap_alloc _ _ _ (by omega);have s1 : (wr.alloc (.cells #[.int .i64 1,.int .i64 z,.string ⟨#[]⟩,.slice none 0 0] 107)).cell? ⟨gw + 1,0,none⟩ = some (.pointer (some ⟨gw,0,none⟩)) := s0.c4;have s2 : (wr.alloc (.cells #[.int .i64 1,.int .i64 z,.string ⟨#[]⟩,.slice none 0 0] 107)).cell? ⟨gw,1,none⟩ = some (.func (.func 135) #[] #[]) := s0.c1;have s3 : (wr.alloc (.cells #[.int .i64 1,.int .i64 z,.string ⟨#[]⟩,.slice none 0 0] 107)).cell? ⟨wr.heap.size,0,none⟩ = some (.int .i64 1) := by rw [cell_of_row _ wr.heap.size 0 _ _ _ (heap_alloc_new wr _)];rfl
    have s4 : (wr.alloc (.cells #[.int .i64 1,.int .i64 z,.string ⟨#[]⟩,.slice none 0 0] 107)).cell? ⟨wr.heap.size,1,none⟩ = some (.int .i64 z) := by rw [cell_of_row _ wr.heap.size 1 _ _ _ (heap_alloc_new wr _)];rfl
    have s5 : (wr.alloc (.cells #[.int .i64 1,.int .i64 z,.string ⟨#[]⟩,.slice none 0 0] 107)).cell? ⟨wr.heap.size,2,none⟩ = some (.string ⟨#[]⟩) := by rw [cell_of_row _ wr.heap.size 2 _ _ _ (heap_alloc_new wr _)];rfl
    have s6 : (wr.alloc (.cells #[.int .i64 1,.int .i64 z,.string ⟨#[]⟩,.slice none 0 0] 107)).cell? ⟨wr.heap.size,3,none⟩ = some (.slice none 0 0) := by rw [cell_of_row _ wr.heap.size 3 _ _ _ (heap_alloc_new wr _)];rfl
    have hsy : base ≤ (wr.alloc (.cells #[.int .i64 1,.int .i64 z,.string ⟨#[]⟩,.slice none 0 0] 107)).heap.size := by simp;omega
    have HS := Lib.hid (And.intro s1 (And.intro s2 (And.intro s3 (And.intro s4 (And.intro s5 s6)))));have HG := Lib.hid (And.intro hGo (And.intro hGp hsy));have HS0 := Lib.hid (And.intro s0 s7);clear s0 s1 s2 s3 s4 s5 s6 s7 hGo hGp hsy hw0;go_wp2;obtain ⟨hGo,hGp,hsy⟩ := HG.out;obtain ⟨s1,s2,s3,s4,s5,s6⟩ := HS.out;obtain ⟨s0,s7⟩ := HS0.out;clear HG HS HS0 p0 p1 p2 p3;generalize (wr.alloc (.cells #[.int .i64 1,.int .i64 z,.string ⟨#[]⟩,.slice none 0 0] 107)) = wz at s0 s1 s2 s3 s4 s5 s6 s7 hGo hGp hsy ⊢
    go_still_tail 9,(by kernel_rfl)
    change wpList _ _ _ _ _ wz.drew;have hGo := hGo.drew;have hGp := grown_drew hGp;have hsy : base ≤ wz.drew.heap.size := hsy;have s0 : Wr wz.drew gw := s0.keep fun _ _ => rfl;have s7 : ∀ j,j < base → wz.drew.heap[j]? = wr.heap[j]? := s7;have s1 : wz.drew.cell? _ = _ := s1;have s2 : wz.drew.cell? _ = _ := s2;have s3 : wz.drew.cell? _ = _ := s3;have s4 : wz.drew.cell? _ = _ := s4;have s5 : wz.drew.cell? _ = _ := s5;have s6 : wz.drew.cell? _ = _ := s6;generalize wz.drew = wy at s0 s1 s2 s3 s4 s5 s6 s7 hGo hGp hsy ⊢
    go_wp2_with fail
    refine (HFC.out _ hsy s7 s0 hGo).mono ?_;rintro e w4 ⟨v4,rfl,hG4⟩;have hG5 := hG.then (Grew.preL hG4 hGp);clear hG4 hGo hGp s0 s1 s2 s3 s4 s5 s6 s7 hG;go_wp2;go_roundw
    case rel => exact ⟨k + 1,v4,rfl,by omega,by go_num,by rw [take_flat (by rw [HEL.out];omega),← List.append_assoc];exact hG5⟩
    case measure => simp [intOf];omega
   | txt s =>
    have p0 : wr.cell? ⟨b,o + k * 4,none⟩ = some (.int .i64 2) := hcc 0 _ rfl;have p1 : wr.cell? ⟨b,o + (k * 4 + 1),none⟩ = some (.int .i64 0) := hcc 1 _ rfl;have p2 : wr.cell? ⟨b,o + (k * 4 + 2),none⟩ = some (.string s) := hcc 2 _ rfl;have p3 : wr.cell? ⟨b,o + (k * 4 + 3),none⟩ = some (.slice none 0 0) := hcc 3 _ rfl;rw [← Nat.add_assoc] at p1 p2 p3;have HFC : Hid (∀ (W : World),base ≤ W.heap.size → (∀ j,j < base → W.heap[j]? = wr.heap[j]?) → Wr W gw → W.ownsRow base 5 1 v (n0 + (X ++ (es.take k).flatten).length) ((xs ++ (X ++ (es.take k).flatten)).map (Value.int .u8)) → Calls Tryz.prog 138 #[v,.agg #[.int .i64 2,.int .i64 0,.string s,.slice none 0 0]] W (NumPost base W v (n0 + (X ++ (es.take k).flatten).length) (xs ++ (X ++ (es.take k).flatten)) (es.getD k []))) := fun W h2 h3 h5 h6 => hfc W h2 h3 h5 h6;clear hcc hx hfc;have hGo := hG.own.alloc (.cells #[.int .i64 2,.int .i64 0,.string s,.slice none 0 0] 107);have hGp := World.grownBy_alloc wr (.cells #[.int .i64 2,.int .i64 0,.string s,.slice none 0 0] 107) v.ownBlock;have s0 : Wr (wr.alloc (.cells #[.int .i64 2,.int .i64 0,.string s,.slice none 0 0] 107)) gw := hw0.keep (fun p hp => World.cell?_alloc_lt _ _ _ (by omega));have s7 : ∀ j,j < base → (wr.alloc (.cells #[.int .i64 2,.int .i64 0,.string s,.slice none 0 0] 107)).heap[j]? = wr.heap[j]? := fun j hj => Below.heap_alloc _ _ _ (by omega);have s1 : (wr.alloc (.cells #[.int .i64 2,.int .i64 0,.string s,.slice none 0 0] 107)).cell? ⟨gw + 1,0,none⟩ = some (.pointer (some ⟨gw,0,none⟩)) := s0.c4;have s2 : (wr.alloc (.cells #[.int .i64 2,.int .i64 0,.string s,.slice none 0 0] 107)).cell? ⟨gw,2,none⟩ = some (.func (.func 138) #[] #[]) := s0.c2;have s3 : (wr.alloc (.cells #[.int .i64 2,.int .i64 0,.string s,.slice none 0 0] 107)).cell? ⟨wr.heap.size,0,none⟩ = some (.int .i64 2) := by rw [cell_of_row _ wr.heap.size 0 _ _ _ (heap_alloc_new wr _)];rfl
    have s4 : (wr.alloc (.cells #[.int .i64 2,.int .i64 0,.string s,.slice none 0 0] 107)).cell? ⟨wr.heap.size,1,none⟩ = some (.int .i64 0) := by rw [cell_of_row _ wr.heap.size 1 _ _ _ (heap_alloc_new wr _)];rfl
    have s5 : (wr.alloc (.cells #[.int .i64 2,.int .i64 0,.string s,.slice none 0 0] 107)).cell? ⟨wr.heap.size,2,none⟩ = some (.string s) := by rw [cell_of_row _ wr.heap.size 2 _ _ _ (heap_alloc_new wr _)];rfl
    have s6 : (wr.alloc (.cells #[.int .i64 2,.int .i64 0,.string s,.slice none 0 0] 107)).cell? ⟨wr.heap.size,3,none⟩ = some (.slice none 0 0) := by rw [cell_of_row _ wr.heap.size 3 _ _ _ (heap_alloc_new wr _)];rfl
    have hsy : base ≤ (wr.alloc (.cells #[.int .i64 2,.int .i64 0,.string s,.slice none 0 0] 107)).heap.size := by simp;omega
    have HS := Lib.hid (And.intro s1 (And.intro s2 (And.intro s3 (And.intro s4 (And.intro s5 s6)))));have HG := Lib.hid (And.intro hGo (And.intro hGp hsy));have HS0 := Lib.hid (And.intro s0 s7);clear s0 s1 s2 s3 s4 s5 s6 s7 hGo hGp hsy hw0;go_wp2;obtain ⟨hGo,hGp,hsy⟩ := HG.out;obtain ⟨s1,s2,s3,s4,s5,s6⟩ := HS.out;obtain ⟨s0,s7⟩ := HS0.out;clear HG HS HS0 p0 p1 p2 p3;generalize (wr.alloc (.cells #[.int .i64 2,.int .i64 0,.string s,.slice none 0 0] 107)) = wz at s0 s1 s2 s3 s4 s5 s6 s7 hGo hGp hsy ⊢
    go_still_tail 9,(by kernel_rfl)
    change wpList _ _ _ _ _ wz.drew;have hGo := hGo.drew;have hGp := grown_drew hGp;have hsy : base ≤ wz.drew.heap.size := hsy;have s0 : Wr wz.drew gw := s0.keep fun _ _ => rfl;have s7 : ∀ j,j < base → wz.drew.heap[j]? = wr.heap[j]? := s7;have s1 : wz.drew.cell? _ = _ := s1;have s2 : wz.drew.cell? _ = _ := s2;have s3 : wz.drew.cell? _ = _ := s3;have s4 : wz.drew.cell? _ = _ := s4;have s5 : wz.drew.cell? _ = _ := s5;have s6 : wz.drew.cell? _ = _ := s6;generalize wz.drew = wy at s0 s1 s2 s3 s4 s5 s6 s7 hGo hGp hsy ⊢
    go_wp2_with fail
    refine (HFC.out _ hsy s7 s0 hGo).mono ?_;rintro e w4 ⟨v4,rfl,hG4⟩;have hG5 := hG.then (Grew.preL hG4 hGp);clear hG4 hGo hGp s0 s1 s2 s3 s4 s5 s6 s7 hG;go_wp2;go_roundw
    case rel => exact ⟨k + 1,v4,rfl,by omega,by go_num,by rw [take_flat (by rw [HEL.out];omega),← List.append_assoc];exact hG5⟩
    case measure => simp [intOf];omega
   | lst A2 n2 c2 =>
    have p0 : wr.cell? ⟨b,o + k * 4,none⟩ = some (.int .i64 3) := hcc 0 _ rfl;have p1 : wr.cell? ⟨b,o + (k * 4 + 1),none⟩ = some (.int .i64 0) := hcc 1 _ rfl;have p2 : wr.cell? ⟨b,o + (k * 4 + 2),none⟩ = some (.string ⟨#[]⟩) := hcc 2 _ rfl;have p3 : wr.cell? ⟨b,o + (k * 4 + 3),none⟩ = some (.slice A2 n2 c2) := hcc 3 _ rfl;rw [← Nat.add_assoc] at p1 p2 p3;have HFC : Hid (∀ (W : World),base ≤ W.heap.size → (∀ j,j < base → W.heap[j]? = wr.heap[j]?) → Wr W gw → W.ownsRow base 5 1 v (n0 + (X ++ (es.take k).flatten).length) ((xs ++ (X ++ (es.take k).flatten)).map (Value.int .u8)) → Calls Tryz.prog 139 #[v,.agg #[.int .i64 3,.int .i64 0,.string ⟨#[]⟩,.slice A2 n2 c2],.pointer (some ⟨gw + 1,0,none⟩)] W (NumPost base W v (n0 + (X ++ (es.take k).flatten).length) (xs ++ (X ++ (es.take k).flatten)) (es.getD k []))) := fun W h2 h3 h5 h6 => hfc W h2 h3 h5 h6;clear hcc hx hfc;have hGo := hG.own.alloc (.cells #[.int .i64 3,.int .i64 0,.string ⟨#[]⟩,.slice A2 n2 c2] 107);have hGp := World.grownBy_alloc wr (.cells #[.int .i64 3,.int .i64 0,.string ⟨#[]⟩,.slice A2 n2 c2] 107) v.ownBlock;have s0 : Wr (wr.alloc (.cells #[.int .i64 3,.int .i64 0,.string ⟨#[]⟩,.slice A2 n2 c2] 107)) gw := hw0.keep (fun p hp => World.cell?_alloc_lt _ _ _ (by omega));have s7 : ∀ j,j < base → (wr.alloc (.cells #[.int .i64 3,.int .i64 0,.string ⟨#[]⟩,.slice A2 n2 c2] 107)).heap[j]? = wr.heap[j]? := fun j hj => Below.heap_alloc _ _ _ (by omega);have s1 : (wr.alloc (.cells #[.int .i64 3,.int .i64 0,.string ⟨#[]⟩,.slice A2 n2 c2] 107)).cell? ⟨gw + 1,0,none⟩ = some (.pointer (some ⟨gw,0,none⟩)) := s0.c4;have s2 : (wr.alloc (.cells #[.int .i64 3,.int .i64 0,.string ⟨#[]⟩,.slice A2 n2 c2] 107)).cell? ⟨gw,3,none⟩ = some (.func (.func 139) #[] #[.pointer (some ⟨gw + 1,0,none⟩)]) := s0.c3;have s3 : (wr.alloc (.cells #[.int .i64 3,.int .i64 0,.string ⟨#[]⟩,.slice A2 n2 c2] 107)).cell? ⟨wr.heap.size,0,none⟩ = some (.int .i64 3) := by rw [cell_of_row _ wr.heap.size 0 _ _ _ (heap_alloc_new wr _)];rfl
    have s4 : (wr.alloc (.cells #[.int .i64 3,.int .i64 0,.string ⟨#[]⟩,.slice A2 n2 c2] 107)).cell? ⟨wr.heap.size,1,none⟩ = some (.int .i64 0) := by rw [cell_of_row _ wr.heap.size 1 _ _ _ (heap_alloc_new wr _)];rfl
    have s5 : (wr.alloc (.cells #[.int .i64 3,.int .i64 0,.string ⟨#[]⟩,.slice A2 n2 c2] 107)).cell? ⟨wr.heap.size,2,none⟩ = some (.string ⟨#[]⟩) := by rw [cell_of_row _ wr.heap.size 2 _ _ _ (heap_alloc_new wr _)];rfl
    have s6 : (wr.alloc (.cells #[.int .i64 3,.int .i64 0,.string ⟨#[]⟩,.slice A2 n2 c2] 107)).cell? ⟨wr.heap.size,3,none⟩ = some (.slice A2 n2 c2) := by rw [cell_of_row _ wr.heap.size 3 _ _ _ (heap_alloc_new wr _)];rfl
    have hsy : base ≤ (wr.alloc (.cells #[.int .i64 3,.int .i64 0,.string ⟨#[]⟩,.slice A2 n2 c2] 107)).heap.size := by simp;omega
    have HS := Lib.hid (And.intro s1 (And.intro s2 (And.intro s3 (And.intro s4 (And.intro s5 s6)))));have HG := Lib.hid (And.intro hGo (And.intro hGp hsy));have HS0 := Lib.hid (And.intro s0 s7);clear s0 s1 s2 s3 s4 s5 s6 s7 hGo hGp hsy hw0;go_wp2;obtain ⟨hGo,hGp,hsy⟩ := HG.out;obtain ⟨s1,s2,s3,s4,s5,s6⟩ := HS.out;obtain ⟨s0,s7⟩ := HS0.out;clear HG HS HS0 p0 p1 p2 p3;generalize (wr.alloc (.cells #[.int .i64 3,.int .i64 0,.string ⟨#[]⟩,.slice A2 n2 c2] 107)) = wz at s0 s1 s2 s3 s4 s5 s6 s7 hGo hGp hsy ⊢
    go_still_tail 9,(by kernel_rfl)
    change wpList _ _ _ _ _ wz.drew;have hGo := hGo.drew;have hGp := grown_drew hGp;have hsy : base ≤ wz.drew.heap.size := hsy;have s0 : Wr wz.drew gw := s0.keep fun _ _ => rfl;have s7 : ∀ j,j < base → wz.drew.heap[j]? = wr.heap[j]? := s7;have s1 : wz.drew.cell? _ = _ := s1;have s2 : wz.drew.cell? _ = _ := s2;have s3 : wz.drew.cell? _ = _ := s3;have s4 : wz.drew.cell? _ = _ := s4;have s5 : wz.drew.cell? _ = _ := s5;have s6 : wz.drew.cell? _ = _ := s6;generalize wz.drew = wy at s0 s1 s2 s3 s4 s5 s6 s7 hGo hGp hsy ⊢
    go_wp2_with fail
    refine (HFC.out _ hsy s7 s0 hGo).mono ?_;rintro e w4 ⟨v4,rfl,hG4⟩;have hG5 := hG.then (Grew.preL hG4 hGp);clear hG4 hGo hGp s0 s1 s2 s3 s4 s5 s6 s7 hG;go_wp2;go_roundw
    case rel => exact ⟨k + 1,v4,rfl,by omega,by go_num,by rw [take_flat (by rw [HEL.out];omega),← List.append_assoc];exact hG5⟩
    case measure => simp [intOf];omega
  ·have hkN : k = N := by omega
   have HG := Lib.hid hG;have k9 : ¬ (k : Int) < (N : Int) := by omega
   have HKN := Lib.hid hkN;clear hG hkN hlt;go_wp2;have h9 := HP.out;subst h9;refine ⟨_,rfl,?_⟩;have h := HG.out;rw [List.take_of_length_le (by rw [HEL.out,HKN.out];exact Nat.le_refl _)] at h;exact h
def EncPT (bs : List Int) (w : World) (e : Ending) (w' : World) : Prop :=
 ∃ (A : Option Addr) (c : Nat),e = .returned (.tuple #[.slice A bs.length c,.int .i64 0]) ∧ Rd w' w'.heap.size 1 A bs.length (bs.map (Value.int .u8)) ∧ bs.length ≤ c ∧ c ≤ maxLen ∧ Below w.heap.size w w'
def EncPF (bs : List Int) (w : World) (e : Ending) (w' : World) : Prop :=
 ∃ (A : Option Addr) (c : Nat),e = .returned (.tuple #[.slice A bs.length c,.int .i64 0]) ∧ Rd w' w'.heap.size 1 A bs.length (bs.map (Value.int .u8)) ∧ bs.length ≤ c ∧ c ≤ maxLen ∧ Below w.heap.size w w' ∧ ∀ b o,A = some ⟨b,o,none⟩ → w.heap.size ≤ b
theorem own_sliceT {w : World} {base : Nat} {e : TypeId} {v : Value} {size n : Nat} {xs : List Value} (h : w.ownsRow base e size v n xs) : ∃ A c,v = .slice A n c ∧ Rd w w.heap.size size A n xs ∧ n ≤ c ∧ c ≤ maxLen := by
 have h0 := h
 rcases h.2 with ⟨rfl,rfl⟩ | ⟨g,cap,cur,rfl,_,_,h1,h2,_⟩
 ·exact ⟨_,_,rfl,⟨h0.1,fun h => absurd h (by omega)⟩,Nat.le_refl _,Nat.zero_le _⟩
 ·exact ⟨_,_,rfl,Rd.of_own h0,h1,h2⟩
theorem encode_tvF (w : World) (A0 : Option Addr) (n0 c0 : Nat) (d : Int) (bs : List Int) (h : FC w w.heap.size (.lst A0 n0 c0) d) (hwc : WC w w.heap.size (.lst A0 n0 c0) bs) (hl0 : bs.length ≤ 600000) : Calls Tryz.prog 42 #[(Tv.lst A0 n0 c0).val] w (EncPF bs w) := by
 have hfc : ∀ W,Below w.heap.size w W → Calls Tryz.prog 97 #[(Tv.lst A0 n0 c0).val] W fun e w' => e = .returned (.int .i64 0) ∧ Below W.heap.size W w' := fun W hW => check_tv W w.heap.size _ d (h.below hW) hW.size;clear h;obtain ⟨x,hx⟩ : ∃ x,Tv.lst A0 n0 c0 = x := ⟨_,rfl⟩;rw [hx] at hfc hwc ⊢
 cases x with
 | int z => cases hx
 | txt s => cases hx
 | lst A2 n2 c2 =>
  have HFC : Hid (∀ W,Below w.heap.size w W → Calls Tryz.prog 97 #[.agg #[.int .i64 3,.int .i64 0,.string ⟨#[]⟩,.slice A2 n2 c2]] W fun e w' => e = .returned (.int .i64 0) ∧ Below W.heap.size W w') := hfc;have HWC : Hid (∀ (base gw : Nat) (W : World),w.heap.size ≤ base → base ≤ W.heap.size → (∀ k,k < w.heap.size → W.heap[k]? = w.heap[k]?) → gw + 1 < base → Wr W gw → Calls Tryz.prog 139 #[.slice none 0 0,.agg #[.int .i64 3,.int .i64 0,.string ⟨#[]⟩,.slice A2 n2 c2],.pointer (some ⟨gw + 1,0,none⟩)] W (NumPost base W (.slice none 0 0) 0 [] bs)) := fun base gw W h1 h2 h3 h4 h5 => hwc base gw (.slice none 0 0) 0 [] W h1 h2 h3 h4 h5 (World.ownsRow_nil _ _ _ _) (by omega);clear hfc hwc;show Calls _ _ #[.agg #[.int .i64 3,.int .i64 0,.string ⟨#[]⟩,.slice A2 n2 c2]] _ _;go_enter Tryz.func42,Tryz.ntmps42
  go_wp2_with fail
  refine (HFC.out _ ((Below.refl w.heap.size w).alloc (Nat.le_refl _) _)).mono ?_;rintro e w1 ⟨rfl,hb1⟩;have hB1 := ((Below.refl w.heap.size w).alloc (Nat.le_refl _) _).trans (hb1.mono (by simp));have b0 : w1.cell? ⟨w.heap.size,0,none⟩ = some (.int .i64 3) := (hb1.cell (p := ⟨w.heap.size,0,none⟩) (by simp)).trans (alloc_cell0 w _ _ _);have b1 : w1.cell? ⟨w.heap.size,1,none⟩ = some (.int .i64 0) := (hb1.cell (p := ⟨w.heap.size,1,none⟩) (by simp)).trans (alloc_cell1 w _ _ _ _);have b2 : w1.cell? ⟨w.heap.size,2,none⟩ = some (.string ⟨#[]⟩) := (hb1.cell (p := ⟨w.heap.size,2,none⟩) (by simp)).trans (by rw [cell_of_row _ w.heap.size 2 _ _ _ (heap_alloc_new w _)];rfl);have b3 : w1.cell? ⟨w.heap.size,3,none⟩ = some (.slice A2 n2 c2) := (hb1.cell (p := ⟨w.heap.size,3,none⟩) (by simp)).trans (by rw [cell_of_row _ w.heap.size 3 _ _ _ (heap_alloc_new w _)];rfl);have hs1 : w.heap.size < w1.heap.size := by have := hb1.size;simp at this;omega
  clear hb1;go_wp2
  go_region_with ((first | (go_at_call 98;(refine (writer_any _).mono ?_);rintro e w2 ⟨rfl,hW,hb2,hsz2⟩;have c3 : w2.cell? ⟨w1.heap.size,3,none⟩ = some (.func (.func 139) #[] #[.pointer (some ⟨w1.heap.size + 1,0,none⟩)]) := hW.c3;have d0 := (hb2.cell (p := ⟨w.heap.size,0,none⟩) hs1).trans b0;have d1 := (hb2.cell (p := ⟨w.heap.size,1,none⟩) hs1).trans b1;have d2 := (hb2.cell (p := ⟨w.heap.size,2,none⟩) hs1).trans b2;have d3 := (hb2.cell (p := ⟨w.heap.size,3,none⟩) hs1).trans b3;have hs2 : w.heap.size < w2.heap.size := (by have := hb2.size;simp at this;omega)) | (go_at_call 139;(refine (HWC.out w2.heap.size w1.heap.size w2 (by omega) (Nat.le_refl _) (fun k hk => (hb2.block k (Nat.lt_of_lt_of_le hk hB1.size)).trans (hB1.block k hk)) (by simp at hsz2;omega) hW).mono ?_);rintro e w3 ⟨v3,rfl,hG⟩)))
  all_goals
   have hlt := hG.own.lt;obtain ⟨A,cc,rfl,hRr,hl,hm⟩ := own_sliceT hG.own;have hbw : Below w.heap.size w1 w2 := ⟨hb2.os,hb2.tape,hb2.output,hb2.size,fun k hk => hb2.block k (Nat.lt_of_lt_of_le hk hB1.size)⟩;have hfin := (hB1.trans hbw).grown hG.grow (by omega) (fun k h => by cases h);rw [Nat.zero_add,List.nil_append] at hRr;rw [Nat.zero_add] at hl;go_wp2;go_ret2;exact ⟨A,cc,(show _ = Ending.returned (.tuple #[.slice A (0 + bs.length) cc,.int .i64 0]) from rfl).trans (by rw [Nat.zero_add]),hRr,hl,hm,hfin,fun b o e => Nat.le_trans (Nat.le_trans hB1.size hb2.size) (hlt b (by rw [e];rfl)).1⟩
theorem EncPF.pt {bs : List Int} {w : World} {e : Ending} {w' : World} (h : EncPF bs w e w') : EncPT bs w e w' := by
 obtain ⟨A,c,h1,h2,h3,h4,h5,_⟩ := h;exact ⟨A,c,h1,h2,h3,h4,h5⟩
theorem encode_tv (w : World) (A0 : Option Addr) (n0 c0 : Nat) (d : Int) (bs : List Int) (h : FC w w.heap.size (.lst A0 n0 c0) d) (hwc : WC w w.heap.size (.lst A0 n0 c0) bs) (hl0 : bs.length ≤ 600000) : Calls Tryz.prog 42 #[(Tv.lst A0 n0 c0).val] w (EncPT bs w) :=
 (encode_tvF w A0 n0 c0 d bs h hwc hl0).mono fun _ _ h => h.pt
end Go.Proofs.YtifejdpffkeniaaGreatDoor
