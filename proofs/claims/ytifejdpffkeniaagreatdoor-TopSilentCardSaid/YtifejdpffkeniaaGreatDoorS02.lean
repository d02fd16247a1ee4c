import Derived.Laws.EntriesVeiled
import Derived.Lib.AppendStr
import Derived.Lib.AppendZerosOnto
import Derived.Lib.ConvBytes
import Derived.Lib.SliceRun
import Derived.Test.YtifejdpffkeniaaGreatDoorS01
set_option linter.unusedVariables false
set_option maxRecDepth 100000
set_option maxHeartbeats 40000000
namespace Go.Proofs.YtifejdpffkeniaaGreatDoor
open Go.RowKit
structure Wr (w : World) (g : Nat) : Prop where
 c1 : w.cell? ⟨g,1,none⟩ = some (.func (.func 135) #[] #[])
 c2 : w.cell? ⟨g,2,none⟩ = some (.func (.func 138) #[] #[])
 c3 : w.cell? ⟨g,3,none⟩ = some (.func (.func 139) #[] #[.pointer (some ⟨g + 1,0,none⟩)])
 c4 : w.cell? ⟨g + 1,0,none⟩ = some (.pointer (some ⟨g,0,none⟩))
theorem Wr.keep {w w' : World} {g : Nat} (h : Wr w g) (hk : ∀ p : Addr,p.block = g ∨ p.block = g + 1 → w'.cell? p = w.cell? p) : Wr w' g :=
 ⟨(hk _ (.inl rfl)).trans h.c1,(hk _ (.inl rfl)).trans h.c2,(hk _ (.inl rfl)).trans h.c3,(hk _ (.inr rfl)).trans h.c4⟩
theorem writer_any (w : World) : Calls Tryz.prog 98 #[] w fun e w' => e = .returned (.pointer (some ⟨w.heap.size,0,none⟩)) ∧ Wr w' w.heap.size ∧ Below w.heap.size w w' ∧ w'.heap.size = w.heap.size + 2 := by
 go_enter Tryz.func98,Tryz.ntmps98;go_wp2;go_ret;refine ⟨rfl,⟨?_,?_,?_,?_⟩,((Below.refl _ _).alloc (Nat.le_refl _) _).alloc (by simp) _,by simp⟩
 ·rw [World.cell?_alloc_lt _ _ _ (by simp)];exact alloc_cell1 w _ _ _ _
 ·rw [World.cell?_alloc_lt _ _ _ (by simp),cell_of_row _ w.heap.size 2 _ _ _ (heap_alloc_new w _)];rfl
 ·rw [World.cell?_alloc_lt _ _ _ (by simp),cell_of_row _ w.heap.size 3 _ _ _ (heap_alloc_new w _)];rfl
 ·have h := alloc_cell0 (w.alloc (.cells #[.nilFunc,.func (.func 135) #[] #[],.func (.func 138) #[] #[],.func (.func 139) #[] #[.pointer (some ⟨w.heap.size + 1,0,none⟩)]] 208)) (.pointer (some ⟨w.heap.size,0,none⟩)) [] 176
  rwa [World.size_alloc] at h
theorem rd_one (W : World) (t : TypeId) (x : Value) (g : Nat) (hg : g = W.heap.size) : Rd (W.alloc (.cells #[x] t)) (W.alloc (.cells #[x] t)).heap.size 1 (some ⟨g,0,none⟩) 1 [x] := by
 subst hg;refine ⟨rfl,fun _ => ⟨W.heap.size,0,rfl,by simp,fun j u hu => ?_⟩⟩
 match j,hu with
 | 0,hu =>
  simp at hu;subst hu;rw [cell_of_row _ W.heap.size 0 _ _ _ (heap_alloc_new W _)];rfl
theorem Grew.mk1 {base : Nat} {w wp w' : World} {v v' : Value} {n : Nat} {xs ys : List Int} (hpre : w.grownBy wp v.ownBlock) (hown : w'.ownsRow base 5 1 v' (n + ys.length) (xs.map (Value.int .u8) ++ ys.map (Value.int .u8)))
  (hg : wp.grownBy w' v.ownBlock) (hb : v'.ownBlock = v.ownBlock ∨ v'.ownBlock = some wp.heap.size) : Grew base w v n xs w' v' ys := by
 refine ⟨by rw [List.map_append];exact hown,grown_then hpre hg (fun j hj => .inr hj),fun j hj => ?_⟩
 rcases hb with hb | hb
 ·exact .inr (hb ▸ hj)
 ·rw [hb] at hj;injection hj with hj;exact .inl (by rw [← hj];exact hpre.size)
theorem cell_box2 (w : World) (o o' : Obj) {p : Addr} {v : Value} (h : (w.alloc o).cell? p = some v) : ((w.alloc o).alloc o').drew.cell? p = some v := by
 show ((w.alloc o).alloc o').cell? p = some v;rw [World.cell?_alloc_lt _ _ _ (World.block_lt_of_cell? _ _ h)];exact h
theorem own_ne {g H : Nat} {v v1 : Value} (hne : some g ≠ v.ownBlock) (hb : v1.ownBlock = v.ownBlock ∨ v1.ownBlock = some H) (hH : g ≠ H) : some g ≠ v1.ownBlock := by
 rcases hb with hb | hb
 ·rw [hb];exact hne
 ·rw [hb];intro e;injection e with e;exact hH e
theorem w1_any (base : Nat) (v : Value) (n : Nat) (xs : List Int) (z : Nat) (w : World) (hown : w.ownsRow base 5 1 v n (xs.map (Value.int .u8))) (hz : z < 4611686018427387904) (hn : n ≤ 900000) (hbase : base ≤ w.heap.size) :
  Calls Tryz.prog 135 #[v,intV z] w (NumPost base w v n xs (1 :: Cd.numL (2 * z))) := by
 obtain ⟨i0,hi,hz0,hz1,hz2⟩ := info_parts infoU8c;have hne := own_far hown;have hbox : (w.alloc (.cells #[.int .i64 1,.int .i64 z,.string ⟨#[]⟩,.slice none 0 0] 107)).cell? ⟨w.heap.size,1,none⟩ = some (.int .i64 z) := alloc_cell1 w _ _ _ _;unfold intV;go_enter Tryz.func135,Tryz.ntmps135;go_wp2
 go_region_held3 (fun w' => w'.cell? ⟨w.heap.size,1,none⟩ = some (.int .i64 z))
  (first
   | go_keep
   | exact hq1
   | exact (hG.grow.cell_far ⟨w.heap.size,1,none⟩ hlt1 hne1).trans hq1)
  ((first | (go_at_call 137;(with_reducible refine (unsigned_any z hz _).mono ?_);rintro e w' ⟨rfl,rfl⟩) | (go_at_call 136;(refine (numeral_any base v1 (n + 1) (xs ++ [1]) (2 * z) w1 (by simpa using hown1) (by omega) (by omega) (by omega)).mono ?_);rintro e w3 ⟨v3,rfl,hG⟩) | (refine wp_atc (by rfl) (wp_append_rd _ (.tmp 5) (.tmp 6) 57 (by rfl) base 5 i0 _ 1 1 Tryz.underlying57 hi hz0 hz1 hz2 rfl (by omega) v n _ (by rfl) ((hown.alloc _).alloc _).drew _ _ 1 _ [.int .u8 1] (by rfl) (rd_one _ _ _ _ (by simp)).drew (fun u hu => by simp at hu;subst hu;rfl) (by unfold maxLen;omega) (by omega) (by simp;omega) ?_);intro v1 w1 hown1 hg1 hb1;have hq1 := (hg1.cell_far ⟨w.heap.size,1,none⟩ (by simp;omega) hne).trans (cell_box2 w _ _ hbox);have hlt1 : w.heap.size < w1.heap.size := (by have := hg1.size;simp at this;omega);have hne1 := own_ne hne hb1 (by simp;omega))))
 have hG0 : Grew base w v n xs w1 v1 [1] := Grew.mk1 (grown_drew (grown_alloc (World.grownBy_alloc w _ _) _)) hown1 hg1 hb1;have hG2 := hG0.then hG;clear hG0 hG hown1 hg1 hb1 hq1 hne1;go_wp2;go_ret;exact ⟨v3,rfl,hG2⟩
namespace Sh
def sb (c : Cst) (bs : List Int) : Nat → List Int
 | 0 => Hs
 | j + 1 => block c (sb c bs j) ((bs.drop (64 * j)).take 64)
theorem sb_length (c : Cst) (bs : List Int) : ∀ j,(sb c bs j).length = 8
 | 0 => rfl
 | j + 1 => by rw [sb,block_length,sb_length c bs j]
def zer (n : Nat) : List Int := List.replicate n 0
def pre (rest : List Int) : List Int := (rest ++ (zer 128).drop rest.length).set rest.length 128
def tail (rest : List Int) (o : Nat) (n : Int) : List Int := put (pre rest) o 8 n 8
theorem pre_length {rest : List Int} (h : rest.length ≤ 128) : (pre rest).length = 128 := by
 rw [pre,List.length_set,List.length_append,List.length_drop,zer,List.length_replicate];omega
def out (s : List Int) : Nat → List Int
 | 0 => List.replicate 32 0
 | q + 1 => put (out s q) (4 * q) 4 (IntKind.u64.wrap (s.getD q 0)) 4
theorem out_length (s : List Int) : ∀ q,(out s q).length = 32
 | 0 => by rw [out,List.length_replicate]
 | q + 1 => by rw [out,put_length,out_length s q]
def lastState (c : Cst) (bs : List Int) : List Int :=
 if bs.length % 64 ≤ 55 then block c (sb c bs (bs.length / 64)) ((tail (bs.drop (64 * (bs.length / 64))) 56 (bs.length * 8)).take 64)
 else block c (block c (sb c bs (bs.length / 64)) ((tail (bs.drop (64 * (bs.length / 64))) 120 (bs.length * 8)).take 64)) (((tail (bs.drop (64 * (bs.length / 64))) 120 (bs.length * 8)).drop 64).take 64)
def sum (c : Cst) (bs : List Int) : List Int := out (lastState c bs) c.d
theorem sum_length (c : Cst) (bs : List Int) : (sum c bs).length = 32 := out_length _ _
def Byt (x : Int) : Prop := 0 ≤ x ∧ x < 256
theorem byte_bd (n : Int) (i : Nat) : Byt (byte n i) := by
 unfold Byt byte;rw [show IntKind.u8.wrap (n / 2 ^ (8 * i)) = (n / 2 ^ (8 * i)) % 256 by simp [IntKind.wrap,IntKind.bits,IntKind.signed]];omega
theorem put_bytes {l : List Int} (h : ∀ x ∈ l,Byt x) (o m : Nat) (n : Int) : ∀ k,∀ x ∈ put l o m n k,Byt x
 | 0 => h
 | k + 1 => fun x hx => by
  rw [put] at hx
  rcases List.mem_or_eq_of_mem_set hx with h1 | h1
  ·exact put_bytes h o m n k x h1
  ·subst h1;exact byte_bd n k
theorem tail_bytes {rest : List Int} (h : ∀ x ∈ rest,Byt x) (o : Nat) (n : Int) : ∀ x ∈ tail rest o n,Byt x := put_bytes (fun x hx => by
 rcases List.mem_or_eq_of_mem_set hx with h1 | h1
 ·rcases List.mem_append.1 h1 with h2 | h2
  ·exact h x h2
  ·have := List.eq_of_mem_replicate (List.mem_of_mem_drop h2)
   subst this;exact ⟨by decide,by decide⟩
 ·subst h1;exact ⟨by decide,by decide⟩) _ _ _ _
theorem tail_length {rest : List Int} (h : rest.length ≤ 128) (o : Nat) (n : Int) : (tail rest o n).length = 128 := by
 rw [tail,put_length,pre_length h]
end Sh
theorem make128 : ∃ ob : Obj,(∀ W,(Instr.makeSlice 57 (.int .i64 64) (.int .i64 128)).run Tryz.prog W = .ok (.slice (some ⟨W.heap.size,0,none⟩) 64 128) (W.alloc ob)) ∧ ∀ W : World,Ints (W.alloc ob) W.heap.size 5 .u8 (Sh.zer 128) :=
 ⟨.cells ((List.replicate 128 (0 : Int)).map (Value.int .u8)).toArray 5,fun _ => by kernel_rfl,fun W => Ints.new W _ _ _⟩
theorem ints_some {w : World} {g : Nat} {t : TypeId} {k : IntKind} {l : List Int} (h : Ints w g t k l) {i : Nat} (hi : i < l.length) : ∃ y,w.cell? ⟨g,i,none⟩ = some (.int k y) := ⟨_,h.cell hi⟩
theorem wpList_store_same {P : Program} {ops : Array Oper} {rest : List Oper} {o : Oper} {a : Act} {w : World} {Q : Exit → Act → World → Prop} (hgd : o.guard = none) (ty : TypeId) (x y : Operand) (ho : o.op = .store ty x y)
  (g : Nat) (cells : Array Value) (hx : a.eval x = .pointer (some ⟨g,0,none⟩)) (hy : a.eval y = .agg cells)
  (t : TypeId) (hg : w.heap[g]? = some (.cells cells t (0,0))) (hi : (P.info? ty).map (·.size) = some cells.size)
  (h1 : cells.all (·.oneCell') = true) (h : wpList P ops Q rest (a.put o.dst undef) w) : wpList P ops Q (o :: rest) a w :=
 wpList_store_row hgd ty x y ho g cells hx hy t cells hg hi rfl h1 (by rw [setRow_self w g cells t (0,0) hg];exact h)
theorem ints_one (k : IntKind) (l : List Int) : (l.map (Value.int k)).toArray.all (·.oneCell') = true := by
 rw [Array.all_eq_true_iff_forall_mem];intro v hv;obtain ⟨x,_,rfl⟩ := List.mem_map.1 (by simpa using hv)
 rfl
theorem index8 (a b c d e f g h : Int) (q : Nat) (hq : q < 8) (W : World) : (Instr.index 218 (.agg #[.int .u32 a,.int .u32 b,.int .u32 c,.int .u32 d,.int .u32 e,.int .u32 f,.int .u32 g,.int .u32 h]) (.int .i64 q)).run Tryz.prog W = .ok (.int .u32 ([a,b,c,d,e,f,g,h].getD q 0)) W := by
 obtain rfl | rfl | rfl | rfl | rfl | rfl | rfl | rfl : q = 0 ∨ q = 1 ∨ q = 2 ∨ q = 3 ∨ q = 4 ∨ q = 5 ∨ q = 6 ∨ q = 7 := by omega
 all_goals kernel_rfl
theorem slice8 (g q : Nat) (hq : q < 8) (W : World) : (Instr.sliceAt 27 (.pointer (some ⟨g,0,none⟩)) (some (.int .i64 (4 * (q : Int)))) (some (.int .i64 (4 * (q : Int) + 4))) none).run Tryz.prog W = .ok (.slice (some ⟨g,4 * q,none⟩) 4 (32 - 4 * q)) W := by
 obtain rfl | rfl | rfl | rfl | rfl | rfl | rfl | rfl : q = 0 ∨ q = 1 ∨ q = 2 ∨ q = 3 ∨ q = 4 ∨ q = 5 ∨ q = 6 ∨ q = 7 := by omega
 all_goals kernel_rfl
theorem hb_of_grown {w w' : World} {b o n g : Nat} {xs : List Value} (h : Rd w w.heap.size 1 (some ⟨b,o,none⟩) n xs) (hg : w.grownBy w' (some g)) (hne : b ≠ g) : Rd w' w'.heap.size 1 (some ⟨b,o,none⟩) n xs := by
 refine ⟨h.1,fun hn => ?_⟩;obtain ⟨b',o',e,hb,hc⟩ := h.2 hn
 injection e with e
 injection e with e1 e2
 subst e1;subst e2;exact ⟨b,o,rfl,Nat.lt_of_lt_of_le hb hg.size,fun j u hu => hg.cell (hc j u hu) (by simpa using hne)⟩
def lenOf : Value → Nat | .slice _ n _ => n | _ => 0
theorem sum_any (K : Sh.Cst) (A : Option Addr) (n cap : Nat) (bs : List Int) (w : World) (hr : Rd w w.heap.size 1 A n (bs.map (Value.int .u8))) (hbb : ∀ x ∈ bs,0 ≤ x ∧ x < 256)
  (hn : n ≤ 1000000) (hnc : n ≤ cap) (hcap : cap ≤ maxLen) (hL : Laid w) :
  Calls Tryz.prog 144 #[.slice A n cap] w fun e w' => e = .returned (.agg ((Sh.sum K bs).map (Value.int .u8)).toArray) ∧ Below w.heap.size w w' := by
 unfold maxLen at hcap;have hlen : bs.length = n := by simpa using hr.1
 have hKd := Lib.hid K.hd
 have hst : ∀ W,Below 2 w W → ∀ (j : Nat) (v : Value),(Sh.Hs.map (Value.int .u32))[j]? = some v → W.cell? ((⟨0,0,none⟩ : Addr).add j) = some v := fun W hW =>
  ints_cells (fun i hi => by rw [Nat.zero_add];exact (hL.below hW (Nat.le_refl _)).start i hi)
 go_enter Tryz.func144,Tryz.ntmps144
 go_wp2_with (refine wpList_load_cells rfl 217 (.global 0) rfl ⟨0,0,none⟩ (by rfl) [.int .u32 1779033703,.int .u32 3144134277,.int .u32 1013904242,.int .u32 2773480762,.int .u32 1359893119,.int .u32 2600822924,.int .u32 528734635,.int .u32 1541459225] _ (hst _ (by first | exact Below.refl _ _ | exact (Below.refl 2 w).alloc hL.size _ | exact ((Below.refl 2 w).alloc hL.size _).alloc (by simp;have := hL.size;omega) _)) Tryz.underlying217 (by rfl) (by kernel_rfl) ?_)
 have hD := (Ints.new w 27 .u8 (List.replicate 32 0)).alloc (.cells (Sh.Hs.map (Value.int .u32)).toArray 218);have hS := Ints.new (w.alloc (.cells ((List.replicate 32 (0 : Int)).map (Value.int .u8)).toArray 27)) 218 .u32 Sh.Hs;have hB := ((Below.refl w.heap.size w).alloc (Nat.le_refl _) (.cells ((List.replicate 32 (0 : Int)).map (Value.int .u8)).toArray 27)).alloc (by simp) (.cells (Sh.Hs.map (Value.int .u32)).toArray 218);rw [World.size_alloc] at hS
 go_loopw [5] (fun v wr => ∃ (j : Nat) (A' : Option Addr),64 * j ≤ n ∧ v = .slice A' (n - 64 * j) (cap - 64 * j) ∧ Rd wr w.heap.size 1 A' (n - 64 * j) ((bs.drop (64 * j)).map (Value.int .u8)) ∧ Ints wr w.heap.size 27 .u8 (List.replicate 32 0) ∧ Ints wr (w.heap.size + 1) 218 .u32 (Sh.sb K bs j) ∧ Below w.heap.size w wr) (fun v _ => lenOf v)
 case atStart => exact ⟨0,A,by omega,by simp,by have hR0 := hr.below hB;simp only [Nat.mul_zero,Nat.sub_zero,List.drop_zero];exact hR0,hD,hS,hB⟩
 case round =>
  clear hD hS hB hst;obtain ⟨j,A',hj,rfl,hR,hD,hS,hB⟩ := hrel;obtain ⟨m,hm⟩ : ∃ m,n - 64 * j = m := ⟨_,rfl⟩;obtain ⟨c,hc⟩ : ∃ c,cap - 64 * j = c := ⟨_,rfl⟩;rw [hm] at hR ⊢;rw [hc];have hmc : m ≤ c := by omega
  have hcb : c ≤ 9223372036854775807 := by omega
  by_cases h64 : 64 ≤ m
  ·have k1 : (64 : Int) ≤ m := by omega
   have k2 : (64 : Int) ≤ c := by omega
   have k2' : 64 ≤ c := by omega
   obtain ⟨b,o,hA,hb,_⟩ := hR.2 (by omega);subst hA;have HM := Lib.hid hm;have HC := Lib.hid hc;clear hm hc;have hT := (hR.take (k := 64) h64).more hB.size;rw [← List.map_take] at hT;have hTb : ∀ x ∈ (bs.drop (64 * j)).take 64,0 ≤ x ∧ x < 256 := fun x hx => hbb x (List.mem_of_mem_drop (List.mem_of_mem_take hx));have HT := Lib.hid hT;have HTb := Lib.hid hTb;clear hT hTb
   go_wp2_with fail
   refine (absorb_any K (w.heap.size + 1) b o c 218 (Sh.sb K bs j) ((bs.drop (64 * j)).take 64) _ hS (Sh.sb_length K bs j) HT.out HTb.out k2' (by unfold maxLen;omega) (by omega) (hL.below hB hL.size)).mono ?_;rintro e w2 ⟨rfl,hS2,hg2⟩;have hR2 := (hR.cut (k := 64) (cap := c) h64 hmc).grown hg2 hB.size (fun g e => by injection e with e;omega);have hD2 := hD.grown hg2 (by simp);have hB2 := hB.grown hg2 hB.size (fun g e => by injection e with e;omega);have hS2 : Ints w2 (w.heap.size + 1) 218 .u32 (Sh.sb K bs (j + 1)) := hS2
   have HX : Hid (((bs.drop (64 * j)).map (Value.int .u8)).drop (64 * 1) = (bs.drop (64 * (j + 1))).map (Value.int .u8)) := by
    show _ = _;rw [← List.map_drop,List.drop_drop]
    congr 2
   rw [HX.out] at hR2;have HR2 := Lib.hid hR2;clear hR2 hR hD hB hS hg2
   by_cases h4 : c = 64
   ·have h5 : m = 64 := by omega
    subst h4;subst h5;go_wp2;go_roundw
    case rel => exact ⟨j + 1,some ⟨b,o,none⟩,by have := HM.out;omega,by rw [show n - 64 * (j + 1) = 0 by have := HM.out;omega,show cap - 64 * (j + 1) = 0 by have := HC.out;omega],by have h := HR2.out;rw [if_pos trivial] at h;rw [show n - 64 * (j + 1) = 64 - 64 by have := HM.out;omega];exact h,hD2,hS2,hB2⟩
    case measure => simp [lenOf]
   ·go_wp2
    go_roundw
    case rel => exact ⟨j + 1,some ⟨b,o + 64,none⟩,by have := HM.out;omega,by rw [show n - 64 * (j + 1) = m - 64 by have := HM.out;omega,show cap - 64 * (j + 1) = c - 64 by have := HC.out;omega],by have h := HR2.out;rw [if_neg h4] at h;rw [show n - 64 * (j + 1) = m - 64 by have := HM.out;omega];simpa [Addr.add_flat] using h,hD2,hS2,hB2⟩
    case measure => simp [lenOf];omega
  ·have hm64 : m < 64 := by omega
   have hj : j = bs.length / 64 := by omega
   have hml : m = bs.length % 64 := by omega
   have hrl : (bs.drop (64 * j)).length = m := by rw [List.length_drop];omega
   have hrb : ∀ x ∈ bs.drop (64 * j),Sh.Byt x := fun x hx => hbb x (List.mem_of_mem_drop hx);have hm1 : ((bs.length : Nat) : Int) * 8 = (n : Int) * 8 := by rw [hlen]
   obtain ⟨rest,hrest⟩ : ∃ r,bs.drop (64 * j) = r := ⟨_,rfl⟩;rw [hrest] at hR hrl hrb;have hR := Lib.hid hR;have HJ := Lib.hid hj;have HML := Lib.hid hml;have HRL := Lib.hid hrl;have HRB := Lib.hid hrb;have HRE := Lib.hid hrest;have HM1 := Lib.hid hm1;clear hm hc hj hml hrl hrb hrest hm1 hlen;obtain ⟨ob,hmk,hEa⟩ := make128;have hge := hS.lt;have hE := hEa wr;have hD := hD.alloc ob;have hS := hS.alloc ob;have hgr := World.grownBy_alloc wr ob none;clear hEa
   by_cases h55 : m ≤ 55
   ·have k1 : (m : Int) ≤ 55 := by omega
    go_wp2_with ((refine wpList_copy_rd rfl (.tmp 22) (.tmp 23) 57 57 rfl 5 Tryz.underlying57 (by kernel_rfl) wr.heap.size 0 64 128 _ _ _ (by rfl) (by rfl) hE rest (hR.out.alloc hB.size _) (by omega) (by rw [Sh.zer,List.length_replicate,HRL.out];omega) ?_);intro w3 hE0 hgE;have hE3 : Ints w3 wr.heap.size 5 .u8 (rest ++ (Sh.zer 128).drop rest.length) := (by simpa using hE0);clear hE0;obtain ⟨y3,q3⟩ := ints_some hE3 (i := m) (by rw [List.length_append,List.length_drop,Sh.zer,List.length_replicate,HRL.out];omega);have f3 := hE3.frozen m)
    have hP : Ints (w3.setCell ⟨wr.heap.size,m,none⟩ (.int .u8 128)) wr.heap.size 5 .u8 (Sh.pre rest) := by have h := HRL.out;subst h;exact hE3.set_ rest.length 128
    have hgP := grown_set hgE m (.int .u8 128);have hD := hD.grown hgP (by simp;omega);have hS := hS.grown hgP (by simp;omega);have hB := (hB.alloc hB.size ob).grown hgP (by simp;have := hB.size;omega) (fun g e => by injection e with e;have := hB.size;omega);clear hE3 hgE q3 f3 hgP;generalize w3.setCell ⟨wr.heap.size,m,none⟩ (.int .u8 128) = w4 at hP hD hS hB ⊢;refine (put_any wr.heap.size 56 8 72 5 (Sh.pre rest) _ w4 hP (by rw [Sh.pre_length (by rw [HRL.out];omega)];omega) (by omega) (by omega)).mono ?_;rintro e w5 ⟨rfl,hP5,hg5⟩;have hP5 : Ints w5 wr.heap.size 5 .u8 (Sh.tail rest 56 ((n : Int) * 8)) := hP5;have hD5 := hD.grown hg5 (by simp;omega);have hS5 := hS.grown hg5 (by simp;omega);have hB5 := hB.grown hg5 hB.size (fun g e => by injection e with e;omega);clear hP hD hS hB hg5;have hlt := Sh.tail_length (rest := rest) (by rw [HRL.out];omega) 56 ((n : Int) * 8);have htb := Sh.tail_bytes HRB.out 56 ((n : Int) * 8);generalize hT : Sh.tail rest 56 ((n : Int) * 8) = T at *;have HT := Lib.hid hT;have hb5 := hP5.rd 0 64 (by omega);rw [List.drop_zero] at hb5;have hbb5 : ∀ x ∈ T.take 64,0 ≤ x ∧ x < 256 := fun x hx => htb x (List.mem_of_mem_take hx);have HB5 := Lib.hid hb5;have HBB5 := Lib.hid hbb5;have HTL := Lib.hid hlt;clear hT hb5 hbb5 htb hlt
    go_wp2_with fail
    refine wp_loop_rounds 2 ?_;rw [rounds_succ]
    go_wp2_with fail
    refine (absorb_any K (w.heap.size + 1) wr.heap.size 0 128 218 (Sh.sb K bs j) (T.take 64) _ hS5 (Sh.sb_length K bs j) HB5.out HBB5.out (by omega) (by unfold maxLen;omega) (by omega) (hL.below hB5 hL.size)).mono ?_;rintro e w6 ⟨rfl,hS6,hg6⟩;have hD6 := hD5.grown hg6 (by simp);have hB6 := hB5.grown hg6 hB5.size (fun g e => by injection e with e;omega);clear hg6 hS5 hD5 hB5 hP5
    have HLS : Hid (Sh.lastState K bs = Sh.block K (Sh.sb K bs j) (T.take 64)) := by
     show _ = _;have h1 := HJ.out;have h2 := HML.out;have h3 := HRE.out;have h4 := HT.out;have h5 := HM1.out;rw [Sh.lastState,if_pos (by omega),← h1,h3,h5,h4]
    have hFl := (Sh.block_length K (Sh.sb K bs j) (T.take 64)).trans (Sh.sb_length K bs j);generalize Sh.block K (Sh.sb K bs j) (T.take 64) = F at *;go_wp2;rw [rounds_succ];obtain ⟨f0,f1,f2,f3,f4,f5,f6,f7,rfl⟩ := eight hFl;clear hFl
    go_wp2_with (refine wpList_load_row rfl 218 (.tmp 3) rfl (w.heap.size + 1) (by rfl) 218 _ (0,0) _ hS6 Tryz.underlying218 (by rfl) (by kernel_rfl) ?_)
    obtain ⟨ff,hff⟩ : ∃ ff,[f0,f1,f2,f3,f4,f5,f6,f7] = ff := ⟨_,rfl⟩
    go_loopw [54] (fun i wx => ∃ q : Nat,q ≤ 8 ∧ i = .int .i64 q ∧ Ints wx w.heap.size 27 .u8 (Sh.out ff q) ∧ Below w.heap.size w wx) (fun i _ => 8 - (intOf i).toNat)
    case atStart => exact ⟨0,by omega,rfl,hD6,hB6⟩
    case round =>
     clear hD6 hB6 hS6;obtain ⟨q,hq,rfl,hD,hB⟩ := hrel
     by_cases hlt : q < 8
     ·have hix := index8 f0 f1 f2 f3 f4 f5 f6 f7 q hlt
      rw [hff] at hix;have HQ : Hid (Sh.out ff (q + 1) = Sh.put (Sh.out ff q) (4 * q) 4 (IntKind.u64.wrap (ff.getD q 0)) 4) := rfl;generalize ff.getD q 0 = fx at *;have k1 : (q : Int) < 8 := by omega
      have hsl := slice8 w.heap.size q hlt;have k2 : (4 * (q : Int)) ≤ 28 := by omega
      go_wp2_with fail
      refine (put_any w.heap.size (4 * q) 4 (32 - 4 * q) 27 (Sh.out ff q) _ _ hD (by rw [Sh.out_length];omega) (by omega) (by omega)).mono ?_;rintro e w7 ⟨rfl,hD7,hg7⟩;go_wp2;go_roundw
      case rel => exact ⟨q + 1,by omega,by go_num,by rw [HQ.out];exact hD7,hB.grown hg7 hB.size (fun g e => by injection e with e;omega)⟩
      case measure => simp [intOf];omega
     ·have hqd : q = K.d := by have := hKd.out;omega
      rw [hqd] at hD
      have HSum : Hid (Sh.sum K bs = Sh.out ff K.d) := by
       show _ = _;rw [Sh.sum,HLS.out,hff]
      have hDl := Sh.out_length ff K.d;generalize Sh.out ff K.d = D at *
      have hi73 : (Tryz.prog.info? 27).map (·.size) = some ((D.map (Value.int .u8)).toArray.size) := by
       rw [show (D.map (Value.int .u8)).toArray.size = 32 by simp [hDl]]
       kernel_rfl
      clear hDl hqd
      go_wp2_with (first | (refine wpList_load_row rfl 27 (.tmp 2) rfl w.heap.size (by rfl) 27 _ (0,0) _ hD Tryz.underlying27 (by rfl) hi73 ?_) | (refine wpList_store_same rfl 27 (.tmp 2) (.tmp 68) rfl w.heap.size _ (by rfl) (by rfl) 27 hD hi73 (ints_one .u8 D) ?_))
      refine bodyPost_ret (results_cell_row rfl _ _ w.heap.size 27 _ (0,0) _ (by rfl) hD Tryz.underlying27 (by rfl) hi73) rfl ?_;exact ⟨by rw [HSum.out],hB⟩
   ·have k1 : (55 : Int) < m := by omega
    go_wp2_with ((refine wpList_copy_rd rfl (.tmp 22) (.tmp 23) 57 57 rfl 5 Tryz.underlying57 (by kernel_rfl) wr.heap.size 0 64 128 _ _ _ (by rfl) (by rfl) hE rest (hR.out.alloc hB.size _) (by omega) (by rw [Sh.zer,List.length_replicate,HRL.out];omega) ?_);intro w3 hE0 hgE;have hE3 : Ints w3 wr.heap.size 5 .u8 (rest ++ (Sh.zer 128).drop rest.length) := (by simpa using hE0);clear hE0;obtain ⟨y3,q3⟩ := ints_some hE3 (i := m) (by rw [List.length_append,List.length_drop,Sh.zer,List.length_replicate,HRL.out];omega);have f3 := hE3.frozen m)
    have hP : Ints (w3.setCell ⟨wr.heap.size,m,none⟩ (.int .u8 128)) wr.heap.size 5 .u8 (Sh.pre rest) := by have h := HRL.out;subst h;exact hE3.set_ rest.length 128
    have hgP := grown_set hgE m (.int .u8 128);have hD := hD.grown hgP (by simp;omega);have hS := hS.grown hgP (by simp;omega);have hB := (hB.alloc hB.size ob).grown hgP (by simp;have := hB.size;omega) (fun g e => by injection e with e;have := hB.size;omega);clear hE3 hgE q3 f3 hgP;generalize w3.setCell ⟨wr.heap.size,m,none⟩ (.int .u8 128) = w4 at hP hD hS hB ⊢;refine (put_any wr.heap.size 120 8 8 5 (Sh.pre rest) _ w4 hP (by rw [Sh.pre_length (by rw [HRL.out];omega)];omega) (by omega) (by omega)).mono ?_;rintro e w5 ⟨rfl,hP5,hg5⟩;have hP5 : Ints w5 wr.heap.size 5 .u8 (Sh.tail rest 120 ((n : Int) * 8)) := hP5;have hD5 := hD.grown hg5 (by simp;omega);have hS5 := hS.grown hg5 (by simp;omega);have hB5 := hB.grown hg5 hB.size (fun g e => by injection e with e;omega);clear hP hD hS hB hg5;have hlt := Sh.tail_length (rest := rest) (by rw [HRL.out];omega) 120 ((n : Int) * 8);have htb := Sh.tail_bytes HRB.out 120 ((n : Int) * 8);generalize hT : Sh.tail rest 120 ((n : Int) * 8) = T at *;have HT := Lib.hid hT;have hb5 := hP5.rd 0 64 (by omega);rw [List.drop_zero] at hb5;have hbb5 : ∀ x ∈ T.take 64,0 ≤ x ∧ x < 256 := fun x hx => htb x (List.mem_of_mem_take hx);have hb5b := hP5.rd 64 64 (by omega);have hbb5b : ∀ x ∈ (T.drop 64).take 64,0 ≤ x ∧ x < 256 := fun x hx => htb x (List.mem_of_mem_drop (List.mem_of_mem_take hx));have HB5b := Lib.hid hb5b;have HBB5b := Lib.hid hbb5b;clear hb5b hbb5b;have HB5 := Lib.hid hb5;have HBB5 := Lib.hid hbb5;have HTL := Lib.hid hlt;clear hT hb5 hbb5 htb hlt
    go_wp2_with fail
    refine wp_loop_rounds 3 ?_;rw [rounds_succ]
    go_wp2_with fail
    refine (absorb_any K (w.heap.size + 1) wr.heap.size 0 128 218 (Sh.sb K bs j) (T.take 64) _ hS5 (Sh.sb_length K bs j) HB5.out HBB5.out (by omega) (by unfold maxLen;omega) (by omega) (hL.below hB5 hL.size)).mono ?_;rintro e w6 ⟨rfl,hS6,hg6⟩;have hD6 := hD5.grown hg6 (by simp);have hB6 := hB5.grown hg6 hB5.size (fun g e => by injection e with e;omega);have hE6 := Lib.hid (hb_of_grown HB5b.out hg6 (by simp;omega));have hg6s := hg6.size;clear hg6 hS5 hD5 hB5 hP5;have HSL := Lib.hid ((Sh.block_length K (Sh.sb K bs j) (T.take 64)).trans (Sh.sb_length K bs j));go_wp2;rw [rounds_succ]
    go_wp2_with fail
    refine (absorb_any K (w.heap.size + 1) wr.heap.size 64 64 218 (Sh.block K (Sh.sb K bs j) (T.take 64)) ((T.drop 64).take 64) _ hS6 HSL.out hE6.out HBB5b.out (by omega) (by unfold maxLen;omega) (by omega) (hL.below hB6 hL.size)).mono ?_;rintro e w7 ⟨rfl,hS7,hg7⟩;have hD7 := hD6.grown hg7 (by simp);have hB7 := hB6.grown hg7 hB6.size (fun g e => by injection e with e;omega);clear hg7 hS6 hD6 hB6
    have HLS : Hid (Sh.lastState K bs = Sh.block K (Sh.block K (Sh.sb K bs j) (T.take 64)) ((T.drop 64).take 64)) := by
     show _ = _;have h1 := HJ.out;have h2 := HML.out;have h3 := HRE.out;have h4 := HT.out;have h5 := HM1.out;rw [Sh.lastState,if_neg (by omega),← h1,h3,h5,h4]
    have hFl := (Sh.block_length K (Sh.block K (Sh.sb K bs j) (T.take 64)) ((T.drop 64).take 64)).trans ((Sh.block_length K (Sh.sb K bs j) (T.take 64)).trans (Sh.sb_length K bs j));generalize Sh.block K (Sh.block K (Sh.sb K bs j) (T.take 64)) ((T.drop 64).take 64) = F at *;have hS6 := hS7;have hD6 := hD7;have hB6 := hB7;clear hS7 hD7 hB7;go_wp2;rw [rounds_succ];obtain ⟨f0,f1,f2,f3,f4,f5,f6,f7,rfl⟩ := eight hFl;clear hFl
    go_wp2_with (refine wpList_load_row rfl 218 (.tmp 3) rfl (w.heap.size + 1) (by rfl) 218 _ (0,0) _ hS6 Tryz.underlying218 (by rfl) (by kernel_rfl) ?_)
    obtain ⟨ff,hff⟩ : ∃ ff,[f0,f1,f2,f3,f4,f5,f6,f7] = ff := ⟨_,rfl⟩
    go_loopw [54] (fun i wx => ∃ q : Nat,q ≤ 8 ∧ i = .int .i64 q ∧ Ints wx w.heap.size 27 .u8 (Sh.out ff q) ∧ Below w.heap.size w wx) (fun i _ => 8 - (intOf i).toNat)
    case atStart => exact ⟨0,by omega,rfl,hD6,hB6⟩
    case round =>
     clear hD6 hB6 hS6;obtain ⟨q,hq,rfl,hD,hB⟩ := hrel
     by_cases hlt : q < 8
     ·have hix := index8 f0 f1 f2 f3 f4 f5 f6 f7 q hlt
      rw [hff] at hix;have HQ : Hid (Sh.out ff (q + 1) = Sh.put (Sh.out ff q) (4 * q) 4 (IntKind.u64.wrap (ff.getD q 0)) 4) := rfl;generalize ff.getD q 0 = fx at *;have k1 : (q : Int) < 8 := by omega
      have hsl := slice8 w.heap.size q hlt;have k2 : (4 * (q : Int)) ≤ 28 := by omega
      go_wp2_with fail
      refine (put_any w.heap.size (4 * q) 4 (32 - 4 * q) 27 (Sh.out ff q) _ _ hD (by rw [Sh.out_length];omega) (by omega) (by omega)).mono ?_;rintro e w7 ⟨rfl,hD7,hg7⟩;go_wp2;go_roundw
      case rel => exact ⟨q + 1,by omega,by go_num,by rw [HQ.out];exact hD7,hB.grown hg7 hB.size (fun g e => by injection e with e;omega)⟩
      case measure => simp [intOf];omega
     ·have hqd : q = K.d := by have := hKd.out;omega
      rw [hqd] at hD
      have HSum : Hid (Sh.sum K bs = Sh.out ff K.d) := by
       show _ = _;rw [Sh.sum,HLS.out,hff]
      have hDl := Sh.out_length ff K.d;generalize Sh.out ff K.d = D at *
      have hi73 : (Tryz.prog.info? 27).map (·.size) = some ((D.map (Value.int .u8)).toArray.size) := by
       rw [show (D.map (Value.int .u8)).toArray.size = 32 by simp [hDl]]
       kernel_rfl
      clear hDl hqd
      go_wp2_with (first | (refine wpList_load_row rfl 27 (.tmp 2) rfl w.heap.size (by rfl) 27 _ (0,0) _ hD Tryz.underlying27 (by rfl) hi73 ?_) | (refine wpList_store_same rfl 27 (.tmp 2) (.tmp 68) rfl w.heap.size _ (by rfl) (by rfl) 27 hD hi73 (ints_one .u8 D) ?_))
      refine bodyPost_ret (results_cell_row rfl _ _ w.heap.size 27 _ (0,0) _ (by rfl) hD Tryz.underlying27 (by rfl) hi73) rfl ?_;exact ⟨by rw [HSum.out],hB⟩
theorem infoU8 : (Tryz.prog.info? 5).map (fun i => (i.zero,i.size,i.bytes)) = some (some (.int .u8 0),1,1) := by kernel_rfl
def GrowPost (w : World) (e : Ending) (w' : World) : Prop := ∃ G : Nat,e = .returned (.slice (some ⟨w.heap.size,0,none⟩) 0 G) ∧ w'.ownsRow w.heap.size 5 1 (.slice (some ⟨w.heap.size,0,none⟩) 0 G) 0 [] ∧ Below w.heap.size w w'
theorem grow_nil (n : Nat) (h1 : 1 ≤ n) (h2 : n ≤ 1000000) (w : World) : Calls Tryz.prog 150 #[.slice none 0 0,.int .i64 n] w (GrowPost w) := by
 obtain ⟨i0,hi,hz0,hz1,hz2⟩ := info_parts infoU8
 have hrz : ∀ ty,(Builtin.append_ #[57,3] ty #[.slice none 0 0,.int .i64 n]).run Tryz.prog w =
   .ok (.slice (some ⟨w.heap.size,0,none⟩) n (grownCap w n 0 5)) (w.drew.alloc (.cells (#[] ++ Builtin.zeroCells (Value.int .u8 0).cells n ++ Builtin.zeroCells (Value.int .u8 0).cells (grownCap w n 0 5 - n)) 5)) := fun ty => by
  have h := Lib.run_append_grow_zeros w 57 3 ty 5 i0 (.int .u8 0) .i64 .i64 Tryz.underlying57 Tryz.underlying3 hi hz0 none 0 0 [] (run_firstCells_none w.drew i0.size 0 0 0) n h1 (by rw [hz1];decide) (by omega) (by omega) (by rw [hz2];omega)
   (by rw [hz2];exact growslice_fits (by omega) (by omega))
  simpa using h
 have hG := grownCap_ge w n 0 5;have hGm := grownCap_le_maxLen w n 0 5 (by unfold maxLen;omega);obtain ⟨G,hGe⟩ : ∃ G,G = grownCap w n 0 5 := ⟨_,rfl⟩;rw [← hGe] at hrz hG hGm
 have hcz : (#[] ++ Builtin.zeroCells (Value.int .u8 0).cells n ++ Builtin.zeroCells (Value.int .u8 0).cells (G - n)).size = G := by
  simp only [Array.size_append,size_zeroCells];simp [Value.cells];omega
 obtain ⟨cz,hcze⟩ : ∃ c,#[] ++ Builtin.zeroCells (Value.int .u8 0).cells n ++ Builtin.zeroCells (Value.int .u8 0).cells (G - n) = c := ⟨_,rfl⟩;rw [hcze] at hrz hcz;clear hcze hGe;have HC := Lib.hid hcz;have HG := Lib.hid hGm;have hG9 : (G : Int) ≤ 9223372036854775807 := by unfold maxLen at hGm;omega
 clear hcz hGm;go_enter Tryz.func150,Tryz.ntmps150
 go_wp2_with (at_builtin;refine Lib.wpList_append_run _ rfl _ _ _ _ rfl _ _ rfl rfl _ _ (hrz _) ?_)
 go_ret;refine ⟨G,rfl,⟨by simp,.inr ⟨w.heap.size,G,cz,rfl,Nat.le_refl _,heap_alloc_new w.drew _,Nat.zero_le _,HG.out,by rw [HC.out,Nat.mul_one],by simp⟩⟩,(Below.refl _ w).drew.alloc (Nat.le_refl _) _⟩
def BytesPost (bs : List Int) (w : World) (e : Ending) (w' : World) : Prop :=
 ∃ (A : Option Addr) (c : Nat),e = .returned (.slice A bs.length c) ∧ Rd w' w'.heap.size 1 A bs.length (bs.map (Value.int .u8)) ∧ bs.length ≤ c ∧ c ≤ maxLen ∧ Below w.heap.size w w'
theorem own_slice' {w : World} {base : Nat} {e : TypeId} {v : Value} {size n : Nat} {xs : List Value} (h : w.ownsRow base e size v n xs) : ∃ A c,v = .slice A n c ∧ Rd w w.heap.size size A n xs ∧ n ≤ c ∧ c ≤ maxLen := by
 have h0 := h
 rcases h.2 with ⟨rfl,rfl⟩ | ⟨g,cap,cur,rfl,_,_,h1,h2,_⟩
 ·exact ⟨_,_,rfl,⟨h0.1,fun h => absurd h (by omega)⟩,Nat.le_refl _,Nat.zero_le _⟩
 ·exact ⟨_,_,rfl,Rd.of_own h0,h1,h2⟩
theorem u8_one (l : List Int) : ∀ u ∈ l.map (Value.int .u8),u.oneCell' = true := by
 intro u hu;obtain ⟨x,_,rfl⟩ := List.mem_map.1 hu
 rfl
theorem concat2 (g : Nat) (A1 A2 : Option Addr) (n1 n2 c1 c2 : Nat) (x1 x2 : List Int) (w : World) (h1 : w.cell? ⟨g,0,none⟩ = some (.slice A1 n1 c1)) (h2 : w.cell? ⟨g,1,none⟩ = some (.slice A2 n2 c2))
  (r1 : Rd w w.heap.size 1 A1 n1 (x1.map (Value.int .u8))) (r2 : Rd w w.heap.size 1 A2 n2 (x2.map (Value.int .u8))) (hp : 1 ≤ n1 + n2) (hn : n1 + n2 ≤ 1000000) (hg : g < w.heap.size) :
  Calls Tryz.prog 145 #[.slice (some ⟨g,0,none⟩) 2 2] w (BytesPost (x1 ++ x2) w) := by
 obtain ⟨i0,hi,hz0,hz1,hz2⟩ := info_parts infoU8;have l1 : x1.length = n1 := by simpa using r1.1
 have l2 : x2.length = n2 := by simpa using r2.1
 have L1 := Lib.hid l1;have L2 := Lib.hid l2;clear l1 l2;have b1 : (n1 : Int) ≤ 1000000 := by omega
 have b2 : (n2 : Int) ≤ 1000000 := by omega
 have b3 : (1 : Int) ≤ (n1 : Int) + n2 := by omega
 have hgn : ∀ w,Calls Tryz.prog 150 #[.slice none 0 0,.int .i64 ((n1 : Int) + n2)] w (GrowPost w) := fun w => by
  have h := grow_nil (n1 + n2) hp hn w
  rwa [Int.natCast_add] at h
 have HR1 := Lib.hid r1;have HR2 := Lib.hid r2;clear r1 r2;go_enter Tryz.func145,Tryz.ntmps145;go_wp2;refine wp_loop_rounds 3 ?_;rw [rounds_succ];go_wp2;rw [rounds_succ];go_wp2;rw [rounds_succ]
 go_wp2_with fail
 refine (hgn _).mono ?_;rintro e w1 ⟨G,rfl,hown,hb⟩;have T : One w w.heap.size w1 5 1 _ 0 [] := ⟨hown,hb,hb.size⟩;clear hown hgn;have h1 := (hb.cell (p := ⟨g,0,none⟩) hg).trans h1;have h2a := (hb.cell (p := ⟨g,1,none⟩) hg).trans h2;go_wp2;refine wp_loop_rounds 3 ?_;rw [rounds_succ]
 go_wp2_with (at_builtin;refine wpList_append_rd _ rfl (.tmp 31) (.tmp 32) 57 rfl w.heap.size 5 i0 _ 1 1 Tryz.underlying57 hi hz0 hz1 hz2 rfl (by omega) _ 0 _ (by rfl) T.own w.heap.size _ n1 _ _ (by rfl) (HR1.out.below T.bel) (u8_one _) (by unfold maxLen;omega) (by omega) T.size ?_;intro v2 w2 hown2 hg2 _)
 have T2 := T.grew hown2 hg2;clear hown2 hg2 T h1 h2a;have h2b := (T2.bel.cell (p := ⟨g,1,none⟩) hg).trans h2;rw [rounds_succ]
 go_wp2_with (at_builtin;refine wpList_append_rd _ rfl (.tmp 31) (.tmp 32) 57 rfl w.heap.size 5 i0 _ 1 1 Tryz.underlying57 hi hz0 hz1 hz2 rfl (by omega) _ (0 + n1) _ (by rfl) T2.own w.heap.size _ n2 _ _ (by rfl) (HR2.out.below T2.bel) (u8_one _) (by unfold maxLen;omega) (by omega) T2.size ?_;intro v3 w3 hown3 hg3 _)
 have T3 := T2.grew hown3 hg3;clear hown3 hg3 T2 h2b;rw [rounds_succ];obtain ⟨A,c,rfl,hR,hlc,hcm⟩ := own_slice' T3.own;go_wp2;go_ret;refine ⟨A,c,?_,?_,?_,hcm,T3.bel⟩
 ·have e1 := L1.out
  have e2 := L2.out;rw [List.length_append,e1,e2]
  first | done | rfl | simp
 ·rw [List.length_append,L1.out,L2.out,List.map_append]
  rw [Nat.zero_add] at hR;exact hR
 ·rw [List.length_append,L1.out,L2.out];omega
theorem wpList_store_ints {P : Program} {ops : Array Oper} {rest : List Oper} {o : Oper} {a : Act} {w : World} {Q : Exit → Act → World → Prop} (hgd : o.guard = none) (ty : TypeId) (x y : Operand) (ho : o.op = .store ty x y)
  (g : Nat) (k : IntKind) (l : List Int) (hx : a.eval x = .pointer (some ⟨g,0,none⟩)) (hy : a.eval y = .agg (l.map (Value.int k)).toArray)
  (t : TypeId) (l0 : List Int) (hg : Ints w g t k l0) (hl : l0.length = l.length) (hi : (P.info? ty).map (·.size) = some l.length)
  (h : ∀ w',Ints w' g t k l → w.grownBy w' (some g) → wpList P ops Q rest (a.put o.dst undef) w') : wpList P ops Q (o :: rest) a w :=
 wpList_store_row hgd ty x y ho g _ hx hy t _ hg (by simpa using hi) (by simpa using hl) (ints_one k l) (h _ (setRow_heap w g _ _ t _ hg) (grown_row _))
def strInts (s : ByteArray) : List Int := s.data.toList.map fun b => (b.toNat : Int)
theorem strInts_length (s : ByteArray) : (strInts s).length = s.size := by simp [strInts]
theorem strInts_byt (s : ByteArray) : ∀ x ∈ strInts s,0 ≤ x ∧ x < 256 := by
 intro x hx;obtain ⟨b,_,rfl⟩ := List.mem_map.1 hx;have := b.toNat_lt;omega
theorem conv_bytes (w : World) (s : ByteArray) : Rd (Lib.bytesWorld w 5 s) (Lib.bytesWorld w 5 s).heap.size 1 (some ⟨w.heap.size,0,none⟩) s.size ((strInts s).map (Value.int .u8)) ∧ Below w.heap.size w (Lib.bytesWorld w 5 s) := by
 refine ⟨⟨by simp [strInts_length],fun hn => ⟨w.heap.size,0,rfl,by rw [Lib.bytesWorld_size];omega,fun j u hu => ?_⟩⟩,⟨rfl,rfl,rfl,by rw [Lib.bytesWorld_size];omega,fun k hk => Lib.bytesWorld_at_old w _ s k hk⟩⟩;rw [List.getElem?_map,Option.map_eq_some_iff] at hu;obtain ⟨x,hx,rfl⟩ := hu;have hj : j < s.size := by have := (List.getElem?_eq_some_iff.1 hx).1;rwa [strInts_length] at this
 rw [Nat.zero_add,Lib.bytesWorld_cell w _ s j hj];unfold strInts at hx;rw [List.getElem?_map,Option.map_eq_some_iff] at hx;obtain ⟨b,hb,rfl⟩ := hx;rw [List.getD_eq_getElem?_getD,hb];rfl
namespace Sh
def tagged (c : Cst) (t bs : List Int) : List Int := sum c (sum c t ++ bs)
theorem tagged_length (c : Cst) (t bs : List Int) : (tagged c t bs).length = 32 := sum_length _ _
theorem out_bytes (s : List Int) : ∀ q,∀ x ∈ out s q,Byt x
 | 0 => fun x hx => by have := List.eq_of_mem_replicate hx;subst this;exact ⟨by decide,by decide⟩
 | q + 1 => put_bytes (out_bytes s q) _ _ _ _
theorem sum_bytes (c : Cst) (bs : List Int) : ∀ x ∈ sum c bs,Byt x := out_bytes _ _
end Sh
theorem tagged_any (K : Sh.Cst) (s : ByteArray) (A : Option Addr) (n cap : Nat) (bs : List Int) (w : World) (hs : s.size ≤ 1000) (hr : Rd w w.heap.size 1 A n (bs.map (Value.int .u8))) (hbb : ∀ x ∈ bs,0 ≤ x ∧ x < 256)
  (hn : n ≤ 100000) (hnc : n ≤ cap) (hcap : cap ≤ maxLen) (hL : Laid w) :
  Calls Tryz.prog 124 #[.string s,.slice A n cap] w fun e w' => e = .returned (.agg ((Sh.tagged K (strInts s) bs).map (Value.int .u8)).toArray) ∧ Below w.heap.size w w' := by
 have hcv := fun W => Lib.run_convert_string_bytes (P := Tryz.prog) W 9 57 5 s Tryz.underlying9 Tryz.underlying57 Tryz.underlying5;go_enter Tryz.func124,Tryz.ntmps124;have hcb := conv_bytes (w.alloc (.cells ((List.replicate 32 (0 : Int)).map (Value.int .u8)).toArray 27)) s;have hc1 := grownCap_ge (w.alloc (.cells ((List.replicate 32 (0 : Int)).map (Value.int .u8)).toArray 27)) s.size 0 5;have hc2 := grownCap_le_maxLen (w.alloc (.cells ((List.replicate 32 (0 : Int)).map (Value.int .u8)).toArray 27)) s.size 0 5 (by unfold maxLen;omega);rw [World.size_alloc] at hcb;obtain ⟨hR1,hb1⟩ := hcb;have hB1 := ((Below.refl w.heap.size w).alloc (Nat.le_refl _) (.cells ((List.replicate 32 (0 : Int)).map (Value.int .u8)).toArray 27)).trans (hb1.mono (by omega));have hD := (Ints.new w 27 .u8 (List.replicate 32 0)).below hb1 (by omega);have HR := Lib.hid hr;clear hb1 hr;have HF := Lib.hid (And.intro hR1 (And.intro hc1 (And.intro hc2 (And.intro hB1 hD))));clear hR1 hc1 hc2 hB1 hD
 go_wp2_with fail
 obtain ⟨hR1,hc1,hc2,hB1,hD⟩ := HF.out;refine (sum_any K _ s.size _ (strInts s) _ hR1 (strInts_byt s) (by omega) hc1 hc2 (hL.below hB1 hL.size)).mono ?_;rintro e w2 ⟨rfl,hb2⟩;have hD2 := hD.below hb2 hD.lt;have hB2 := hB1.trans (hb2.mono hB1.size);have hs2 := Nat.le_trans hB1.size hb2.size;have hdw := hD2.lt;clear HF hR1 hc1 hc2 hB1 hD hb2 hcv;have hT := Sh.sum_length K (strInts s);have hTb := Sh.sum_bytes K (strInts s);obtain ⟨T,hTe⟩ : ∃ T,Sh.sum K (strInts s) = T := ⟨_,rfl⟩;rw [hTe] at hT hTb ⊢;have HTE := Lib.hid hTe;have hi73 : (Tryz.prog.info? 27).map (·.size) = some T.length := by rw [hT];kernel_rfl
 have HT := Lib.hid hT;have HTB := Lib.hid hTb;clear hTe hT hTb;have hN := Ints.new w2 27 .u8 (List.replicate 32 0)
 go_wp2_with (refine wpList_store_ints rfl 27 (.tmp 5) (.tmp 8) rfl w2.heap.size .u8 T (by rfl) (by rfl) 27 _ hN (by rw [HT.out];rfl) hi73 ?_;intro w3 hN3 hg3)
 have hs23 : w2.heap.size < w3.heap.size := hN3.lt;have hD3 := (hD2.alloc _).grown hg3 (by simp;omega);have hB3 := (hB2.alloc hs2 _).grown hg3 (by simp;omega) (fun g e => by injection e with e;omega)
 have r1 : Rd w3 w3.heap.size 1 (some ⟨w2.heap.size,0,none⟩) 32 (T.map (Value.int .u8)) := by
  have h := hN3.rd 0 32 (by rw [HT.out];omega);rw [List.drop_zero,List.take_of_length_le (by rw [HT.out];omega)] at h;exact h
 have r2 := (HR.out.below hB3).more hB3.size;have r1 := (r1.alloc (Nat.le_refl _) (.cells #[.slice (some ⟨w2.heap.size,0,none⟩) 32 32,.slice A n cap] 57)).more (B' := (w3.alloc (.cells #[.slice (some ⟨w2.heap.size,0,none⟩) 32 32,.slice A n cap] 57)).heap.size) (by simp);have r2 := (r2.alloc (Nat.le_refl _) (.cells #[.slice (some ⟨w2.heap.size,0,none⟩) 32 32,.slice A n cap] 57)).more (B' := (w3.alloc (.cells #[.slice (some ⟨w2.heap.size,0,none⟩) 32 32,.slice A n cap] 57)).heap.size) (by simp);refine (concat2 w3.heap.size _ _ 32 n 32 cap T bs _ (alloc_cell0 w3 _ [.slice A n cap] _) (alloc_cell1 w3 _ _ [] _) r1 r2 (by omega) (by omega) (by simp)).mono ?_;rintro e w4 ⟨A4,c4,rfl,hR4,hl4,hc4,hb4⟩;have hD4 := (hD3.alloc (.cells #[.slice (some ⟨w2.heap.size,0,none⟩) 32 32,.slice A n cap] 57)).below hb4 (by simp;have := hD3.lt;omega);have hB4 := (hB3.alloc hB3.size (.cells #[.slice (some ⟨w2.heap.size,0,none⟩) 32 32,.slice A n cap] 57)).trans (hb4.mono (by simp;have := hB3.size;omega));clear r1 r2 hb4 hN hN3 hg3 hD2 hB2 hD3 hB3;have hTl : (T ++ bs).length = 32 + n := by rw [List.length_append,HT.out];have := HR.out.1;simp at this;omega
 have hTbb : ∀ x ∈ T ++ bs,0 ≤ x ∧ x < 256 := fun x hx => by
  rcases List.mem_append.1 hx with h | h
  ·exact HTB.out x h
  ·exact hbb x h
 rw [hTl] at hR4 hl4 ⊢;clear hTl;have HR4 := Lib.hid hR4;have HTBB := Lib.hid hTbb;clear hR4 hTbb
 go_wp2_with fail
 refine (sum_any K A4 (32 + n) c4 (T ++ bs) _ HR4.out HTBB.out (by omega) hl4 hc4 (hL.below hB4 hL.size)).mono ?_;rintro e w5 ⟨rfl,hb5⟩;have hD5 := hD4.below hb5 hD4.lt;have hB5 := hB4.trans (hb5.mono hB4.size);clear hD4 hB4 hb5
 have HG : Hid (Sh.tagged K (strInts s) bs = Sh.sum K (T ++ bs)) := by
  show _ = _;rw [Sh.tagged,HTE.out]
 have hUl := Sh.sum_length K (T ++ bs);generalize Sh.sum K (T ++ bs) = U at *;have hi73' : (Tryz.prog.info? 27).map (·.size) = some U.length := by rw [hUl];kernel_rfl
 have HUl := Lib.hid hUl;clear hUl hi73
 go_wp2_with (refine wpList_store_ints rfl 27 (.tmp 4) (.tmp 13) rfl w.heap.size .u8 U (by rfl) (by rfl) 27 _ hD5 (by rw [HUl.out];rfl) hi73' ?_;intro w6 hD6 hg6)
 refine bodyPost_ret (results_cell_row rfl _ _ w.heap.size 27 _ (0,0) _ (by rfl) hD6 Tryz.underlying27 (by rfl) (by simpa using hi73')) rfl ?_;exact ⟨by rw [HG.out],hB5.grown hg6 hB5.size (fun g e => by injection e with e;omega)⟩
def uns (z : Int) : Nat := if 0 ≤ z then (2 * z).toNat else (-2 * z - 1).toNat
theorem u64_mod (n : Int) : IntKind.u64.wrap n = n % 18446744073709551616 := by simp [IntKind.wrap,IntKind.bits,IntKind.signed]
theorem uns_lt {z : Int} (h : -9223372036854775808 ≤ z ∧ z < 9223372036854775808) : uns z < 18446744073709551616 := by
 unfold uns;split <;> omega
theorem xor_any (x : Int) : bits .xor .u64 x 0 = x % 18446744073709551616 := by
 have e : bits .xor .u64 x 0 = IntKind.u64.wrap (((BitVec.ofInt 64 x ^^^ 0#64).toNat : Nat) : Int) := rfl;rw [e,BitVec.xor_zero,BitVec.toNat_ofInt,u64_mod];omega
theorem xor_ones (x : Int) : bits .xor .u64 x 18446744073709551615 = 18446744073709551615 - x % 18446744073709551616 := by
 have e : bits .xor .u64 x 18446744073709551615 = IntKind.u64.wrap (((BitVec.ofInt 64 x ^^^ BitVec.allOnes 64).toNat : Nat) : Int) := rfl;rw [e,BitVec.xor_allOnes,BitVec.toNat_not,BitVec.toNat_ofInt,u64_mod];omega
theorem unsigned_I (z : Int) (h : -9223372036854775808 ≤ z ∧ z < 9223372036854775808) (w : World) : Calls Tryz.prog 137 #[.int .i64 z] w fun e w' => e = .returned (.int .u64 (uns z : Int)) ∧ w = w' := by
 obtain ⟨h1,h2⟩ := h;have ha := xor_any;have ho := xor_ones;have HA := Lib.hid ha;have HO := Lib.hid ho;clear ha ho
 by_cases h0 : 0 ≤ z
 ·have e0 : z / 9223372036854775808 = 0 := by omega
  have hu : (uns z : Int) = 2 * z := by unfold uns;rw [if_pos h0];omega
  have HU := Lib.hid hu;clear hu;go_enter Tryz.func137,Tryz.ntmps137;go_wp2;go_ret;exact ⟨retI (by rw [HU.out,HA.out];omega),rfl⟩
 ·have e0 : z / 9223372036854775808 = -1 := by omega
  have hu : (uns z : Int) = -2 * z - 1 := by unfold uns;rw [if_neg h0];omega
  have HU := Lib.hid hu;clear hu;go_enter Tryz.func137,Tryz.ntmps137;go_wp2;go_ret;exact ⟨retI (by rw [HU.out,show IntKind.u64.wrap (-1) = 18446744073709551615 from rfl,HO.out,u64_mod,u64_mod];omega),rfl⟩
theorem w1I_any (base : Nat) (v : Value) (n : Nat) (xs : List Int) (z : Int) (w : World) (hown : w.ownsRow base 5 1 v n (xs.map (Value.int .u8))) (hz : -9223372036854775808 ≤ z ∧ z < 9223372036854775808) (hn : n ≤ 900000) (hbase : base ≤ w.heap.size) :
  Calls Tryz.prog 135 #[v,intV z] w (NumPost base w v n xs (1 :: Cd.numL (uns z))) := by
 obtain ⟨i0,hi,hz0,hz1,hz2⟩ := info_parts infoU8c;have hne := own_far hown;have hbox : (w.alloc (.cells #[.int .i64 1,.int .i64 z,.string ⟨#[]⟩,.slice none 0 0] 107)).cell? ⟨w.heap.size,1,none⟩ = some (.int .i64 z) := alloc_cell1 w _ _ _ _;have hun := unsigned_I z hz;have hul := uns_lt hz;generalize uns z = u at *;unfold intV;go_enter Tryz.func135,Tryz.ntmps135;go_wp2
 go_region_held3 (fun w' => w'.cell? ⟨w.heap.size,1,none⟩ = some (.int .i64 z))
  (first
   | (go_keep;done)
   | exact hq1
   | exact (hG.grow.cell_far ⟨w.heap.size,1,none⟩ hlt1 hne1).trans hq1)
  ((first | (go_at_call 137;(with_reducible refine (hun _).mono ?_);rintro e w' ⟨rfl,rfl⟩) | (go_at_call 136;(refine (numeral_any base v1 (n + 1) (xs ++ [1]) u w1 (by simpa using hown1) (by omega) (by omega) (by omega)).mono ?_);rintro e w3 ⟨v3,rfl,hG⟩) | (refine wp_atc (by rfl) (wp_append_rd _ (.tmp 5) (.tmp 6) 57 (by rfl) base 5 i0 _ 1 1 Tryz.underlying57 hi hz0 hz1 hz2 rfl (by omega) v n _ (by rfl) ((hown.alloc _).alloc _).drew _ _ 1 _ [.int .u8 1] (by rfl) (rd_one _ _ _ _ (by simp)).drew (fun u hu => by simp at hu;subst hu;rfl) (by unfold maxLen;omega) (by omega) (by simp;omega) ?_);intro v1 w1 hown1 hg1 hb1;have hq1 := (hg1.cell_far ⟨w.heap.size,1,none⟩ (by simp;omega) hne).trans (cell_box2 w _ _ hbox);have hlt1 : w.heap.size < w1.heap.size := (by have := hg1.size;simp at this;omega);have hne1 := own_ne hne hb1 (by simp;omega)) | fail))
 have hG0 : Grew base w v n xs w1 v1 [1] := Grew.mk1 (grown_drew (grown_alloc (World.grownBy_alloc w _ _) _)) hown1 hg1 hb1;have hG2 := hG0.then hG;clear hG0 hG hown1 hg1 hb1 hq1 hne1;go_wp2;go_ret;exact ⟨v3,rfl,hG2⟩
end Go.Proofs.YtifejdpffkeniaaGreatDoor
namespace Go.Proofs.YtifejdpffkeniaaGreatDoor
open Go.RowKit
inductive El where
 | int (z : Int)
 | txt (s : ByteArray)
def txtV (s : ByteArray) : Value := .agg #[.int .i64 2,.int .i64 0,.string s,.slice none 0 0]
theorem formed_txt (s : ByteArray) (w : World) : Calls Tryz.prog 134 #[txtV s] w fun e w' => e = .returned (.tuple #[.int .i64 0,.bool true]) ∧ Below w.heap.size w w' := by
 unfold txtV;go_enter Tryz.func134,Tryz.ntmps134;go_wp2
 all_goals
  go_ret2;exact ⟨rfl,((Below.refl _ _).alloc (Nat.le_refl _) _).alloc (by simp) _⟩
namespace El
end El
theorem flat_at {α : Type} (f : α → List Value) (s : Nat) (hs : ∀ x,(f x).length = s) : ∀ (l : List α) (k i : Nat) (x : α),l[k]? = some x → i < s → (l.flatMap f)[k * s + i]? = (f x)[i]?
 | [],k,i,x,h,_ => by simp at h
 | a :: l,0,i,x,h,hi => by
  simp at h;subst h;rw [List.flatMap_cons,List.getElem?_append_left (by rw [hs];omega),Nat.zero_mul,Nat.zero_add]
 | a :: l,k + 1,i,x,h,hi => by
  simp at h;rw [List.flatMap_cons,List.getElem?_append_right (by rw [hs,Nat.succ_mul];omega),hs,show (k + 1) * s + i - s = k * s + i by rw [Nat.succ_mul];omega];exact flat_at f s hs l k i x h hi
end Go.Proofs.YtifejdpffkeniaaGreatDoor
namespace Go.Proofs.YtifejdpffkeniaaGreatDoor
open Go.RowKit
theorem strCells_ints (s : ByteArray) : Lib.strCells s = (strInts s).map (Value.int .u8) := by
 simp [Lib.strCells,strInts]
theorem wp_append_str {P : Program} {o : Oper} {a : Act} {w : World} {K : Act → World → Prop} {Q : Exit → Act → World → Prop} (sl x : Operand) (t u : TypeId)
  (ho : o.op = .call { callee := .builtin .append,args := #[sl,x],argTypes := #[t,u] })
  (base : Nat) (e : TypeId) (i : TypeInfo) (ht : P.underlying t = some (.slice e)) (hu : P.underlying u = some .string) (hi : P.info? e = some i) (hz : i.zero = some (.int .u8 0))
  (hsize : i.size = 1) (hby : i.bytes = 1)
  (v : Value) (n : Nat) (xs : List Value) (hs : a.eval sl = v) (hown : w.ownsRow base e 1 v n xs) (hn : 0 < n) (s : ByteArray) (hx : a.eval x = .string s)
  (h63 : n + s.size ≤ 1000000) (hbase : base ≤ w.heap.size)
  (h : ∀ v' w',w'.ownsRow base e 1 v' (n + s.size) (xs ++ Lib.strCells s) → w.grownBy w' v.ownBlock → (v'.ownBlock = v.ownBlock ∨ v'.ownBlock = some w.heap.size) → K (a.put o.dst v') w') : o.wp P a w K Q := by
 obtain ⟨v',w',hr,h2,h3,_⟩ := Lib.run_append_own_string (P := P) w base t u o.type e i ht hu hi hz hsize hby v n xs hown s (by unfold maxLen;omega) (by omega) hbase
 have hb : v'.ownBlock = v.ownBlock ∨ v'.ownBlock = some w.heap.size := by
  have hxl : xs.length = n := by simpa using hown.1
  rcases hown.2 with ⟨_,h0⟩ | ⟨g,cap,cur,rfl,_,hg,hnc,hcm,hcs,_⟩
  ·omega
  ·have hcs' : cur.size = cap := by simpa using hcs
   unfold maxLen at hcm
   by_cases hroom : n + s.size ≤ cap
   ·have h1 := Lib.run_append_room_string (P := P) w t u o.type e i ht hu hi hsize g n cap cur hg s hroom (by omega)
    have e1 := hr.symm.trans h1
    injection e1 with e1 e2
    exact .inl (by rw [e1];rfl)
   ·have h1 := Lib.run_append_grow_string (P := P) w t u o.type e i (.int .u8 0) ht hu hi hz ⟨g,0,none⟩ n cap xs (by rw [hsize];simpa using hxl) (hown.cells (g := g) rfl) s (by omega) (by omega) (by rw [hby];exact growslice_fits (by omega) (by omega))
    have e1 := hr.symm.trans h1
    injection e1 with e1 e2
    exact .inr (by rw [e1];rfl)
 unfold Oper.wp execOp;simp only [ho,resolve,invoke,builtin,Sem.run_bind,Sem.run_pure,Result.andThen_ok,List.map_toArray,List.map_cons,List.map_nil,hs,hx,hr];exact h v' w' h2 h3 hb
theorem txt_box (w : World) (s : ByteArray) (t : TypeId) : (w.alloc (.cells #[.int .i64 2,.int .i64 0,.string s,.slice none 0 0] t)).cell? ⟨w.heap.size,2,none⟩ = some (.string s) := by
 rw [cell_of_row _ w.heap.size 2 _ _ _ (heap_alloc_new w _)];rfl
theorem Grew.preL {base : Nat} {w w1 w' : World} {v v' : Value} {n : Nat} {xs ys : List Int} (h : Grew base w1 v n xs w' v' ys) (hp : w.grownBy w1 v.ownBlock) : Grew base w v n xs w' v' ys :=
 ⟨h.own,grown_then hp h.grow (fun j hj => .inr hj),fun j hj => by
  rcases h.blk j hj with h1 | h1
  ·exact .inl (Nat.le_trans hp.size h1)
  ·exact .inr h1⟩
theorem grew_ne {base H : Nat} {w w' : World} {v v' : Value} {n : Nat} {xs ys : List Int} (h : Grew base w v n xs w' v' ys) (hne : some H ≠ v.ownBlock) (hlt : H < w.heap.size) : some H ≠ v'.ownBlock := fun e => by
 rcases h.blk _ e.symm with h1 | h1
 ·omega
 ·exact hne h1.symm
theorem w2_any (base : Nat) (v : Value) (n : Nat) (xs : List Int) (s : ByteArray) (w : World) (hown : w.ownsRow base 5 1 v n (xs.map (Value.int .u8))) (hs : s.size ≤ 100000) (hn : n ≤ 800000) (hbase : base ≤ w.heap.size) :
  Calls Tryz.prog 138 #[v,txtV s] w (NumPost base w v n xs ([2] ++ Cd.numL s.size ++ strInts s)) := by
 obtain ⟨i0,hi,hz0,hz1,hz2⟩ := info_parts infoU8c;have hne := own_far hown;have hbox := txt_box w s 107;have hten := Cd.numL_ten (u := s.size) (by omega);have HT := Lib.hid hten;have hs9 : (s.size : Int) ≤ 100000 := by omega
 have hu64 : IntKind.u64.wrap (s.size : Int) = (s.size : Int) := by
  rw [show IntKind.u64.wrap (s.size : Int) = (s.size : Int) % 18446744073709551616 by simp [IntKind.wrap,IntKind.bits,IntKind.signed]];omega
 clear hten;unfold txtV;go_enter Tryz.func138,Tryz.ntmps138;go_wp2
 go_region_held3 (fun w' => w'.cell? ⟨w.heap.size,2,none⟩ = some (.string s))
  (first
   | (go_keep;done)
   | exact hq1
   | exact hq3
   | exact (hg4.cell_far ⟨w.heap.size,2,none⟩ hlt3 hne3).trans hq3)
  ((first
   | (go_at_call 136;(refine (numeral_any base v1 (n + 1) (xs ++ [2]) s.size w1 (by simpa using hown1) (by omega) (by omega) (by omega)).mono ?_);rintro e w3 ⟨v3,rfl,hG⟩;have hq3 := (hG.grow.cell_far ⟨w.heap.size,2,none⟩ hlt1 hne1).trans hq1;have hlt3 : w.heap.size < w3.heap.size := Nat.lt_of_lt_of_le hlt1 hG.grow.size;have hne3 := grew_ne hG hne1 hlt1)
   | (refine wp_atc (by rfl) (wp_append_str (.tmp 12) (.tmp 14) 57 9 (by rfl) base 5 i0 Tryz.underlying57 Tryz.underlying9 hi hz0 hz1 hz2 v3 _ _ (by rfl) hG.own (by omega) s (by rfl) (by have := HT.out;omega) (by have := hG.grow.size;omega) ?_);intro v4 w4 hown4 hg4 hb4)
   | (refine wp_atc (by rfl) (wp_append_rd _ (.tmp 5) (.tmp 6) 57 (by rfl) base 5 i0 _ 1 1 Tryz.underlying57 hi hz0 hz1 hz2 rfl (by omega) v n _ (by rfl) ((hown.alloc _).alloc _).drew _ _ 1 _ [.int .u8 2] (by rfl) (rd_one _ _ _ _ (by simp)).drew (fun u hu => by simp at hu;subst hu;rfl) (by unfold maxLen;omega) (by omega) (by simp;omega) ?_);intro v1 w1 hown1 hg1 hb1;have hq1 := (hg1.cell_far ⟨w.heap.size,2,none⟩ (by simp;omega) hne).trans (cell_box2 w _ _ hbox);have hlt1 : w.heap.size < w1.heap.size := (by have := hg1.size;simp at this;omega);have hne1 := own_ne hne hb1 (by simp;omega))
   | fail))
 have hG0 : Grew base w v n xs w1 v1 [2] := Grew.mk1 (grown_drew (grown_alloc (World.grownBy_alloc w _ _) _)) hown1 hg1 hb1
 have hG4 : Grew base w3 v3 (n + 1 + (Cd.numL s.size).length) (xs ++ [2] ++ Cd.numL s.size) w4 v4 (strInts s) := by
  refine Grew.mk1 (World.grownBy.refl _ _) ?_ hg4 hb4;have h := hown4;rw [strCells_ints] at h;rw [strInts_length];exact h
 have hG2 : Grew base w v n xs w4 v4 ([2] ++ Cd.numL s.size ++ strInts s) := by
  have h := (hG0.then hG).then (zs := strInts s) (c := w4) (v2 := v4) (by
   have h4 := hG4;rw [List.append_assoc] at h4;rw [List.length_append,← Nat.add_assoc]
   exact h4)
  exact h
 clear hG0 hG4 hG hown1 hg1 hb1 hq1 hne1 hq3 hne3 hlt3 hown4 hg4 hb4;go_wp2;go_ret;exact ⟨v4,rfl,hG2⟩
end Go.Proofs.YtifejdpffkeniaaGreatDoor
