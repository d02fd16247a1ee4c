import Derived.Defers
import Derived.Recover
import Derived.Test.YtifejdpffkeniaaGreatDoorS08
import Derived.Test.YtifejdpffkeniaaGreatDoorS04
import Derived.Test.YtifejdpffkeniaaGreatDoorS02
set_option linter.unusedVariables false
set_option maxRecDepth 100000
set_option maxHeartbeats 40000000
namespace Go.Proofs.YtifejdpffkeniaaGreatDoor
open Go.RowKit
attribute [local go_sem] Oper.semAt_some
theorem eqlI_nil (w : World) (a : Option Addr) (l c : Nat) : (binOp .eql 23 (.slice a l c) (.slice none 0 0)).run Tryz.prog w = .ok (.bool a.isNone) w := by
 have h := run_equal_slice_nil (P := Tryz.prog) w 23 _ a l c Tryz.underlying23;simp [binOp,h]
theorem i64_one (l : List Int) : ∀ u ∈ ivs l,u.oneCell' = true := by
 intro u hu;obtain ⟨x,_,rfl⟩ := List.mem_map.1 hu
 rfl
theorem own_mono {w : World} {b b' : Nat} {e : TypeId} {size : Nat} {v : Value} {n : Nat} {xs : List Value} (h : b ≤ b') (ho : w.ownsRow b' e size v n xs) : w.ownsRow b e size v n xs := by
 refine ⟨ho.1,?_⟩
 rcases ho.2 with h2 | ⟨g,cap,cur,e1,e2,e3⟩
 ·exact .inl h2
 ·exact .inr ⟨g,cap,cur,e1,by omega,e3⟩
theorem madeNil (n : Nat) : madeCells #[Value.slice none 0 0] n = (List.replicate n (Value.slice none 0 0)).toArray := by
 apply Array.ext';rw [toList_madeCells_one]
theorem clone_any (r : RI) (w : World) (h : r.ok w w.heap.size) (hp : 0 < r.d.length) (hn : r.d.length ≤ 4096) :
  Calls Tryz.prog 91 #[r.cell] w fun x w' => ∃ g cap,x = .returned (.slice (some ⟨g,0,none⟩) r.d.length cap) ∧ w'.ownsRow w.heap.size 3 1 (.slice (some ⟨g,0,none⟩) r.d.length cap) r.d.length (ivs r.d) ∧ Below w.heap.size w w' := by
 have hrd := h.1;have hcm := h.2;obtain ⟨A,c,d⟩ := r;change 0 < d.length at hp;change d.length ≤ 4096 at hn;change d.length ≤ c ∧ c ≤ maxLen at hcm;have hrd : Rd w w.heap.size 1 A d.length (ivs d) := hrd;obtain ⟨b,o,e1,_,_⟩ := hrd.2 hp;subst e1;show Calls _ _ #[.slice (some ⟨b,o,none⟩) d.length c] _ _;obtain ⟨n,hnn⟩ : ∃ n,d.length = n := ⟨_,rfl⟩;obtain ⟨D,hD⟩ : ∃ D,ivs d = D := ⟨_,rfl⟩;have hone := i64_one d;rw [hD] at hone;have hown : (w.alloc (.cells #[] 3)).ownsRow w.heap.size 3 1 (.slice (some ⟨w.heap.size,0,none⟩) 0 0) 0 [] := World.ownsRow_lit w #[] 0 (Nat.le_refl _) (by unfold maxLen;omega) rfl;have hb : Below w.heap.size w (w.alloc (.cells #[] 3)) := (Below.refl _ w).alloc (Nat.le_refl _) _;show Calls _ _ _ _ fun x w' => ∃ g cap,x = .returned (.slice (some ⟨g,0,none⟩) d.length cap) ∧ w'.ownsRow w.heap.size 3 1 (.slice (some ⟨g,0,none⟩) d.length cap) d.length (ivs d) ∧ Below w.heap.size w w';rw [hnn] at hp hn hrd ⊢;rw [hD] at hrd ⊢;have HR := Lib.hid (hrd.below hb);have HO := Lib.hid hown;have HB := Lib.hid hb;have HONE := Lib.hid hone;have he := eqlI_nil w (some ⟨b,o,none⟩) n c;clear hnn hD hrd hown hb hone h hcm;go_enter Tryz.func91,Tryz.ntmps91
 go_wp2_with (at_builtin;refine wpList_append_rd _ rfl (.tmp 5) (.tmp 6) 23 rfl w.heap.size 3 _ (.int .i64 0) 1 8 Tryz.underlying23 rfl rfl rfl rfl rfl (by decide) (.slice (some ⟨w.heap.size,0,none⟩) 0 0) 0 [] (by rfl) HO.out w.heap.size (some ⟨b,o,none⟩) n c D (by rfl) HR.out HONE.out (by unfold maxLen;omega) (by omega) (by simp) ?_;intro v2 w2 hown2 hg2 _)
 rw [Nat.zero_add,List.nil_append] at hown2;obtain ⟨g,cap,rfl,h1,h2⟩ := hown2.form hp;go_ret;exact ⟨g,cap,rfl,hown2,HB.out.grown hg2 (by simp) (fun k e => by have e' : w.heap.size = k := (by simpa [Value.ownBlock] using e);omega)⟩
theorem makeT_any (n : Nat) (hn : n ≤ 4096) (w : World) : (Instr.makeSlice 162 (.int .i64 (n : Int)) (.int .i64 (n : Int))).run Tryz.prog w = .ok (.slice (some ⟨w.heap.size,0,none⟩) n n) (w.alloc (.cells (madeCells #[.slice none 0 0] n) 23)) := by
 obtain ⟨ii,hii,hzz⟩ := Option.map_eq_some_iff.1 (show (Tryz.prog.info? 23).map (fun i => (i.zero,i.size,i.bytes)) = some (some (.slice none 0 0),1,24) by kernel_rfl);simp only [Prod.mk.injEq] at hzz;have h := run_make (P := Tryz.prog) w 162 23 ii (.slice none 0 0) Tryz.underlying162 hii hzz.1 .i64 .i64 (n : Int) (n : Int) (by omega) (Int.le_refl _) (by rw [hzz.2.2];omega) (by omega);rw [Int.toNat_natCast,hzz.2.1,Nat.mul_one] at h;exact h
theorem makeI_any (n : Nat) (hn : n ≤ 4096) (w : World) : (Instr.makeSlice 23 (.int .i64 (n : Int)) (.int .i64 (n : Int))).run Tryz.prog w = .ok (.slice (some ⟨w.heap.size,0,none⟩) n n) (w.alloc (.cells (madeCells #[.int .i64 0] n) 3)) := by
 obtain ⟨ii,hii,hzz⟩ := Option.map_eq_some_iff.1 (show (Tryz.prog.info? 3).map (fun i => (i.zero,i.size,i.bytes)) = some (some (.int .i64 0),1,8) by kernel_rfl);simp only [Prod.mk.injEq] at hzz;have h := run_make (P := Tryz.prog) w 23 3 ii (.int .i64 0) Tryz.underlying23 hii hzz.1 .i64 .i64 (n : Int) (n : Int) (by omega) (Int.le_refl _) (by rw [hzz.2.2];omega) (by omega);rw [Int.toNat_natCast,hzz.2.1,Nat.mul_one] at h;exact h
structure PTab (w : World) (B tb : Nat) (gs : List (Nat × Nat)) (L : Nat) (M : Nat → Nat → Int) (tail : List Value) : Prop where
 top : Row w tb 23 ((gs.map fun g => .slice (some ⟨g.1,0,none⟩) L g.2) ++ tail)
 row : ∀ i,i < gs.length → w.ownsRow B 3 1 (.slice (some ⟨(gk gs i).1,0,none⟩) L (gk gs i).2) L (rowV M L i)
 inj : ∀ i j,i < gs.length → j < gs.length → (gk gs i).1 = (gk gs j).1 → i = j
 ne : ∀ i,i < gs.length → (gk gs i).1 ≠ tb
 lo : B ≤ tb
section
variable {w w' : World} {B tb L : Nat} {gs : List (Nat × Nat)} {M : Nat → Nat → Int} {tail : List Value}
theorem PTab.glt (h : PTab w B tb gs L M tail) {i : Nat} (hi : i < gs.length) : B ≤ (gk gs i).1 ∧ (gk gs i).1 < w.heap.size := (h.row i hi).lt _ rfl
theorem PTab.kept (h : PTab w B tb gs L M tail) {row : Option Nat} (hg : w.grownBy w' row) (hne : ∀ r,row = some r → r ≠ tb ∧ ∀ i,i < gs.length → (gk gs i).1 ≠ r) : PTab w' B tb gs L M tail :=
 ⟨h.top.grown hg (fun e => (hne tb e.symm).1 rfl),fun i hi => (h.row i hi).kept hg (.inr fun e => (hne _ e.symm).2 i hi rfl),h.inj,h.ne,h.lo⟩
theorem PTab.next (h : PTab w B tb gs L M tail) (hb : Below w.heap.size w w') : PTab w' B tb gs L M tail := h.kept (grown_of_below hb) (fun r e => by cases e)
theorem PTab.full (h : PTab w B tb gs L M []) : Tab w B tb gs L M := ⟨by simpa using h.top,h.row,h.inj,h.ne,h.lo⟩
theorem gk_snoc_lt {p : Nat × Nat} {i : Nat} (hi : i < gs.length) : gk (gs ++ [p]) i = gk gs i := by
 unfold gk;rw [List.getD_eq_getElem?_getD,List.getElem?_append_left hi,← List.getD_eq_getElem?_getD]
theorem gk_snoc_eq {p : Nat × Nat} : gk (gs ++ [p]) gs.length = p := by
 unfold gk;rw [List.getD_eq_getElem?_getD,List.getElem?_append_right (Nat.le_refl _),Nat.sub_self];rfl
theorem PTab.slot {x : Value} (h : PTab w B tb gs L M (x :: tail)) (v : Value) : PTab (w.setCell ⟨tb,gs.length,none⟩ v) B tb gs L M (v :: tail) :=
 ⟨by
  have := h.top.put gs.length v
  rwa [List.set_append_right (h := by simp),List.length_map,Nat.sub_self,List.set_cons_zero] at this,fun i hi => (h.row i hi).kept (grown_set (World.grownBy.refl w (some tb)) gs.length v) (.inr (by intro e;exact h.ne i hi (by simpa [Value.ownBlock] using e))),h.inj,h.ne,h.lo⟩
theorem PTab.push {g cap : Nat} (h : PTab w B tb gs L M (.slice (some ⟨g,0,none⟩) L cap :: tail)) (hg : w.ownsRow B 3 1 (.slice (some ⟨g,0,none⟩) L cap) L (rowV M L gs.length)) (hne : g ≠ tb) (hd : ∀ i,i < gs.length → (gk gs i).1 ≠ g) : PTab w B tb (gs ++ [(g,cap)]) L M tail := by
 refine ⟨by simpa using h.top,fun i hi => ?_,fun i j hi hj e => ?_,fun i hi => ?_,h.lo⟩
 ·rw [List.length_append,List.length_singleton] at hi
  rcases Nat.lt_or_ge i gs.length with h1 | h1
  ·rw [gk_snoc_lt h1];exact h.row i h1
  ·obtain rfl : i = gs.length := by omega
   rw [gk_snoc_eq];exact hg
 ·rw [List.length_append,List.length_singleton] at hi hj
  rcases Nat.lt_or_ge i gs.length with h1 | h1
  ·rcases Nat.lt_or_ge j gs.length with h2 | h2
   ·rw [gk_snoc_lt h1,gk_snoc_lt h2] at e;exact h.inj i j h1 h2 e
   ·obtain rfl : j = gs.length := by omega
    rw [gk_snoc_lt h1,gk_snoc_eq] at e;exact absurd e (hd i h1)
  ·obtain rfl : i = gs.length := by omega
   rcases Nat.lt_or_ge j gs.length with h2 | h2
   ·rw [gk_snoc_eq,gk_snoc_lt h2] at e;exact absurd e.symm (hd j h2)
   ·omega
 ·rw [List.length_append,List.length_singleton] at hi
  rcases Nat.lt_or_ge i gs.length with h1 | h1
  ·rw [gk_snoc_lt h1];exact h.ne i h1
  ·obtain rfl : i = gs.length := by omega
   rw [gk_snoc_eq];exact hne
theorem PTab.start (hB : B ≤ w.heap.size) (n : Nat) : PTab (w.alloc (.cells (madeCells #[.slice none 0 0] n) 23)) B w.heap.size [] L M (List.replicate n (.slice none 0 0)) :=
 ⟨by rw [madeNil];exact Row.fresh _ _ _,fun i hi => absurd hi (by simp),fun i j hi => absurd hi (by simp),fun i hi => absurd hi (by simp),hB⟩
end
theorem hown_lt {w : World} {b : Nat} {e : TypeId} {size : Nat} {v : Value} {n : Nat} {xs : List Value} (h : w.ownsRow b e size v n xs) (g : Nat) (hg : v.ownBlock = some g) : b ≤ g := (h.lt g hg).1
theorem turn_step {s L n1 : Nat} {wr W1 w9 : World} {gs : List (Nat × Nat)} {M : Nat → Nat → Int} {v x v9 : Value} {tail XS : List Value} {m : Nat} {YS : List Value} (hP : PTab wr s s gs L M (x :: tail)) (ho : wr.ownsRow s 3 1 v n1 XS) (hd : ∀ g,v.ownBlock = some g → g ≠ s ∧ ∀ i,i < gs.length → (gk gs i).1 ≠ g)
  (hb : Below wr.heap.size wr W1) (ho9 : w9.ownsRow s 3 1 v9 m YS) (hg9 : W1.grownBy w9 v.ownBlock) (hor : v9.ownBlock = v.ownBlock ∨ v9.ownBlock = some W1.heap.size) : PTab w9 s s gs L M (x :: tail) ∧ ∀ g,v9.ownBlock = some g → g ≠ s ∧ ∀ i,i < gs.length → (gk gs i).1 ≠ g := by
 refine ⟨(hP.next hb).kept hg9 (fun r e => ⟨(hd r e).1,(hd r e).2⟩),fun g hg => ?_⟩
 rcases hor with h | h
 ·exact hd g (by rw [← h];exact hg)
 ·rw [h] at hg
  injection hg with hg
  have hs := hb.size;have ht := hP.top.lt;exact ⟨by omega,fun i hi e => by have := (hP.glt hi).2;omega⟩
def turnM (rs : List RI) (tg : List Int) (k j : Nat) : Int := if j < rs.length then (rs.getD j r0).d.getD k 0 else tg.getD k 0
theorem rowV_take {M : Nat → Nat → Int} {L k j : Nat} (hj : j < L) : (rowV M L k).take (j + 1) = (rowV M L k).take j ++ [.int .i64 (M k j)] := by
 rw [List.take_add_one,rowV_get hj];rfl
theorem turned_any (C : Nat) (A : Option Addr) (c : Nat) (rs : List RI) (t : RI) (w : World) (h : RdM w w.heap.size A rs) (hf : ∀ r ∈ rs,FRow C r) (ht : t.ok w w.heap.size) (htl : t.d.length = C) (hC0 : 0 < C) (hC : C ≤ 64) (hn : rs.length ≤ 63) :
  Calls Tryz.prog 89 #[.slice A rs.length c,t.cell] w fun x w' => ∃ gs,x = .returned (.slice (some ⟨w.heap.size,0,none⟩) C C) ∧ gs.length = C ∧ Tab w' w.heap.size w.heap.size gs (rs.length + 1) (turnM rs t.d) ∧ Below w.heap.size w w' := by
 obtain ⟨s,hs⟩ : ∃ s,w.heap.size = s := ⟨_,rfl⟩
 have HA : Hid (0 < rs.length → ∃ b o,A = some ⟨b,o,none⟩ ∧ ∀ j,j < rs.length → ∃ b2 o2 rc,(∀ W,Below s w W → W.cell? ⟨b,o + j,none⟩ = some (.slice (some ⟨b2,o2,none⟩) C rc)) ∧ ∀ k,k < C → ∀ W,Below s w W → W.cell? ⟨b2,o2 + k,none⟩ = some (.int .i64 (turnM rs t.d k j))) := fun h0 => by
  obtain ⟨b,o,e1,_,hc⟩ := h.at h0;refine ⟨b,o,e1,fun j hj => ?_⟩;have hm := (getD_mem' hj).1;have hl := (hf _ hm).len;obtain ⟨b2,o2,e2,_,hc2⟩ := RI.at (h.rows _ hm) (by rw [hl];exact hC0);refine ⟨b2,o2,(rs.getD j r0).c,fun W hW => ?_,fun k hk W hW => ?_⟩
  ·have := hc j hj W (by rw [hs];exact hW)
   rw [RI.cell_eq,hl,e2] at this;exact this
  ·have := hc2 k (by rw [hl];exact hk) W (by rw [hs];exact hW)
   unfold turnM;rw [if_pos hj];exact this
 have HT : Hid (0 < C → ∃ b o,t.A = some ⟨b,o,none⟩ ∧ ∀ k,k < C → ∀ W,Below s w W → W.cell? ⟨b,o + k,none⟩ = some (.int .i64 (turnM rs t.d k rs.length))) := fun h0 => by
  obtain ⟨b,o,e1,_,hc⟩ := RI.at ht (by omega);refine ⟨b,o,e1,fun k hk W hW => ?_⟩;unfold turnM;rw [if_neg (by omega)];exact hc k (by omega) W (by rw [hs];exact hW)
 obtain ⟨M,hM⟩ : ∃ M,turnM rs t.d = M := ⟨_,rfl⟩;rw [hM] at HA HT;obtain ⟨m,hnn⟩ : ∃ n,rs.length = n := ⟨_,rfl⟩;obtain ⟨tA,tc,td⟩ := t;change td.length = C at htl;change Hid (0 < C → ∃ b o,tA = some ⟨b,o,none⟩ ∧ _) at HT;show Calls _ _ #[_,.slice tA td.length tc] _ _
 have HP0 : Hid (PTab (w.alloc (.cells (madeCells #[.slice none 0 0] C) 23)) s s [] (m + 1) M (List.replicate C (.slice none 0 0))) := by
  have := PTab.start (w := w) (B := s) (L := m + 1) (M := M) (by rw [hs];exact Nat.le_refl _) C
  rwa [hs] at this
 have HB0 : Hid (Below s w (w.alloc (.cells (madeCells #[.slice none 0 0] C) 23))) := by show Below _ _ _;rw [← hs];exact (Below.refl _ w).alloc (Nat.le_refl _) _
 have HS := Lib.hid hs;show Calls _ _ _ _ fun x w' => ∃ gs,x = .returned (.slice (some ⟨w.heap.size,0,none⟩) C C) ∧ gs.length = C ∧ Tab w' w.heap.size w.heap.size gs (rs.length + 1) (turnM rs td) ∧ Below w.heap.size w w';have hM : turnM rs td = M := hM;rw [hM,htl];rw [hnn] at HA HT hn ⊢;rw [hs];clear h hf ht htl hs hnn hM;obtain ⟨ii,hii,hzz⟩ := Option.map_eq_some_iff.1 (show (Tryz.prog.info? 3).map (fun i => (i.zero,i.size,i.bytes)) = some (some (.int .i64 0),1,8) by kernel_rfl);simp only [Prod.mk.injEq] at hzz;have HII : Hid (Tryz.prog.info? 3 = some ii ∧ ii.zero = some (.int .i64 0) ∧ ii.size = 1 ∧ ii.bytes = 8) := ⟨hii,hzz⟩;clear hii hzz;have hmk := makeT_any C (by omega);go_enter Tryz.func89,Tryz.ntmps89;go_wp2;clear hmk;rw [HS.out];generalize (w.alloc (.cells (madeCells #[.slice none 0 0] C) 23)) = w1 at HP0 HB0 ⊢
 go_loopw [15] (fun i wr => ∃ (k : Nat) (gs : List (Nat × Nat)),k ≤ C ∧ i = .int .i64 k ∧ gs.length = k ∧ PTab wr s s gs (m + 1) M (List.replicate (C - k) (.slice none 0 0)) ∧ Below s w wr) (fun i _ => C - (intOf i).toNat)
 case atStart => exact ⟨0,[],Nat.zero_le _,rfl,rfl,HP0.out,HB0.out⟩
 case round =>
  clear HP0 HB0;obtain ⟨k,gs,hk,rfl,hgl,hP,hb⟩ := hrel;have HG := Lib.hid hgl
  by_cases hlt : k < C
  ·have k1 : (k : Int) < (C : Int) := by omega
   have k0 : (0 : Int) ≤ (k : Int) := by omega
   obtain ⟨tb2,to2,hA1,hall⟩ := HT.out (by omega);subst hA1;have q0 := hall k hlt wr hb;obtain ⟨NN,hNN⟩ : ∃ x,M k m = x := ⟨_,rfl⟩;rw [hNN] at q0;have HNN := Lib.hid hNN;obtain ⟨e,he⟩ : ∃ e,C - k = e + 1 := ⟨C - k - 1,by omega⟩;rw [he,List.replicate_succ] at hP;have HE := Lib.hid he;have HP := Lib.hid hP;have HB := Lib.hid hb;have HHT := Lib.hid hall;clear hP hb hgl hall hNN he
   go_wp2_with fail
   clear q0;obtain ⟨wo,hwo⟩ : ∃ wo : World,wo = wr := ⟨_,rfl⟩;subst hwo
   go_loopw [22] (fun i wx => ∃ (j : Nat) (cA : Option Addr) (cc : Nat),j ≤ m ∧ i = .int .i64 j ∧ PTab wx s s gs (m + 1) M (.slice cA j cc :: List.replicate e (.slice none 0 0)) ∧ wx.ownsRow s 3 1 (.slice cA j cc) j ((rowV M (m + 1) k).take j) ∧ (∀ g,(Value.slice cA j cc).ownBlock = some g → g ≠ s ∧ ∀ i,i < gs.length → (gk gs i).1 ≠ g) ∧ Below s w wx) (fun i _ => m - (intOf i).toNat)
   case atStart => exact ⟨0,none,0,Nat.zero_le _,rfl,HP.out,World.ownsRow_nil _ _ _ _,fun g hg => (by cases hg),HB.out⟩
   case round =>
    clear HP HB;obtain ⟨j,cA,cc,hj,rfl,hP,hown,hdj,hb⟩ := hrel;have HPT := Lib.hid hP;have HOW := Lib.hid hown;have HDJ := Lib.hid hdj;have HBW := Lib.hid hb;have HSZ : Hid (s ≤ wr.heap.size) := by have := hP.top.lt;show s ≤ wr.heap.size;omega
    have hss := hP.top.lt;have tcell := hP.top.cell (i := gs.length) (by rw [List.getElem?_append_right (by simp),List.length_map,Nat.sub_self];rfl);rw [HG.out] at tcell
    by_cases hltj : j < m
    ·have i1 : (j : Int) < (m : Int) := by omega
     have i0 : (0 : Int) ≤ (j : Int) := by omega
     obtain ⟨b,o,hA1,hall⟩ := HA.out (by omega);subst hA1;obtain ⟨b2,o2,rc,hq0,hqa⟩ := hall j hltj;have hq1 := hqa k hlt;clear hqa;obtain ⟨XX,hXX⟩ : ∃ x,M k j = x := ⟨_,rfl⟩;obtain ⟨XS,hXS⟩ : ∃ x,(rowV M (m + 1) k).take j = x := ⟨_,rfl⟩;have hxt : (rowV M (m + 1) k).take (j + 1) = XS ++ [.int .i64 XX] := by rw [rowV_take (by omega),hXS,hXX]
     rw [hXX] at hq1;rw [hXS] at HOW;have HQX := Lib.hid hq0;have HQY := Lib.hid hq1;have HXT := Lib.hid hxt;have HIX : Hid ((0 : Int) ≤ (k : Int) ∧ (k : Int) < (C : Int) ∧ (0 : Int) ≤ (j : Int) ∧ (j : Int) < (m : Int)) := ⟨k0,k1,i0,i1⟩;have HTC := Lib.hid (And.intro tcell hss);have q0 := hq0 wr hb;clear hall hq0 hq1 hxt hXX hXS hP hown hdj hb tcell
     go_wp2_with fail
     rename_i Kz hKz;clear q0;refine wp_region_tree (fun w' => Below s w w') (.take 0 (.take 1 (.take 2 (.take 3 (.take 4 (.take 6 (.take 7 (.take 8 (.take 9 (.two 5 (.one 10 (.one 11 (.take 12 (.one 13 .done)))) 10 (.one 5 (.one 11 (.take 12 (.one 13 .done)))))))))))))) (by kernel_rfl) (by kernel_rfl) (by kernel_rfl) (by kernel_rfl) (fun x _ _ _ _ h => by cases x <;> exact h) HBW.out.drew ?_
     iterate 9 (refine wpOT_take rfl _ (by rfl) (by intro w' hS;have q0 := HQX.out w' hS;have q1 := HQY.out w' hS;obtain ⟨k0,k1,j0,j1⟩ := HIX.out;go_simp;try with_reducible rfl) fun KK hKK => ?_;go_simp;refine hKK _ ?_;clear hKK KK)
     refine wpOT_two rfl (by rfl) rfl (by rfl) (fun KK hKK => ?_) (fun KK hKK => ?_)
     ·have cx := HTC.out.1
      have lx := HTC.out.2;go_simp;refine hKK _ _ HBW.out.drew ?_;clear hKK KK cx lx;refine wpOT_one rfl (by rfl) fun KK hKK => ?_;go_simp;refine hKK _ _ ((HBW.out.alloc HSZ.out _).drew) ?_;clear hKK KK;refine wpOT_one rfl (by rfl) fun KK hKK => ?_;refine wp_append_rd _ (.tmp 31) (.tmp 36) 23 rfl s 3 ii (.int .i64 0) 1 8 Tryz.underlying23 HII.out.1 HII.out.2.1 HII.out.2.2.1 HII.out.2.2.2 rfl (by decide) (.slice cA j cc) j XS (by rfl) (HOW.out.alloc _) (wr.heap.size + 1) (some ⟨wr.heap.size,0,none⟩) 1 1 [.int .i64 XX] (by rfl) ⟨rfl,fun _ => ⟨wr.heap.size,0,rfl,Nat.lt_succ_self _,fun q u hu => by rw [Nat.zero_add];match q,hu with | 0,hu => exact (Row.fresh wr 3 [.int .i64 XX]).cell hu | q + 1,hu => simp at hu⟩⟩ (by intro u hu;simp at hu;rw [hu];rfl) (by unfold maxLen;omega) (by omega) (by simp;omega) ?_;intro v9 w9 hown9 hgrow9 hor9;have hst9 := turn_step HPT.out HOW.out HDJ.out ((Below.refl _ wr).alloc (Nat.le_refl _) (.cells #[.int .i64 XX] 3)).drew hown9 hgrow9 hor9;have hb9 : Below s w w9 := ((HBW.out.alloc HSZ.out _).drew).grown hgrow9 (by have := HSZ.out;simp;omega) (fun g e => (hown_lt HOW.out g e));have c9 := hst9.1.top.cell (i := gs.length) (by rw [List.getElem?_append_right (by simp),List.length_map,Nat.sub_self];rfl);have f9 := hst9.1.top.fz gs.length;rw [HG.out] at c9 f9;have l9 := hst9.1.top.lt;obtain ⟨g9,cp9,hv9,_,_⟩ := hown9.form (by omega);subst hv9;have HST9 := Lib.hid (And.intro hst9 (And.intro hown9 hb9));clear hst9 hown9 hgrow9 hor9 hb9;refine hKK _ _ HST9.out.2.2 ?_;clear hKK KK;refine wpOT_take rfl _ (by rfl) (by intro w' hS;obtain ⟨k0,k1,j0,j1⟩ := HIX.out;go_simp;try with_reducible rfl) fun KK hKK => ?_;go_simp;refine hKK _ ?_;clear hKK KK;refine wpOT_one rfl (by rfl) fun KK hKK => ?_;go_simp;refine hKK _ _ (HST9.out.2.2.setCell (p := ⟨s,k,none⟩) (Nat.le_refl _) _) ?_;clear hKK KK;refine wpOT_done ?_;show Kz _ _;refine hKz _ _ ?_;go_simp;go_wp2;go_roundw
      case rel =>
       refine ⟨j + 1,some ⟨g9,0,none⟩,cp9,by omega,by go_num,?_,?_,?_,?_⟩
       ·have := HST9.out.1.1.slot (.slice (some ⟨g9,0,none⟩) (j + 1) cp9)
        rw [HG.out] at this;exact this
       ·have := HST9.out.2.1.kept (grown_set (World.grownBy.refl w9 (some s)) k (.slice (some ⟨g9,0,none⟩) (j + 1) cp9)) (.inr (by intro e;exact (HST9.out.1.2 g9 rfl).1 (by simpa [Value.ownBlock] using e)))
        rw [HXT.out];exact this
       ·exact HST9.out.1.2
       ·exact HST9.out.2.2.setCell (p := ⟨s,k,none⟩) (Nat.le_refl _) _
      case measure => simp [intOf];omega
     ·go_simp
      refine hKK _ _ ((HBW.out.alloc HSZ.out _).drew) ?_;clear hKK KK;refine wpOT_one rfl (by rfl) fun KK hKK => ?_;have cx := HTC.out.1;have lx := HTC.out.2;go_simp;refine hKK _ _ ((HBW.out.alloc HSZ.out _).drew) ?_;clear hKK KK cx lx;refine wpOT_one rfl (by rfl) fun KK hKK => ?_;refine wp_append_rd _ (.tmp 31) (.tmp 36) 23 rfl s 3 ii (.int .i64 0) 1 8 Tryz.underlying23 HII.out.1 HII.out.2.1 HII.out.2.2.1 HII.out.2.2.2 rfl (by decide) (.slice cA j cc) j XS (by rfl) (HOW.out.alloc _) (wr.heap.size + 1) (some ⟨wr.heap.size,0,none⟩) 1 1 [.int .i64 XX] (by rfl) ⟨rfl,fun _ => ⟨wr.heap.size,0,rfl,Nat.lt_succ_self _,fun q u hu => by rw [Nat.zero_add];match q,hu with | 0,hu => exact (Row.fresh wr 3 [.int .i64 XX]).cell hu | q + 1,hu => simp at hu⟩⟩ (by intro u hu;simp at hu;rw [hu];rfl) (by unfold maxLen;omega) (by omega) (by simp;omega) ?_;intro v9 w9 hown9 hgrow9 hor9;have hst9 := turn_step HPT.out HOW.out HDJ.out ((Below.refl _ wr).alloc (Nat.le_refl _) (.cells #[.int .i64 XX] 3)).drew hown9 hgrow9 hor9;have hb9 : Below s w w9 := ((HBW.out.alloc HSZ.out _).drew).grown hgrow9 (by have := HSZ.out;simp;omega) (fun g e => (hown_lt HOW.out g e));have c9 := hst9.1.top.cell (i := gs.length) (by rw [List.getElem?_append_right (by simp),List.length_map,Nat.sub_self];rfl);have f9 := hst9.1.top.fz gs.length;rw [HG.out] at c9 f9;have l9 := hst9.1.top.lt;obtain ⟨g9,cp9,hv9,_,_⟩ := hown9.form (by omega);subst hv9;have HST9 := Lib.hid (And.intro hst9 (And.intro hown9 hb9));clear hst9 hown9 hgrow9 hor9 hb9;refine hKK _ _ HST9.out.2.2 ?_;clear hKK KK;refine wpOT_take rfl _ (by rfl) (by intro w' hS;obtain ⟨k0,k1,j0,j1⟩ := HIX.out;go_simp;try with_reducible rfl) fun KK hKK => ?_;go_simp;refine hKK _ ?_;clear hKK KK;refine wpOT_one rfl (by rfl) fun KK hKK => ?_;go_simp;refine hKK _ _ (HST9.out.2.2.setCell (p := ⟨s,k,none⟩) (Nat.le_refl _) _) ?_;clear hKK KK;refine wpOT_done ?_;show Kz _ _;refine hKz _ _ ?_;go_simp;go_wp2;go_roundw
      case rel =>
       refine ⟨j + 1,some ⟨g9,0,none⟩,cp9,by omega,by go_num,?_,?_,?_,?_⟩
       ·have := HST9.out.1.1.slot (.slice (some ⟨g9,0,none⟩) (j + 1) cp9)
        rw [HG.out] at this;exact this
       ·have := HST9.out.2.1.kept (grown_set (World.grownBy.refl w9 (some s)) k (.slice (some ⟨g9,0,none⟩) (j + 1) cp9)) (.inr (by intro e;exact (HST9.out.1.2 g9 rfl).1 (by simpa [Value.ownBlock] using e)))
        rw [HXT.out];exact this
       ·exact HST9.out.1.2
       ·exact HST9.out.2.2.setCell (p := ⟨s,k,none⟩) (Nat.le_refl _) _
      case measure => simp [intOf];omega
    ·obtain rfl : j = m := by omega
     have q0 := HHT.out k hlt wr hb;obtain ⟨XS,hXS⟩ : ∃ x,(rowV M (j + 1) k).take j = x := ⟨_,rfl⟩;rw [hXS] at HOW;have HXS := Lib.hid hXS;clear hP hown hdj hb hXS q0
     go_wp2_with (refine wpList_append_rd _ rfl (.tmp 45) (.tmp 47) 23 rfl s 3 ii (.int .i64 0) 1 8 Tryz.underlying23 HII.out.1 HII.out.2.1 HII.out.2.2.1 HII.out.2.2.2 rfl (by decide) (.slice cA j cc) j XS (by rfl) (HOW.out.alloc _) (wr.heap.size + 1) (some ⟨wr.heap.size,0,none⟩) 1 1 [.int .i64 NN] (by rfl) ⟨rfl,fun _ => ⟨wr.heap.size,0,rfl,Nat.lt_succ_self _,fun j u hu => by rw [Nat.zero_add];match j,hu with | 0,hu => exact (Row.fresh wr 3 [.int .i64 NN]).cell hu | j + 1,hu => simp at hu⟩⟩ (by intro u hu;simp at hu;rw [hu];rfl) (by unfold maxLen;omega) (by omega) (by simp;omega) ?_;intro v9 w9 hown9 hgrow9 hor9;have HE9 := Lib.hid (And.intro hown9 (And.intro hgrow9 hor9));clear hown9 hgrow9 hor9;have hst9 := turn_step HPT.out HOW.out HDJ.out ((Below.refl _ wr).alloc (Nat.le_refl _) (.cells #[.int .i64 NN] 3)) HE9.out.1 HE9.out.2.1 HE9.out.2.2;have c9 := hst9.1.top.cell (i := gs.length) (by rw [List.getElem?_append_right (by simp),List.length_map,Nat.sub_self];rfl);have f9 := hst9.1.top.fz gs.length;rw [HG.out] at c9 f9;have l9 := hst9.1.top.lt;obtain ⟨g9,cp9,hv9,_,_⟩ := HE9.out.1.form (by omega);subst hv9;have HST9 := Lib.hid hst9;clear hst9)
     go_roundw
     case rel =>
      have hrow : rowV M (j + 1) k = XS ++ [.int .i64 NN] := by
       have h1 := rowV_take (M := M) (L := j + 1) (k := k) (j := j) (by omega);rw [List.take_of_length_le (by unfold rowV;simp),HXS.out,HNN.out] at h1;exact h1
      have ho : w9.ownsRow s 3 1 (.slice (some ⟨g9,0,none⟩) (j + 1) cp9) (j + 1) (rowV M (j + 1) gs.length) := by rw [HG.out,hrow];exact HE9.out.1
      have hd9 := HST9.out.2 g9 rfl;have hP9 := (HST9.out.1.slot (.slice (some ⟨g9,0,none⟩) (j + 1) cp9)).push (ho.kept (grown_set (World.grownBy.refl w9 (some s)) gs.length (.slice (some ⟨g9,0,none⟩) (j + 1) cp9)) (.inr (by intro e;exact hd9.1 (by simpa [Value.ownBlock] using e)))) hd9.1 hd9.2;rw [HG.out] at hP9;refine ⟨k + 1,gs ++ [(g9,cp9)],by omega,by go_num,by simp [HG.out],?_,?_⟩
      ·rw [show C - (k + 1) = e by have := HE.out;omega]
       exact hP9
      ·exact ((HBW.out.alloc HSZ.out _).grown HE9.out.2.1 (by have := HSZ.out;simp;omega) (fun g eg => hown_lt HOW.out g eg)).setCell (p := ⟨s,k,none⟩) (Nat.le_refl _) _
     case measure => simp [intOf];omega
  ·obtain rfl : k = C := by omega
   have HP := Lib.hid hP;have HB := Lib.hid hb;clear hP hb;go_wp2;go_ret;refine ⟨gs,rfl,hgl,?_,HB.out⟩;have := HP.out;rw [Nat.sub_self,List.replicate_zero] at this;exact this.full
theorem caught_idle (p : Addr) (w : World) :
  CallsD Tryz.prog 87 #[.pointer (some p)] .returning w fun e u' w' => e = .returned (.tuple #[]) ∧ u' = .returning ∧ w' = w := by
 refine callsD_of_wpS Tryz.func87 rfl fun c₀ cs hu => ?_;apply wpS_seq;apply wpS_region;simp [wpOpsS,go_sem,recoverD,hu,Tryz.ntmps87,Exit.thenS];apply wpS_seq;apply wpS_region;simp [wpOpsS,go_sem,Act.eval,Exit.thenS];refine wpS_cond (t := false) (by simp [Act.eval,Array.replicate]) ?_;simp only [Bool.false_eq_true,if_false];refine wpS_of_wp (wp_skip ?_)
 cases c₀
 simp_all [bodyPostS,results,Tryz.results87]
theorem results_ttc {P : Program} {fn : Func} {p q r : Tmp} {ty : TypeId} (h : fn.results = #[.tmp p,.tmp q,.cell r ty]) (tmps : Array Value) (w : World) (g : Nat) (v : Value)
  (hp : tmps.getD r undef = .pointer (some ⟨g,0,none⟩)) (hc : w.cell? ⟨g,0,none⟩ = some v) (ha : (isAgg ty).run P w = .ok false w) : (results fn tmps).run P w = .ok (.tuple #[tmps.getD p undef,tmps.getD q undef,v]) w := by
 have hp' : tmps[r]?.getD undef = .pointer (some ⟨g,0,none⟩) := by simpa using hp
 simp [results,h,hp',asAddr,loadVar,ha,hc]
theorem isAgg_errno (w : World) : (isAgg 33).run Tryz.prog w = .ok false w := by kernel_rfl
theorem madeZero (n : Nat) : madeCells #[Value.int .i64 0] n = (ivs (List.replicate n 0)).toArray := by
 apply Array.ext';rw [toList_madeCells_one];simp
structure Bk where
 k : Int
 sd : Int
 nx : Int
 L : List Int
structure Bk.ok (b : Bk) : Prop where
 k0 : 0 ≤ b.k
 k1 : b.k < 64
 s0 : 0 ≤ b.sd
 s1 : b.sd ≤ 1099511627776
 n0 : 0 ≤ b.nx
 n1 : b.nx ≤ 4096
 inc : b.L.Pairwise (· < ·)
 lo : ∀ x ∈ b.L,0 ≤ x
 hi : ∀ x ∈ b.L,x < b.nx
theorem last_lt {L : List Int} (h : L.Pairwise (· < ·)) (h0 : ∀ x ∈ L,0 ≤ x) {k : Nat} (hk : k < L.length) : lastI L k < L.getD k 0 ∧ 0 ≤ L.getD k 0 ∧ lastI L (k + 1) = L.getD k 0 ∧ L.getD k 0 ∈ L := by
 have hg : L.getD k 0 = L[k] := by rw [List.getD_eq_getElem?_getD,List.getElem?_eq_getElem hk];rfl
 have hm : L.getD k 0 ∈ L := by rw [hg];exact List.getElem_mem _
 refine ⟨?_,h0 _ hm,by unfold lastI;rw [if_neg (by omega)];rfl,hm⟩;unfold lastI
 by_cases e : k = 0
 ·rw [if_pos e];have := h0 _ hm;omega
 ·rw [if_neg e,hg,List.getD_eq_getElem?_getD,List.getElem?_eq_getElem (by omega)]
  exact List.pairwise_iff_getElem.1 h (k - 1) k (by omega) hk (by omega)
theorem nright_any (b : Bk) (A : Option Addr) (n c : Nat) (w : World) (h : b.ok) (hr : Rd w w.heap.size 1 A n (ivs b.L)) (hn : n ≤ 4096) :
  Calls Tryz.prog 34 #[.agg #[.int .i64 b.k,.int .i64 b.sd,.int .i64 b.nx,.slice A n c]] w fun r w' => r = .returned (.bool true) ∧ w.alloc (.cells #[.int .i64 b.k,.int .i64 b.sd,.int .i64 b.nx,.slice A n c] 50) = w' := by
 obtain ⟨k,sd,nx,L⟩ := b;obtain ⟨k0,k1,s0,s1,n0,n1,inc,lo,hi⟩ := h;dsimp only at k0 k1 s0 s1 n0 n1 inc lo hi hr ⊢;have hl : L.length = n := by have := hr.1;simpa using this
 have hB1 : Below w.heap.size w (w.alloc (.cells #[.int .i64 k,.int .i64 sd,.int .i64 nx,.slice A n c] 50)) := (Below.refl _ _).alloc (Nat.le_refl _) _
 have HC : Hid (∀ j,j < n → ∃ b o x,A = some ⟨b,o,none⟩ ∧ (w.alloc (.cells #[.int .i64 k,.int .i64 sd,.int .i64 nx,.slice A n c] 50)).cell? ⟨b,o + j,none⟩ = some (.int .i64 x) ∧ lastI L j < x ∧ lastI L (j + 1) = x ∧ x < nx) := fun j hj => by
  obtain ⟨_,b,o,e1,_,hc⟩ := i64at hr hj;obtain ⟨q1,q2,q3,q4⟩ := last_lt inc lo (k := j) (by omega);exact ⟨b,o,_,e1,hc j hj _ hB1,q1,q3,hi _ q4⟩
 have HR : Hid (Row (w.alloc (.cells #[.int .i64 k,.int .i64 sd,.int .i64 nx,.slice A n c] 50)) w.heap.size 50 [.int .i64 k,.int .i64 sd,.int .i64 nx,.slice A n c]) := Row.fresh _ _ _;clear hr hl inc lo hi hB1;go_enter Tryz.func34,Tryz.ntmps34;go_wp2;obtain ⟨w1,hw1⟩ : ∃ w1,w.alloc (.cells #[.int .i64 k,.int .i64 sd,.int .i64 nx,.slice A n c] 50) = w1 := ⟨_,rfl⟩;rw [hw1] at HC HR ⊢;have HW := Lib.hid hw1;clear hw1
 go_loopw [3,9] (fun v i wr => w1 = wr ∧ ∃ j : Nat,j ≤ n ∧ i = .int .i64 j ∧ v = .int .i64 (lastI L j)) (fun _ i _ => n - (intOf i).toNat)
 case atStart => exact ⟨rfl,0,Nat.zero_le _,rfl,rfl⟩
 case round =>
  obtain ⟨rfl,j,hj,rfl,rfl⟩ := hrel;obtain ⟨Z,hZ⟩ : ∃ Z,lastI L j = Z := ⟨_,rfl⟩;rw [hZ];have p0 := HR.out.cell (i := 0) rfl;have p1 := HR.out.cell (i := 1) rfl;have p2 := HR.out.cell (i := 2) rfl
  by_cases hlt : j < n
  ·have j1 : (j : Int) < (n : Int) := by omega
   have j0 : (0 : Int) ≤ (j : Int) := by omega
   obtain ⟨b,o,x,hA,q0,q1,q2,q3⟩ := HC.out j hlt;subst hA;rw [hZ] at q1;have g1 : decide (x ≤ Z) = false := decide_eq_false (by omega);have g2 : decide (nx ≤ x) = false := decide_eq_false (by omega);have HQ := Lib.hid q2;clear q2 hZ;go_wp2;go_roundw
   case rel => exact ⟨trivial,j + 1,by omega,by go_num,by rw [HQ.out]⟩
   case measure => simp [intOf];omega
  ·have j1 : ¬ (j : Int) < (n : Int) := by omega
   clear hlt hZ;go_wp2;go_ret;exact ⟨rfl,HW.out⟩
theorem nneed_any (e : Int) (w : World) : Calls Tryz.prog 37 #[.bool true,.int .i64 e] w fun r w' => r = .returned (.tuple #[]) ∧ w = w' := by
 go_enter Tryz.func37,Tryz.ntmps37;go_wp2;refine bodyPost_end (results_none' rfl _ _ _ rfl) rfl ?_;exact ⟨rfl,rfl⟩
theorem clone0G_any (A : Option Addr) (c : Nat) (w : World) :
  Calls Tryz.prog 91 #[.slice A 0 c] w fun x w' => ∃ A' c',x = .returned (.slice A' 0 c') ∧ w'.ownsRow w.heap.size 3 1 (.slice A' 0 c') 0 [] ∧ (A = none → A' = none ∧ c' = 0) ∧ Below w.heap.size w w' := by
 have he := eqlI_nil w A 0 c
 cases A with
 | none =>
  go_enter Tryz.func91,Tryz.ntmps91;go_wp2;go_ret;exact ⟨none,0,rfl,World.ownsRow_nil _ _ _ _,fun _ => ⟨rfl,rfl⟩,Below.refl _ _⟩
 | some a =>
  have hown : (w.alloc (.cells #[] 3)).ownsRow w.heap.size 3 1 (.slice (some ⟨w.heap.size,0,none⟩) 0 0) 0 [] := World.ownsRow_lit w #[] 0 (Nat.le_refl _) (by unfold maxLen;omega) rfl;have HO := Lib.hid hown;have HB : Hid (Below w.heap.size w (w.alloc (.cells #[] 3))) := (Below.refl _ w).alloc (Nat.le_refl _) _;clear hown;go_enter Tryz.func91,Tryz.ntmps91
  go_wp2_with (at_builtin;refine wpList_append_rd _ rfl (.tmp 5) (.tmp 6) 23 rfl w.heap.size 3 _ (.int .i64 0) 1 8 Tryz.underlying23 rfl rfl rfl rfl rfl (by decide) (.slice (some ⟨w.heap.size,0,none⟩) 0 0) 0 [] (by rfl) HO.out w.heap.size (some a) 0 c [] (by rfl) (rd_nil _ _ _ _) (fun u hu => by cases hu) (by unfold maxLen;omega) (by omega) (by simp) ?_;intro v2 w2 hown2 hg2 _)
  obtain ⟨A2,c2,hv⟩ : ∃ A2 c2,v2 = .slice A2 0 c2 := by
   rcases hown2.2 with ⟨e1,e2⟩ | ⟨g,cap,cur,e1,_⟩
   ·exact ⟨_,_,e1⟩
   ·exact ⟨_,_,e1⟩
  subst hv;go_ret;exact ⟨A2,c2,rfl,by simpa using hown2,(fun h => by cases h),HB.out.grown hg2 (by simp) (fun k e => by have e' : w.heap.size = k := (by simpa [Value.ownBlock] using e);omega)⟩
theorem cloneG_any (A : Option Addr) (n c : Nat) (L : List Int) (w : World) (hr : Rd w w.heap.size 1 A n (ivs L)) (hnc : n ≤ c) (hcm : c ≤ maxLen) (hn : n ≤ 4096) :
  Calls Tryz.prog 91 #[.slice A n c] w fun x w' => ∃ A' c',x = .returned (.slice A' n c') ∧ w'.ownsRow w.heap.size 3 1 (.slice A' n c') n (ivs L) ∧ (n = 0 → A = none → A' = none ∧ c' = 0) ∧ Below w.heap.size w w' := by
 have hl : L.length = n := by have := hr.1;simpa using this
 by_cases h0 : n = 0
 ·subst h0
  obtain rfl : L = [] := List.eq_nil_of_length_eq_zero hl;refine (clone0G_any A c w).mono ?_;rintro x w' ⟨A',c',e,ho,h0,hb⟩;exact ⟨A',c',e,ho,fun _ => h0,hb⟩
 ·have hrok : (⟨A,c,L⟩ : RI).ok w w.heap.size := by
   show Rd w w.heap.size 1 A L.length (ivs L) ∧ L.length ≤ c ∧ c ≤ maxLen;rw [hl];exact ⟨hr,hnc,hcm⟩
  have := clone_any ⟨A,c,L⟩ w hrok (by show 0 < L.length;omega) (by show L.length ≤ 4096;omega);refine Calls.mono (by have h9 := this;rw [RI.cell_eq] at h9;dsimp only at h9;rw [hl] at h9;exact h9) ?_;rintro x w' ⟨g,cap,e,ho,hb⟩;exact ⟨_,_,e,ho,fun h => absurd h h0,hb⟩
theorem own_setC {w : World} {b : Nat} {e : TypeId} {sz : Nat} {v : Value} {n : Nat} {xs : List Value} (h : w.ownsRow b e sz v n xs) {p : Addr} (hp : p.block < b) (u : Value) : (w.setCell p u).ownsRow b e sz v n xs :=
 h.kept (row := some p.block) ⟨rfl,rfl,rfl,by simp [World.setCell],fun k _ hk => Below.heap_setCell w p u k (fun e => hk (by rw [e]))⟩ (by
  cases hv : v.ownBlock with
  | none => exact .inl rfl
  | some g => exact .inr (fun e => by have := (h.lt g hv).1;cases e;omega))
structure Opn (w : World) (b : Bk) (A : Option Addr) (r : Ending) (w' : World) : Prop where
 ex : ∃ g A' c',r = .returned (.pointer (some ⟨g,0,none⟩)) ∧ Row w' g 100 [.int .i64 b.k,.int .i64 b.sd,.int .i64 b.nx,.slice A' b.L.length c'] ∧ w'.ownsRow w.heap.size 3 1 (.slice A' b.L.length c') b.L.length (ivs b.L) ∧ w.heap.size ≤ g ∧ (∀ j,(Value.slice A' b.L.length c').ownBlock = some j → j < g) ∧ (b.L.length = 0 → A = none → A' = none ∧ c' = 0)
 bel : Below w.heap.size w w'
theorem open_any (b : Bk) (A : Option Addr) (n c : Nat) (w : World) (h : b.ok) (hr : Rd w w.heap.size 1 A n (ivs b.L)) (hnc : n ≤ c) (hcm : c ≤ maxLen) (hn : n ≤ 4096) :
  Calls Tryz.prog 36 #[.agg #[.int .i64 b.k,.int .i64 b.sd,.int .i64 b.nx,.slice A n c]] w (Opn w b A) := by
 have hl : b.L.length = n := by have := hr.1;simpa using this
 obtain ⟨s,hs⟩ : ∃ s,w.heap.size = s := ⟨_,rfl⟩;have HB0 : Hid (Below s w (w.alloc (.cells #[.int .i64 b.k,.int .i64 b.sd,.int .i64 b.nx,.slice A n c] 50)) ∧ Row (w.alloc (.cells #[.int .i64 b.k,.int .i64 b.sd,.int .i64 b.nx,.slice A n c] 50)) s 50 [.int .i64 b.k,.int .i64 b.sd,.int .i64 b.nx,.slice A n c]) := ⟨by rw [← hs];exact (Below.refl _ _).alloc (Nat.le_refl _) _,Row.fresh' _ _ _ hs⟩
 have HRI : Hid (∀ W,Below s w W → Calls Tryz.prog 34 #[.agg #[.int .i64 b.k,.int .i64 b.sd,.int .i64 b.nx,.slice A n c]] W fun r w' => r = .returned (.bool true) ∧ Below W.heap.size W w') := fun W hW => by
  refine (nright_any b A n c W h ((hr.below (by rw [hs];exact hW)).more (by have := hW.size;omega)) hn).mono ?_;rintro r w' ⟨e,e2⟩;exact ⟨e,by rw [← e2];exact (Below.refl _ _).alloc (Nat.le_refl _) _⟩
 have HCL : Hid (∀ W,Below s w W → Calls Tryz.prog 91 #[.slice A n c] W fun x w' => ∃ A' c',x = .returned (.slice A' n c') ∧ w'.ownsRow W.heap.size 3 1 (.slice A' n c') n (ivs b.L) ∧ (n = 0 → A = none → A' = none ∧ c' = 0) ∧ Below W.heap.size W w') := fun W hW => cloneG_any A n c b.L W ((hr.below (by rw [hs];exact hW)).more (by have := hW.size;omega)) hnc hcm hn;have HO : Hid (∀ r w',(∃ g A' c',r = .returned (.pointer (some ⟨g,0,none⟩)) ∧ Row w' g 100 [.int .i64 b.k,.int .i64 b.sd,.int .i64 b.nx,.slice A' n c'] ∧ w'.ownsRow s 3 1 (.slice A' n c') n (ivs b.L) ∧ s ≤ g ∧ (∀ j,(Value.slice A' n c').ownBlock = some j → j < g) ∧ (n = 0 → A = none → A' = none ∧ c' = 0)) → Below s w w' → Opn w b A r w') := fun r w' h1 h2 => ⟨by rw [hl,hs];exact h1,by rw [hs];exact h2⟩;obtain ⟨k,sd,nx,L⟩ := b;dsimp only at HB0 HRI HCL HO ⊢;obtain ⟨D,hD⟩ : ∃ D,ivs L = D := ⟨_,rfl⟩;rw [hD] at HCL HO;have HS := Lib.hid hs;clear h hr hl hs hD;go_enter Tryz.func36,Tryz.ntmps36
 go_wp2_with fail
 rw [HS.out];generalize (w.alloc (.cells #[.int .i64 k,.int .i64 sd,.int .i64 nx,.slice A n c] 50)) = w0 at HB0 ⊢;refine (HRI.out _ HB0.out.1).mono ?_;rintro x w1 ⟨rfl,hb1⟩;have HR1 := Lib.hid (HB0.out.2.below hb1 HB0.out.2.lt);have HB1 : Hid (Below s w w1) := HB0.out.1.trans (hb1.mono (by have := HB0.out.2.lt;omega));clear hb1 HB0
 go_wp2_with fail
 refine (nneed_any _ _).mono ?_;rintro x w2 ⟨rfl,rfl⟩;have p3 := HR1.out.cell (i := 3) rfl
 go_wp2_with fail
 refine (HCL.out _ HB1.out).mono ?_;rintro x w2 ⟨A',c',rfl,hown,hnil,hb2⟩;have HNIL := Lib.hid hnil;have hr2 := HR1.out.below hb2 HR1.out.lt;have hr3 : Row (w2.setCell ⟨s,3,none⟩ (.slice A' n c')) s 50 [.int .i64 k,.int .i64 sd,.int .i64 nx,.slice A' n c'] := hr2.put 3 _;have o0 := hr2.cell (i := 0) rfl;have o1 := hr2.cell (i := 1) rfl;have o2 := hr2.cell (i := 2) rfl;have o3 := hr2.cell (i := 3) rfl;have f3 := hr2.fz 3;have HB2 : Hid (Below s w w2) := HB1.out.trans (hb2.mono (by have := HR1.out.lt;omega));have HOW := Lib.hid hown;have HR2 := Lib.hid hr2;have HSZ : Hid (s < w1.heap.size ∧ w1.heap.size ≤ w2.heap.size) := ⟨HR1.out.lt,hb2.size⟩;clear p3 hown hb2 hr2 hr3 hnil
 go_wp2_with fail
 go_ret;have h9 := HSZ.out;refine HO.out _ _ ⟨w2.heap.size,A',c',rfl,Row.fresh' _ _ _ (by simp [World.setCell]),?_,by omega,fun j hj => (HOW.out.lt j hj).2,HNIL.out⟩ ?_
 ·exact own_mono (by omega) ((own_setC HOW.out (p := ⟨s,3,none⟩) (by show s < w1.heap.size;omega) _).alloc _)
 ·exact (HB2.out.setCell (p := ⟨s,3,none⟩) (Nat.le_refl _) _).alloc (by simp [World.setCell];omega) _
end Go.Proofs.YtifejdpffkeniaaGreatDoor
namespace Go.Proofs.YtifejdpffkeniaaGreatDoor
open Go.RowKit
theorem rd_new (W : World) (t : TypeId) (cs : List Value) (n size : Nat) (h : cs.length = n * size) : Rd (W.alloc (.cells cs.toArray t)) (W.heap.size + 1) size (some ⟨W.heap.size,0,none⟩) n cs := by
 refine ⟨h,fun _ => ⟨_,_,rfl,by simp,fun j u hu => ?_⟩⟩;have h := cell_of_row (W.alloc (.cells cs.toArray t)) W.heap.size j _ _ _ (World.alloc_heap_new W _);rw [Nat.zero_add,h]
 simpa using hu
theorem tv_one (x : Tv) : ∀ u ∈ x.cells,u.oneCell' = true := by
 intro u hu
 cases x <;> simp [Tv.cells] at hu <;> rcases hu with rfl | rfl | rfl | rfl <;> rfl
abbrev vz : Value := .agg #[.int .i64 0,.int .i64 0,.string ⟨#[]⟩,.slice none 0 0]
structure LB (sb base : Nat) (es : List Tv) (A : Option Addr) (c : Nat) (W : World) : Prop where
 row : Row W sb 107 [.int .i64 3,.int .i64 0,.string ⟨#[]⟩,.slice A es.length c]
 own : W.ownsRow base 107 4 (.slice A es.length c) es.length (tvCells es)
 lt : sb < base
 sz : base ≤ W.heap.size
section
variable {sb base : Nat} {es : List Tv} {A : Option Addr} {c : Nat} {W : World}
theorem LB.start (hr : Row W sb 107 [.int .i64 3,.int .i64 0,.string ⟨#[]⟩,.slice none 0 0]) (hl : sb < base) (hs : base ≤ W.heap.size) : LB sb base [] none 0 W := ⟨hr,World.ownsRow_nil _ _ _ _,hl,hs⟩
theorem LB.next {W' : World} (h : LB sb base es A c W) (hb : Below W.heap.size W W') : LB sb base es A c W' := ⟨h.row.below hb h.row.lt,own_belowU h.own hb (fun g hg => (h.own.lt g hg).2),h.lt,Nat.le_trans h.sz hb.size⟩
theorem LB.step {W1 w9 : World} {x : Tv} {g9 c9 : Nat} (h : LB sb base es A c W) (hb : Below W.heap.size W W1) (ho : w9.ownsRow base 107 4 (.slice (some ⟨g9,0,none⟩) (es.length + 1) c9) (es.length + 1) (tvCells es ++ x.cells))
  (hg : W1.grownBy w9 (Value.slice A es.length c).ownBlock) : LB sb base (es ++ [x]) (some ⟨g9,0,none⟩) c9 (w9.setCell ⟨sb,3,none⟩ (.slice (some ⟨g9,0,none⟩) (es.length + 1) c9)) := by
 have h1 := h.next hb;have hl : (es ++ [x]).length = es.length + 1 := by simp
 have hr9 : Row w9 sb _ _ := h1.row.grown hg (fun e => by have := (h.own.lt sb e.symm).1;have := h.lt;omega);refine ⟨?_,?_,h.lt,?_⟩
 ·rw [hl];exact hr9.put 3 _
 ·rw [hl,show tvCells (es ++ [x]) = tvCells es ++ x.cells by simp [tvCells]]
  exact own_setC ho (by show sb < base;exact h.lt) _
 ·rw [World.size_setCell];exact Nat.le_trans h1.sz hg.size
theorem LB.bel {B : Nat} {w W1 w9 : World} {v : Value} (h : LB sb base es A c W) (hw : Below B w W) (hb : Below W.heap.size W W1) (hg : W1.grownBy w9 (Value.slice A es.length c).ownBlock) (hB : B ≤ sb) : Below B w (w9.setCell ⟨sb,3,none⟩ v) := by
 have h1 : Below B w W1 := hw.trans (hb.mono (by have := h.row.lt;omega));refine (h1.grown hg (by have := h1.size;have := hw.size;have := h.row.lt;have := hb.size;omega) (fun g e => by have := (h.own.lt g e).1;have := h.lt;omega)).setCell (p := ⟨sb,3,none⟩) hB _
theorem LB.cap (h : LB sb base es A c W) : es.length ≤ c ∧ c ≤ maxLen := by
 rcases h.own.2 with ⟨e1,e2⟩ | ⟨g,cap,cur,e1,_,_,h3,h4,_⟩
 ·injection e1 with _ _ e1;rw [e2,e1];exact ⟨Nat.le_refl _,Nat.zero_le _⟩
 ·injection e1 with _ _ e1;subst e1;exact ⟨h3,h4⟩
theorem LB.rd (h : LB sb base es A c W) : Rd W W.heap.size 4 A es.length (tvCells es) := Rd.of_own h.own
end
def leafE : Tv → List Int
 | .int z => 1 :: Cd.numL (uns z)
 | .txt s => [2] ++ Cd.numL s.size ++ strInts s
 | .lst _ _ _ => []
def leafOk : Tv → Prop
 | .int z => -9223372036854775808 ≤ z ∧ z < 9223372036854775808
 | .txt s => s.size ≤ 2000
 | .lst _ _ _ => False
theorem leafE_len {x : Tv} (h : leafOk x) : (leafE x).length ≤ 2011 := by
 cases x with
 | int z =>
  have := Cd.numL_ten (uns_lt h);show (1 :: Cd.numL (uns z)).length ≤ 2011;rw [List.length_cons];omega
 | txt s =>
  have h' : s.size ≤ 2000 := h;have := Cd.numL_ten (u := s.size) (by omega);show ([2] ++ Cd.numL s.size ++ strInts s).length ≤ 2011;rw [List.length_append,List.length_append,strInts_length];simp only [List.length_cons,List.length_nil];omega
 | lst => exact h.elim
theorem leafs_len : ∀ {es : List Tv},(∀ x ∈ es,leafOk x) → (es.map leafE).flatten.length ≤ 2011 * es.length
 | [],_ => by simp
 | a :: l,h => by
  have h1 := leafE_len (h a (by simp));have h2 := leafs_len (es := l) (fun x hx => h x (by simp [hx]));simp only [List.map_cons,List.flatten_cons,List.length_append,List.length_cons];omega
theorem leaf_fc {w : World} {B : Nat} {x : Tv} (h : leafOk x) : FC w B x 0 := by
 cases x with
 | int z => exact fc_int w B z
 | txt s => exact fc_txt w B s
 | lst => exact h.elim
theorem leaf_wc {w : World} {B : Nat} {x : Tv} (h : leafOk x) : WC w B x (leafE x) := by
 cases x with
 | int z => exact wc_int w B z h
 | txt s => exact wc_txt w B s (Nat.le_trans h (by decide))
 | lst => exact h.elim
theorem mxd_zero : ∀ n : Nat,mxd (fun _ => 0) n = 0
 | 0 => rfl
 | n + 1 => by show max (mxd (fun _ => 0) n) 0 = 0;rw [mxd_zero n];rfl
theorem flat_fc {w : World} {B n c : Nat} {A : Option Addr} {es : List Tv} (hl : es.length = n) (hp : 0 < n) (hn : n ≤ 1000) (hr : Rd w B 4 A n (tvCells es)) (hnc : n ≤ c) (hB : B ≤ w.heap.size) (hok : ∀ x ∈ es,leafOk x) : FC w B (.lst A n c) 1 := by
 have := fc_list w B A n c es (fun _ => 0) hl hp hn hr hnc hB (fun k x hx => leaf_fc (hok x (List.mem_of_getElem? hx))) (fun _ _ => by decide);rw [mxd_zero] at this;exact this
theorem flat_wc {w : World} {B n c : Nat} {A : Option Addr} {es : List Tv} (hl : es.length = n) (hn : n ≤ 40) (hr : Rd w B 4 A n (tvCells es)) (hnc : n ≤ c) (hok : ∀ x ∈ es,leafOk x) : WC w B (.lst A n c) (encL (es.map leafE)) := by
 refine wc_list w B A n c es (es.map leafE) hl (by simp [hl]) (by omega) (by have := leafs_len hok;omega) hr hnc fun k x hx => ?_;have : (es.map leafE).getD k [] = leafE x := by rw [List.getD_eq_getElem?_getD,List.getElem?_map,hx];rfl
 rw [this];exact leaf_wc (hok x (List.mem_of_getElem? hx))
def Byts (bs : List Int) : Prop := ∀ x ∈ bs,0 ≤ x ∧ x < 256
theorem Byts.app {a b : List Int} (h : Byts a) (k : Byts b) : Byts (a ++ b) := fun x hx => by
 rcases List.mem_append.1 hx with h1 | h1
 ·exact h x h1
 ·exact k x h1
theorem byts_num : ∀ (u : Nat),Byts (Cd.numL u) := by
 intro u
 induction u using Nat.strongRecOn with
 | ind u ih =>
  intro x hx
  by_cases h : u < 128
  ·rw [Cd.numL_small h] at hx
   have : x = (u : Int) := by simpa using hx
   omega
  ·rw [Cd.numL_big h] at hx
   rcases List.mem_cons.1 hx with h1 | h1
   ·have hw : ∀ y : Int,0 ≤ IntKind.u8.wrap y ∧ IntKind.u8.wrap y < 256 := fun y => by
     rw [show IntKind.u8.wrap y = y % 256 by simp [IntKind.wrap,IntKind.bits,IntKind.signed]];omega
    rw [h1];exact hw _
   ·exact ih (u / 128) (by omega) x h1
theorem byts_one {x : Int} (h0 : 0 ≤ x) (h1 : x < 256) : Byts [x] := fun y hy => by
 have : y = x := by simpa using hy
 omega
theorem byts_leaf (x : Tv) : Byts (leafE x) := by
 cases x with
 | int z => exact (byts_one (by decide) (by decide)).app (byts_num _)
 | txt s => exact ((byts_one (by decide) (by decide)).app (byts_num _)).app (strInts_byt s)
 | lst => intro x hx;cases hx
theorem byts_flat {es : List (List Int)} (h : ∀ e ∈ es,Byts e) : Byts es.flatten := fun x hx => by
 obtain ⟨e,he,hx⟩ := List.mem_flatten.1 hx;exact h e he x hx
theorem byts_encL {es : List (List Int)} (h : ∀ e ∈ es,Byts e) : Byts (encL es) := ((byts_one (by decide) (by decide)).app (byts_num _)).app (byts_flat h)
theorem byts_leafs (es : List Tv) : Byts (encL (es.map leafE)) := byts_encL fun e he => by
 obtain ⟨x,_,rfl⟩ := List.mem_map.1 he;exact byts_leaf x
theorem encL_len (es : List (List Int)) (h : es.length ≤ 1000) : (encL es).length ≤ 11 + es.flatten.length := by
 have := Cd.numL_ten (u := es.length) (by omega);unfold encL;rw [List.length_append,List.length_append];simp only [List.length_cons,List.length_nil];omega
theorem encode_flat (w : World) (A : Option Addr) (n c : Nat) (es : List Tv) (hl : es.length = n) (hp : 0 < n) (hn : n ≤ 40) (hr : Rd w w.heap.size 4 A n (tvCells es)) (hnc : n ≤ c) (hok : ∀ x ∈ es,leafOk x) :
  Calls Tryz.prog 42 #[(Tv.lst A n c).val] w (EncPT (encL (es.map leafE)) w) :=
 encode_tv w A n c 1 _ (flat_fc hl hp (by omega) hr hnc (Nat.le_refl _) hok) (flat_wc hl hn hr hnc hok) (by
  have h1 := leafs_len hok;have h2 := encL_len (es.map leafE) (by simp;omega)
  omega)
namespace Sh
def cut7 (D : List Int) : List Int := D.set 0 (bits .and .u8 (D.getD 0 0) 127)
def num (D : List Int) : Nat → Int
 | 0 => 0
 | k + 1 => bits .or .i64 (wrap64 (num D k * 256)) (D.getD k 0)
def hash (c : Cst) (t bs : List Int) : Int := (num (cut7 (tagged c t bs)) c.d).tmod 1073741789
theorem wrap8 (n : Int) : Byt (IntKind.u8.wrap n) := by
 rw [show IntKind.u8.wrap n = n % 256 by simp [IntKind.wrap,IntKind.bits,IntKind.signed]];exact ⟨by omega,by omega⟩
theorem and127 (x : Int) : Byt (bits .and .u8 x 127) := wrap8 _
theorem cut7_bytes {D : List Int} (h : ∀ x ∈ D,Byt x) : ∀ x ∈ cut7 D,Byt x := fun x hx => by
 rcases List.mem_or_eq_of_mem_set hx with h1 | h1
 ·exact h x h1
 ·subst h1;exact and127 _
theorem tagged_bytes (c : Cst) (t bs : List Int) : ∀ x ∈ tagged c t bs,Byt x := sum_bytes _ _
end Sh
theorem ghash_any (K : Sh.Cst) (s : ByteArray) (A : Option Addr) (n cap : Nat) (bs : List Int) (w : World) (hs : s.size ≤ 1000) (hr : Rd w w.heap.size 1 A n (bs.map (Value.int .u8))) (hbb : ∀ x ∈ bs,0 ≤ x ∧ x < 256)
  (hn : n ≤ 100000) (hnc : n ≤ cap) (hcap : cap ≤ maxLen) (hL : Laid w) :
  Calls Tryz.prog 65 #[.string s,.slice A n cap] w fun e w' => e = .returned (.int .i64 (Sh.hash K (strInts s) bs)) ∧ Below w.heap.size w w' := by
 have HKd := Lib.hid K.hd;have HR := Lib.hid hr;clear hr;go_enter Tryz.func65,Tryz.ntmps65
 go_wp2_with fail
 refine (tagged_any K s A n cap bs w hs HR.out hbb hn hnc hcap hL).mono ?_;rintro e w1 ⟨rfl,hb1⟩;have hT := Sh.tagged_length K (strInts s) bs;have hTb := Sh.tagged_bytes K (strInts s) bs;obtain ⟨T,hTe⟩ : ∃ T,Sh.tagged K (strInts s) bs = T := ⟨_,rfl⟩;rw [hTe] at hT hTb ⊢;have HTE := Lib.hid hTe;have hi73 : (Tryz.prog.info? 27).map (·.size) = some T.length := by rw [hT];kernel_rfl
 have HT := Lib.hid hT;have HTB := Lib.hid hTb;clear hTe hT hTb;have hN := Ints.new w1 27 .u8 (List.replicate 32 0)
 go_wp2_with (refine wpList_store_ints rfl 27 (.tmp 5) (.tmp 9) rfl w1.heap.size .u8 T (by rfl) (by rfl) 27 _ hN (by rw [HT.out];rfl) hi73 ?_;intro w2 hN2 hg2;obtain ⟨x0,hx0⟩ : ∃ x,T.getD 0 0 = x := ⟨_,rfl⟩;have q0 := hN2.cell (i := 0) (by rw [HT.out];omega);have f0 := hN2.frozen 0;rw [hx0] at q0;have HX0 := Lib.hid hx0;clear hx0)
 have hC : Ints (w2.setCell ⟨w1.heap.size,0,none⟩ (.int .u8 (bits .and .u8 x0 127))) w1.heap.size 27 .u8 (Sh.cut7 T) := by
  unfold Sh.cut7;rw [HX0.out];exact hN2.set_ 0 _
 have hB := (((hb1.alloc hb1.size _).grown hg2 (by simp;have := hb1.size;omega) (fun g e => by injection e with e;have := hb1.size;omega)).setCell (p := ⟨w1.heap.size,0,none⟩) hb1.size (.int .u8 (bits .and .u8 x0 127)));clear q0 f0 hN2 hg2 hN HX0;generalize w2.setCell ⟨w1.heap.size,0,none⟩ (.int .u8 (bits .and .u8 x0 127)) = w3 at hC hB ⊢;have HCB := Lib.hid (Sh.cut7_bytes HTB.out);have HCL : Hid ((Sh.cut7 T).length = 32) := by show _ = _;rw [Sh.cut7,List.length_set];exact HT.out
 have HC2 : Hid (Sh.hash K (strInts s) bs = (Sh.num (Sh.cut7 T) K.d).tmod 1073741789) := by
  show _ = _;rw [Sh.hash,HTE.out]
 generalize Sh.cut7 T = C at *
 go_loopw [4,14] (fun n i wx => ∃ k : Nat,k ≤ 8 ∧ i = .int .i64 k ∧ n = .int .i64 (Sh.num C k) ∧ w3 = wx) (fun _ i _ => 8 - (intOf i).toNat)
 case atStart => exact ⟨0,by omega,rfl,rfl,rfl⟩
 case round =>
  obtain ⟨k,hk,rfl,rfl,rfl⟩ := hrel
  by_cases hlt : k < 8
  ·have q := hC.cell (i := k) (by rw [HCL.out];omega)
   have HQ : Hid (Sh.num C (k + 1) = bits .or .i64 (wrap64 (Sh.num C k * 256)) (C.getD k 0)) := rfl;obtain ⟨b1,b2⟩ := getD_bd HCB.out (j := k) (by rw [HCL.out];omega);generalize C.getD k 0 = x at *;generalize Sh.num C k = m at *;have k1 : (k : Int) < 8 := by omega
   go_wp2;go_roundw
   case rel => exact ⟨k + 1,by omega,by go_num,by rw [HQ.out],trivial⟩
   case measure => simp [intOf];omega
  ·have h8 : k = K.d := by have := HKd.out;omega
   rw [← h8] at HC2;clear h8;generalize Sh.num C k = m at *;go_wp2;go_ret;exact ⟨ret_int HC2.out.symm,hB⟩
end Go.Proofs.YtifejdpffkeniaaGreatDoor
