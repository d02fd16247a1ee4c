import Derived.Defers
import Derived.Recover
import Derived.Test.YtjcpjhlclpdpjaaGreatS19
set_option linter.unusedVariables false
set_option maxRecDepth 100000
set_option maxHeartbeats 16000000
namespace Go.Proofs.YtjcpjhlclpdpjaaGreat
open Go.RowKit
attribute [local go_sem] Oper.semAt_some
theorem eqlI_nil (w : World) (a : Option Addr) (l c : Nat) : (binOp .eql 23 (.slice a l c) (.slice none 0 0)).run Tryz.prog w = .ok (.bool a.isNone) w := by
 have h := run_equal_slice_nil (P := Tryz.prog) w 23 _ a l c Tryz.underlying23
 simp [binOp,h]
theorem i64_one (l : List Int) : ∀ u ∈ ivs l,u.oneCell' = true := by
 intro u hu
 obtain ⟨x,_,rfl⟩ := List.mem_map.1 hu
 rfl
theorem own_mono {w : World} {b b' : Nat} {e : TypeId} {size : Nat} {v : Value} {n : Nat} {xs : List Value} (h : b ≤ b') (ho : w.ownsRow b' e size v n xs) : w.ownsRow b e size v n xs := by
 refine ⟨ho.1,?_⟩
 rcases ho.2 with h2 | ⟨g,cap,cur,e1,e2,e3⟩
 ·exact .inl h2
 ·exact .inr ⟨g,cap,cur,e1,by omega,e3⟩
theorem madeNil (n : Nat) : madeCells #[Value.slice none 0 0] n = (List.replicate n (Value.slice none 0 0)).toArray := by
 apply Array.ext'
 rw [toList_madeCells_one]
theorem clone_any (r : RI) (w : World) (h : r.ok w w.heap.size) (hp : 0 < r.d.length) (hn : r.d.length ≤ 4096) :
  Calls Tryz.prog 85 #[r.cell] w fun x w' => ∃ g cap,x = .returned (.slice (some ⟨g,0,none⟩) r.d.length cap) ∧ w'.ownsRow w.heap.size 3 1 (.slice (some ⟨g,0,none⟩) r.d.length cap) r.d.length (ivs r.d) ∧ Below w.heap.size w w' := by
 have hrd := h.1
 have hcm := h.2
 obtain ⟨A,c,d⟩ := r
 change 0 < d.length at hp
 change d.length ≤ 4096 at hn
 change d.length ≤ c ∧ c ≤ maxLen at hcm
 have hrd : Rd w w.heap.size 1 A d.length (ivs d) := hrd
 obtain ⟨b,o,e1,_,_⟩ := hrd.2 hp
 subst e1
 show Calls _ _ #[.slice (some ⟨b,o,none⟩) d.length c] _ _
 obtain ⟨n,hnn⟩ : ∃ n,d.length = n := ⟨_,rfl⟩
 obtain ⟨D,hD⟩ : ∃ D,ivs d = D := ⟨_,rfl⟩
 have hone := i64_one d
 rw [hD] at hone
 have hown : (w.alloc (.cells #[] 3)).ownsRow w.heap.size 3 1 (.slice (some ⟨w.heap.size,0,none⟩) 0 0) 0 [] := World.ownsRow_lit w #[] 0 (Nat.le_refl _) (by unfold maxLen;omega) rfl
 have hb : Below w.heap.size w (w.alloc (.cells #[] 3)) := (Below.refl _ w).alloc (Nat.le_refl _) _
 show Calls _ _ _ _ fun x w' => ∃ g cap,x = .returned (.slice (some ⟨g,0,none⟩) d.length cap) ∧ w'.ownsRow w.heap.size 3 1 (.slice (some ⟨g,0,none⟩) d.length cap) d.length (ivs d) ∧ Below w.heap.size w w'
 rw [hnn] at hp hn hrd ⊢
 rw [hD] at hrd ⊢
 have HR := Lib.hid (hrd.below hb)
 have HO := Lib.hid hown
 have HB := Lib.hid hb
 have HONE := Lib.hid hone
 have he := eqlI_nil w (some ⟨b,o,none⟩) n c
 clear hnn hD hrd hown hb hone h hcm
 go_enter Tryz.func85,Tryz.ntmps85
 go_wp2_with (at_builtin;refine wpList_append_rd _ rfl (.tmp 5) (.tmp 6) 23 rfl w.heap.size 3 _ (.int .i64 0) 1 8 Tryz.underlying23 rfl rfl rfl rfl rfl (by decide) (.slice (some ⟨w.heap.size,0,none⟩) 0 0) 0 [] (by rfl) HO.out w.heap.size (some ⟨b,o,none⟩) n c D (by rfl) HR.out HONE.out (by unfold maxLen;omega) (by omega) (by simp) ?_;intro v2 w2 hown2 hg2 _)
 rw [Nat.zero_add,List.nil_append] at hown2
 obtain ⟨g,cap,rfl,h1,h2⟩ := hown2.form hp
 go_ret
 exact ⟨g,cap,rfl,hown2,HB.out.grown hg2 (by simp) (fun k e => by have e' : w.heap.size = k := (by simpa [Value.ownBlock] using e);omega)⟩
theorem makeT_any (n : Nat) (hn : n ≤ 4096) (w : World) : (Instr.makeSlice 139 (.int .i64 (n : Int)) (.int .i64 (n : Int))).run Tryz.prog w = .ok (.slice (some ⟨w.heap.size,0,none⟩) n n) (w.alloc (.cells (madeCells #[.slice none 0 0] n) 23)) := by
 obtain ⟨ii,hii,hzz⟩ := Option.map_eq_some_iff.1 (show (Tryz.prog.info? 23).map (fun i => (i.zero,i.size,i.bytes)) = some (some (.slice none 0 0),1,24) by kernel_rfl)
 simp only [Prod.mk.injEq] at hzz
 have h := run_make (P := Tryz.prog) w 139 23 ii (.slice none 0 0) Tryz.underlying139 hii hzz.1 .i64 .i64 (n : Int) (n : Int) (by omega) (Int.le_refl _) (by rw [hzz.2.2];omega) (by omega)
 rw [Int.toNat_natCast,hzz.2.1,Nat.mul_one] at h
 exact h
theorem makeI_any (n : Nat) (hn : n ≤ 4096) (w : World) : (Instr.makeSlice 23 (.int .i64 (n : Int)) (.int .i64 (n : Int))).run Tryz.prog w = .ok (.slice (some ⟨w.heap.size,0,none⟩) n n) (w.alloc (.cells (madeCells #[.int .i64 0] n) 3)) := by
 obtain ⟨ii,hii,hzz⟩ := Option.map_eq_some_iff.1 (show (Tryz.prog.info? 3).map (fun i => (i.zero,i.size,i.bytes)) = some (some (.int .i64 0),1,8) by kernel_rfl)
 simp only [Prod.mk.injEq] at hzz
 have h := run_make (P := Tryz.prog) w 23 3 ii (.int .i64 0) Tryz.underlying23 hii hzz.1 .i64 .i64 (n : Int) (n : Int) (by omega) (Int.le_refl _) (by rw [hzz.2.2];omega) (by omega)
 rw [Int.toNat_natCast,hzz.2.1,Nat.mul_one] at h
 exact h
structure PTab (w : World) (B tb : Nat) (gs : List (Nat × Nat)) (L : Nat) (M : Nat → Nat → Int) (tail : List Value) : Prop where
 top : Row w tb 23 ((gs.map fun g => .slice (some ⟨g.1,0,none⟩) L g.2) ++ tail)
 row : ∀ i,i < gs.length → w.ownsRow B 3 1 (.slice (some ⟨(gk gs i).1,0,none⟩) L (gk gs i).2) L (rowV M L i)
 inj : ∀ i j,i < gs.length → j < gs.length → (gk gs i).1 = (gk gs j).1 → i = j
 ne : ∀ i,i < gs.length → (gk gs i).1 ≠ tb
 lo : B ≤ tb
section
variable {w w' : World} {B tb L : Nat} {gs : List (Nat × Nat)} {M : Nat → Nat → Int} {tail : List Value}
theorem PTab.glt (h : PTab w B tb gs L M tail) {i : Nat} (hi : i < gs.length) : B ≤ (gk gs i).1 ∧ (gk gs i).1 < w.heap.size := (h.row i hi).lt _ rfl
theorem PTab.kept (h : PTab w B tb gs L M tail) {row : Option Nat} (hg : w.grownBy w' row) (hne : ∀ r,row = some r → r ≠ tb ∧ ∀ i,i < gs.length → (gk gs i).1 ≠ r) : PTab w' B tb gs L M tail :=
 ⟨h.top.grown hg (fun e => (hne tb e.symm).1 rfl),fun i hi => (h.row i hi).kept hg (.inr fun e => (hne _ e.symm).2 i hi rfl),h.inj,h.ne,h.lo⟩
theorem PTab.next (h : PTab w B tb gs L M tail) (hb : Below w.heap.size w w') : PTab w' B tb gs L M tail := h.kept (grown_of_below hb) (fun r e => by cases e)
theorem PTab.full (h : PTab w B tb gs L M []) : Tab w B tb gs L M := ⟨by simpa using h.top,h.row,h.inj,h.ne,h.lo⟩
theorem gk_snoc_lt {p : Nat × Nat} {i : Nat} (hi : i < gs.length) : gk (gs ++ [p]) i = gk gs i := by
 unfold gk
 rw [List.getD_eq_getElem?_getD,List.getElem?_append_left hi,← List.getD_eq_getElem?_getD]
theorem gk_snoc_eq {p : Nat × Nat} : gk (gs ++ [p]) gs.length = p := by
 unfold gk
 rw [List.getD_eq_getElem?_getD,List.getElem?_append_right (Nat.le_refl _),Nat.sub_self];rfl
theorem PTab.slot {x : Value} (h : PTab w B tb gs L M (x :: tail)) (v : Value) : PTab (w.setCell ⟨tb,gs.length,none⟩ v) B tb gs L M (v :: tail) :=
 ⟨by
  have := h.top.put gs.length v
  rwa [List.set_append_right (h := by simp),List.length_map,Nat.sub_self,List.set_cons_zero] at this,fun i hi => (h.row i hi).kept (grown_set (World.grownBy.refl w (some tb)) gs.length v) (.inr (by intro e;exact h.ne i hi (by simpa [Value.ownBlock] using e))),h.inj,h.ne,h.lo⟩
theorem PTab.push {g cap : Nat} (h : PTab w B tb gs L M (.slice (some ⟨g,0,none⟩) L cap :: tail)) (hg : w.ownsRow B 3 1 (.slice (some ⟨g,0,none⟩) L cap) L (rowV M L gs.length)) (hne : g ≠ tb) (hd : ∀ i,i < gs.length → (gk gs i).1 ≠ g) : PTab w B tb (gs ++ [(g,cap)]) L M tail := by
 refine ⟨by simpa using h.top,fun i hi => ?_,fun i j hi hj e => ?_,fun i hi => ?_,h.lo⟩
 ·rw [List.length_append,List.length_singleton] at hi
  rcases Nat.lt_or_ge i gs.length with h1 | h1
  ·rw [gk_snoc_lt h1];exact h.row i h1
  ·obtain rfl : i = gs.length := by omega
   rw [gk_snoc_eq];exact hg
 ·rw [List.length_append,List.length_singleton] at hi hj
  rcases Nat.lt_or_ge i gs.length with h1 | h1
  ·rcases Nat.lt_or_ge j gs.length with h2 | h2
   ·rw [gk_snoc_lt h1,gk_snoc_lt h2] at e;exact h.inj i j h1 h2 e
   ·obtain rfl : j = gs.length := by omega
    rw [gk_snoc_lt h1,gk_snoc_eq] at e;exact absurd e (hd i h1)
  ·obtain rfl : i = gs.length := by omega
   rcases Nat.lt_or_ge j gs.length with h2 | h2
   ·rw [gk_snoc_eq,gk_snoc_lt h2] at e;exact absurd e.symm (hd j h2)
   ·omega
 ·rw [List.length_append,List.length_singleton] at hi
  rcases Nat.lt_or_ge i gs.length with h1 | h1
  ·rw [gk_snoc_lt h1];exact h.ne i h1
  ·obtain rfl : i = gs.length := by omega
   rw [gk_snoc_eq];exact hne
theorem PTab.start (hB : B ≤ w.heap.size) (n : Nat) : PTab (w.alloc (.cells (madeCells #[.slice none 0 0] n) 23)) B w.heap.size [] L M (List.replicate n (.slice none 0 0)) :=
 ⟨by rw [madeNil];exact Row.fresh _ _ _,fun i hi => absurd hi (by simp),fun i j hi => absurd hi (by simp),fun i hi => absurd hi (by simp),hB⟩
end
def rowM (rs : List RI) (i j : Nat) : Int := (rs.getD i r0).d.getD j 0
theorem rowV_rowM {rs : List RI} {L k : Nat} (hl : (rs.getD k r0).d.length = L) : rowV (rowM rs) L k = ivs (rs.getD k r0).d := by
 unfold rowV
 refine List.ext_getElem? fun j => ?_
 by_cases hj : j < L
 ·rw [List.getElem?_map,List.getElem?_range hj,List.getElem?_map,List.getElem?_eq_getElem (by omega)]
  show some (Value.int .i64 ((rs.getD k r0).d.getD j 0)) = _
  rw [List.getD_eq_getElem?_getD (l := (rs.getD k r0).d),List.getElem?_eq_getElem (by omega)]
  rfl
 ·rw [List.getElem?_eq_none (by rw [List.length_map,List.length_range];omega),List.getElem?_eq_none (by rw [List.length_map];omega)]
theorem copyOf_any (L : Nat) (A : Option Addr) (c : Nat) (rs : List RI) (w : World) (h : RdM w w.heap.size A rs) (hf : ∀ r ∈ rs,FRow L r) (hL0 : 0 < L) (hL : L ≤ 64) (hn : rs.length ≤ 64) :
  Calls Tryz.prog 76 #[.slice A rs.length c] w fun x w' => ∃ gs,x = .returned (.slice (some ⟨w.heap.size,0,none⟩) rs.length rs.length) ∧ gs.length = rs.length ∧ Tab w' w.heap.size w.heap.size gs L (rowM rs) ∧ Below w.heap.size w w' := by
 obtain ⟨s,hs⟩ : ∃ s,w.heap.size = s := ⟨_,rfl⟩
 have HA : Hid (∀ k,k < rs.length → ∃ b o rA rc,A = some ⟨b,o,none⟩ ∧ (∀ W,Below s w W → W.cell? ⟨b,o + k,none⟩ = some (.slice rA L rc) ∧ Calls Tryz.prog 85 #[.slice rA L rc] W fun x w' => ∃ g cap,x = .returned (.slice (some ⟨g,0,none⟩) L cap) ∧ w'.ownsRow W.heap.size 3 1 (.slice (some ⟨g,0,none⟩) L cap) L (rowV (rowM rs) L k) ∧ Below W.heap.size W w')) := fun k hk => by
  obtain ⟨b,o,e1,_,hc⟩ := h.at (by omega)
  have hm := (getD_mem' hk).1
  have hl := (hf _ hm).len
  refine ⟨b,o,(rs.getD k r0).A,(rs.getD k r0).c,e1,fun W hW => ⟨?_,?_⟩⟩
  ·have := hc k hk W (by rw [hs];exact hW)
   rw [RI.cell_eq,hl] at this
   exact this
  ·have := clone_any (rs.getD k r0) W (((h.rows _ hm).below (by rw [hs];exact hW)).more (by have := hW.size;rw [hs];omega)) (by rw [hl];exact hL0) (by rw [hl];omega)
   rw [RI.cell_eq,hl,← rowV_rowM hl] at this
   exact this
 obtain ⟨n,hnn⟩ : ∃ n,rs.length = n := ⟨_,rfl⟩
 have HP0 : Hid (PTab (w.alloc (.cells (madeCells #[.slice none 0 0] n) 23)) s s [] L (rowM rs) (List.replicate n (.slice none 0 0))) := by
  have := PTab.start (w := w) (B := s) (L := L) (M := rowM rs) (by rw [hs];exact Nat.le_refl _) n
  rwa [hs] at this
 have HB0 : Hid (Below s w (w.alloc (.cells (madeCells #[.slice none 0 0] n) 23))) := by show Below _ _ _;rw [← hs];exact (Below.refl _ w).alloc (Nat.le_refl _) _
 have HS := Lib.hid hs
 rw [hnn] at HA hn ⊢
 rw [hs]
 clear h hf hs hnn
 have hmk := makeT_any n (by omega)
 go_enter Tryz.func76,Tryz.ntmps76
 go_wp2
 rw [HS.out]
 generalize (w.alloc (.cells (madeCells #[.slice none 0 0] n) 23)) = w1 at HP0 HB0 ⊢
 go_loopw [11] (fun i wr => ∃ (k : Nat) (gs : List (Nat × Nat)),k ≤ n ∧ i = .int .i64 k ∧ gs.length = k ∧ PTab wr s s gs L (rowM rs) (List.replicate (n - k) (.slice none 0 0)) ∧ Below s w wr) (fun i _ => n - (intOf i).toNat)
 case atStart => exact ⟨0,[],Nat.zero_le _,rfl,rfl,HP0.out,HB0.out⟩
 case round =>
  clear HP0 HB0
  obtain ⟨k,gs,hk,rfl,hgl,hP,hb⟩ := hrel
  have HP := Lib.hid hP
  have HB := Lib.hid hb
  by_cases hlt : k < n
  ·have k1 : (k : Int) < (n : Int) := by omega
   have k0 : (0 : Int) ≤ (k : Int) := by omega
   obtain ⟨b,o,rA,rc,hA1,hall⟩ := HA.out k hlt
   subst hA1
   obtain ⟨q0,hC⟩ := hall wr hb
   have HC := Lib.hid hC
   have hsz := hb.size
   have hsw := hP.top.lt
   have HG := Lib.hid hgl
   clear hall hC hP hb hgl
   go_wp2_with fail
   refine HC.out.mono ?_
   rintro x w2 ⟨g,cap,rfl,hown,hb2⟩
   have hP2 := HP.out.next hb2
   have hg2 := (hown.lt g rfl)
   obtain ⟨m,hm⟩ : ∃ m,n - k = m + 1 := ⟨n - k - 1,by omega⟩
   rw [hm,List.replicate_succ] at hP2
   have hd : ∀ i,i < gs.length → (gk gs i).1 ≠ g := fun i hi e => by have h1 := (HP.out.glt hi).2;rw [e] at h1;omega
   have hne : g ≠ s := by omega
   have hownK := hown
   rw [← HG.out] at hownK
   have hP3 := (hP2.slot (.slice (some ⟨g,0,none⟩) L cap)).push (own_mono (b := s) (b' := wr.heap.size) (by omega) (hownK.kept (grown_set (World.grownBy.refl w2 (some s)) gs.length _) (.inr (by intro e;exact hne (by simpa [Value.ownBlock] using e))))) hne hd
   rw [HG.out] at hP3
   have c9 := hP2.top.cell (i := gs.length) (by rw [List.getElem?_append_right (by simp),List.length_map,Nat.sub_self];rfl)
   have f9 := hP2.top.fz gs.length
   rw [HG.out] at c9 f9
   have hsz2 := hb2.size
   have hB2 : Below s w w2 := HB.out.trans (hb2.mono (by omega))
   have HP3 := Lib.hid (And.intro hP3 (And.intro hB2 hm))
   clear hP2 hP3 hown hownK hb2 hd hB2 hm q0
   go_wp2
   go_roundw
   case rel => exact ⟨k + 1,gs ++ [(g,cap)],by omega,by go_num,by simp [HG.out],by rw [show n - (k + 1) = m by have := HP3.out.2.2;omega];exact HP3.out.1,HP3.out.2.1.setCell (p := ⟨s,k,none⟩) (Nat.le_refl _) _⟩
   case measure => simp [intOf];omega
  ·obtain rfl : k = n := by omega
   clear hP hb
   go_wp2
   go_ret
   refine ⟨gs,rfl,hgl,?_,HB.out⟩
   have := HP.out
   rw [Nat.sub_self,List.replicate_zero] at this
   exact this.full
theorem hown_lt {w : World} {b : Nat} {e : TypeId} {size : Nat} {v : Value} {n : Nat} {xs : List Value} (h : w.ownsRow b e size v n xs) (g : Nat) (hg : v.ownBlock = some g) : b ≤ g := (h.lt g hg).1
theorem turn_step {s L n1 : Nat} {wr W1 w9 : World} {gs : List (Nat × Nat)} {M : Nat → Nat → Int} {v x v9 : Value} {tail XS : List Value} {m : Nat} {YS : List Value} (hP : PTab wr s s gs L M (x :: tail)) (ho : wr.ownsRow s 3 1 v n1 XS) (hd : ∀ g,v.ownBlock = some g → g ≠ s ∧ ∀ i,i < gs.length → (gk gs i).1 ≠ g)
  (hb : Below wr.heap.size wr W1) (ho9 : w9.ownsRow s 3 1 v9 m YS) (hg9 : W1.grownBy w9 v.ownBlock) (hor : v9.ownBlock = v.ownBlock ∨ v9.ownBlock = some W1.heap.size) : PTab w9 s s gs L M (x :: tail) ∧ ∀ g,v9.ownBlock = some g → g ≠ s ∧ ∀ i,i < gs.length → (gk gs i).1 ≠ g := by
 refine ⟨(hP.next hb).kept hg9 (fun r e => ⟨(hd r e).1,(hd r e).2⟩),fun g hg => ?_⟩
 rcases hor with h | h
 ·exact hd g (by rw [← h];exact hg)
 ·rw [h] at hg
  injection hg with hg
  have hs := hb.size
  have ht := hP.top.lt
  exact ⟨by omega,fun i hi e => by have := (hP.glt hi).2;omega⟩
def turnM (rs : List RI) (tg : List Int) (k j : Nat) : Int := if j < rs.length then (rs.getD j r0).d.getD k 0 else tg.getD k 0
theorem rowV_take {M : Nat → Nat → Int} {L k j : Nat} (hj : j < L) : (rowV M L k).take (j + 1) = (rowV M L k).take j ++ [.int .i64 (M k j)] := by
 rw [List.take_add_one,rowV_get hj];rfl
theorem turned_any (C : Nat) (A : Option Addr) (c : Nat) (rs : List RI) (t : RI) (w : World) (h : RdM w w.heap.size A rs) (hf : ∀ r ∈ rs,FRow C r) (ht : t.ok w w.heap.size) (htl : t.d.length = C) (hC0 : 0 < C) (hC : C ≤ 64) (hn : rs.length ≤ 63) :
  Calls Tryz.prog 88 #[.slice A rs.length c,t.cell] w fun x w' => ∃ gs,x = .returned (.slice (some ⟨w.heap.size,0,none⟩) C C) ∧ gs.length = C ∧ Tab w' w.heap.size w.heap.size gs (rs.length + 1) (turnM rs t.d) ∧ Below w.heap.size w w' := by
 obtain ⟨s,hs⟩ : ∃ s,w.heap.size = s := ⟨_,rfl⟩
 have HA : Hid (0 < rs.length → ∃ b o,A = some ⟨b,o,none⟩ ∧ ∀ j,j < rs.length → ∃ b2 o2 rc,(∀ W,Below s w W → W.cell? ⟨b,o + j,none⟩ = some (.slice (some ⟨b2,o2,none⟩) C rc)) ∧ ∀ k,k < C → ∀ W,Below s w W → W.cell? ⟨b2,o2 + k,none⟩ = some (.int .i64 (turnM rs t.d k j))) := fun h0 => by
  obtain ⟨b,o,e1,_,hc⟩ := h.at h0
  refine ⟨b,o,e1,fun j hj => ?_⟩
  have hm := (getD_mem' hj).1
  have hl := (hf _ hm).len
  obtain ⟨b2,o2,e2,_,hc2⟩ := RI.at (h.rows _ hm) (by rw [hl];exact hC0)
  refine ⟨b2,o2,(rs.getD j r0).c,fun W hW => ?_,fun k hk W hW => ?_⟩
  ·have := hc j hj W (by rw [hs];exact hW)
   rw [RI.cell_eq,hl,e2] at this
   exact this
  ·have := hc2 k (by rw [hl];exact hk) W (by rw [hs];exact hW)
   unfold turnM
   rw [if_pos hj]
   exact this
 have HT : Hid (0 < C → ∃ b o,t.A = some ⟨b,o,none⟩ ∧ ∀ k,k < C → ∀ W,Below s w W → W.cell? ⟨b,o + k,none⟩ = some (.int .i64 (turnM rs t.d k rs.length))) := fun h0 => by
  obtain ⟨b,o,e1,_,hc⟩ := RI.at ht (by omega)
  refine ⟨b,o,e1,fun k hk W hW => ?_⟩
  unfold turnM
  rw [if_neg (by omega)]
  exact hc k (by omega) W (by rw [hs];exact hW)
 obtain ⟨M,hM⟩ : ∃ M,turnM rs t.d = M := ⟨_,rfl⟩
 rw [hM] at HA HT
 obtain ⟨m,hnn⟩ : ∃ n,rs.length = n := ⟨_,rfl⟩
 obtain ⟨tA,tc,td⟩ := t
 change td.length = C at htl
 change Hid (0 < C → ∃ b o,tA = some ⟨b,o,none⟩ ∧ _) at HT
 show Calls _ _ #[_,.slice tA td.length tc] _ _
 have HP0 : Hid (PTab (w.alloc (.cells (madeCells #[.slice none 0 0] C) 23)) s s [] (m + 1) M (List.replicate C (.slice none 0 0))) := by
  have := PTab.start (w := w) (B := s) (L := m + 1) (M := M) (by rw [hs];exact Nat.le_refl _) C
  rwa [hs] at this
 have HB0 : Hid (Below s w (w.alloc (.cells (madeCells #[.slice none 0 0] C) 23))) := by show Below _ _ _;rw [← hs];exact (Below.refl _ w).alloc (Nat.le_refl _) _
 have HS := Lib.hid hs
 show Calls _ _ _ _ fun x w' => ∃ gs,x = .returned (.slice (some ⟨w.heap.size,0,none⟩) C C) ∧ gs.length = C ∧ Tab w' w.heap.size w.heap.size gs (rs.length + 1) (turnM rs td) ∧ Below w.heap.size w w'
 have hM : turnM rs td = M := hM
 rw [hM,htl]
 rw [hnn] at HA HT hn ⊢
 rw [hs]
 clear h hf ht htl hs hnn hM
 obtain ⟨ii,hii,hzz⟩ := Option.map_eq_some_iff.1 (show (Tryz.prog.info? 3).map (fun i => (i.zero,i.size,i.bytes)) = some (some (.int .i64 0),1,8) by kernel_rfl)
 simp only [Prod.mk.injEq] at hzz
 have HII : Hid (Tryz.prog.info? 3 = some ii ∧ ii.zero = some (.int .i64 0) ∧ ii.size = 1 ∧ ii.bytes = 8) := ⟨hii,hzz⟩
 clear hii hzz
 have hmk := makeT_any C (by omega)
 go_enter Tryz.func88,Tryz.ntmps88
 go_wp2
 clear hmk
 rw [HS.out]
 generalize (w.alloc (.cells (madeCells #[.slice none 0 0] C) 23)) = w1 at HP0 HB0 ⊢
 go_loopw [15] (fun i wr => ∃ (k : Nat) (gs : List (Nat × Nat)),k ≤ C ∧ i = .int .i64 k ∧ gs.length = k ∧ PTab wr s s gs (m + 1) M (List.replicate (C - k) (.slice none 0 0)) ∧ Below s w wr) (fun i _ => C - (intOf i).toNat)
 case atStart => exact ⟨0,[],Nat.zero_le _,rfl,rfl,HP0.out,HB0.out⟩
 case round =>
  clear HP0 HB0
  obtain ⟨k,gs,hk,rfl,hgl,hP,hb⟩ := hrel
  have HG := Lib.hid hgl
  by_cases hlt : k < C
  ·have k1 : (k : Int) < (C : Int) := by omega
   have k0 : (0 : Int) ≤ (k : Int) := by omega
   obtain ⟨tb2,to2,hA1,hall⟩ := HT.out (by omega)
   subst hA1
   have q0 := hall k hlt wr hb
   obtain ⟨NN,hNN⟩ : ∃ x,M k m = x := ⟨_,rfl⟩
   rw [hNN] at q0
   have HNN := Lib.hid hNN
   obtain ⟨e,he⟩ : ∃ e,C - k = e + 1 := ⟨C - k - 1,by omega⟩
   rw [he,List.replicate_succ] at hP
   have HE := Lib.hid he
   have HP := Lib.hid hP
   have HB := Lib.hid hb
   have HHT := Lib.hid hall
   clear hP hb hgl hall hNN he
   go_wp2_with fail
   clear q0
   obtain ⟨wo,hwo⟩ : ∃ wo : World,wo = wr := ⟨_,rfl⟩
   subst hwo
   go_loopw [22] (fun i wx => ∃ (j : Nat) (cA : Option Addr) (cc : Nat),j ≤ m ∧ i = .int .i64 j ∧ PTab wx s s gs (m + 1) M (.slice cA j cc :: List.replicate e (.slice none 0 0)) ∧ wx.ownsRow s 3 1 (.slice cA j cc) j ((rowV M (m + 1) k).take j) ∧ (∀ g,(Value.slice cA j cc).ownBlock = some g → g ≠ s ∧ ∀ i,i < gs.length → (gk gs i).1 ≠ g) ∧ Below s w wx) (fun i _ => m - (intOf i).toNat)
   case atStart => exact ⟨0,none,0,Nat.zero_le _,rfl,HP.out,World.ownsRow_nil _ _ _ _,fun g hg => (by cases hg),HB.out⟩
   case round =>
    clear HP HB
    obtain ⟨j,cA,cc,hj,rfl,hP,hown,hdj,hb⟩ := hrel
    have HPT := Lib.hid hP
    have HOW := Lib.hid hown
    have HDJ := Lib.hid hdj
    have HBW := Lib.hid hb
    have HSZ : Hid (s ≤ wr.heap.size) := by have := hP.top.lt;show s ≤ wr.heap.size;omega
    have hss := hP.top.lt
    have tcell := hP.top.cell (i := gs.length) (by rw [List.getElem?_append_right (by simp),List.length_map,Nat.sub_self];rfl)
    rw [HG.out] at tcell
    by_cases hltj : j < m
    ·have i1 : (j : Int) < (m : Int) := by omega
     have i0 : (0 : Int) ≤ (j : Int) := by omega
     obtain ⟨b,o,hA1,hall⟩ := HA.out (by omega)
     subst hA1
     obtain ⟨b2,o2,rc,hq0,hqa⟩ := hall j hltj
     have hq1 := hqa k hlt
     clear hqa
     obtain ⟨XX,hXX⟩ : ∃ x,M k j = x := ⟨_,rfl⟩
     obtain ⟨XS,hXS⟩ : ∃ x,(rowV M (m + 1) k).take j = x := ⟨_,rfl⟩
     have hxt : (rowV M (m + 1) k).take (j + 1) = XS ++ [.int .i64 XX] := by rw [rowV_take (by omega),hXS,hXX]
     rw [hXX] at hq1
     rw [hXS] at HOW
     have HQX := Lib.hid hq0
     have HQY := Lib.hid hq1
     have HXT := Lib.hid hxt
     have HIX : Hid ((0 : Int) ≤ (k : Int) ∧ (k : Int) < (C : Int) ∧ (0 : Int) ≤ (j : Int) ∧ (j : Int) < (m : Int)) := ⟨k0,k1,i0,i1⟩
     have HTC := Lib.hid (And.intro tcell hss)
     have q0 := hq0 wr hb
     clear hall hq0 hq1 hxt hXX hXS hP hown hdj hb tcell
     go_wp2_with fail
     rename_i Kz hKz
     clear q0
     refine wp_region_tree (fun w' => Below s w w') (.take 0 (.take 1 (.take 2 (.take 3 (.take 4 (.take 6 (.take 7 (.take 8 (.take 9 (.two 5 (.one 10 (.one 11 (.take 12 (.one 13 .done)))) 10 (.one 5 (.one 11 (.take 12 (.one 13 .done)))))))))))))) (by kernel_rfl) (by kernel_rfl) (by kernel_rfl) (by kernel_rfl) (fun x _ _ _ _ h => by cases x <;> exact h) HBW.out.drew ?_
     iterate 9 (refine wpOT_take rfl _ (by rfl) (by intro w' hS;have q0 := HQX.out w' hS;have q1 := HQY.out w' hS;obtain ⟨k0,k1,j0,j1⟩ := HIX.out;go_simp;try with_reducible rfl) fun KK hKK => ?_;go_simp;refine hKK _ ?_;clear hKK KK)
     refine wpOT_two rfl (by rfl) rfl (by rfl) (fun KK hKK => ?_) (fun KK hKK => ?_)
     ·have cx := HTC.out.1
      have lx := HTC.out.2
      go_simp
      refine hKK _ _ HBW.out.drew ?_
      clear hKK KK cx lx
      refine wpOT_one rfl (by rfl) fun KK hKK => ?_
      go_simp
      refine hKK _ _ ((HBW.out.alloc HSZ.out _).drew) ?_
      clear hKK KK
      refine wpOT_one rfl (by rfl) fun KK hKK => ?_
      refine wp_append_rd _ (.tmp 31) (.tmp 36) 23 rfl s 3 ii (.int .i64 0) 1 8 Tryz.underlying23 HII.out.1 HII.out.2.1 HII.out.2.2.1 HII.out.2.2.2 rfl (by decide) (.slice cA j cc) j XS (by rfl) (HOW.out.alloc _) (wr.heap.size + 1) (some ⟨wr.heap.size,0,none⟩) 1 1 [.int .i64 XX] (by rfl) ⟨rfl,fun _ => ⟨wr.heap.size,0,rfl,Nat.lt_succ_self _,fun q u hu => by rw [Nat.zero_add];match q,hu with | 0,hu => exact (Row.fresh wr 3 [.int .i64 XX]).cell hu | q + 1,hu => simp at hu⟩⟩ (by intro u hu;simp at hu;rw [hu];rfl) (by unfold maxLen;omega) (by omega) (by simp;omega) ?_
      intro v9 w9 hown9 hgrow9 hor9
      have hst9 := turn_step HPT.out HOW.out HDJ.out ((Below.refl _ wr).alloc (Nat.le_refl _) (.cells #[.int .i64 XX] 3)).drew hown9 hgrow9 hor9
      have hb9 : Below s w w9 := ((HBW.out.alloc HSZ.out _).drew).grown hgrow9 (by have := HSZ.out;simp;omega) (fun g e => (hown_lt HOW.out g e))
      have c9 := hst9.1.top.cell (i := gs.length) (by rw [List.getElem?_append_right (by simp),List.length_map,Nat.sub_self];rfl)
      have f9 := hst9.1.top.fz gs.length
      rw [HG.out] at c9 f9
      have l9 := hst9.1.top.lt
      obtain ⟨g9,cp9,hv9,_,_⟩ := hown9.form (by omega)
      subst hv9
      have HST9 := Lib.hid (And.intro hst9 (And.intro hown9 hb9))
      clear hst9 hown9 hgrow9 hor9 hb9
      refine hKK _ _ HST9.out.2.2 ?_
      clear hKK KK
      refine wpOT_take rfl _ (by rfl) (by intro w' hS;obtain ⟨k0,k1,j0,j1⟩ := HIX.out;go_simp;try with_reducible rfl) fun KK hKK => ?_
      go_simp
      refine hKK _ ?_
      clear hKK KK
      refine wpOT_one rfl (by rfl) fun KK hKK => ?_
      go_simp
      refine hKK _ _ (HST9.out.2.2.setCell (p := ⟨s,k,none⟩) (Nat.le_refl _) _) ?_
      clear hKK KK
      refine wpOT_done ?_
      show Kz _ _
      refine hKz _ _ ?_
      go_simp
      go_wp2
      go_roundw
      case rel =>
       refine ⟨j + 1,some ⟨g9,0,none⟩,cp9,by omega,by go_num,?_,?_,?_,?_⟩
       ·have := HST9.out.1.1.slot (.slice (some ⟨g9,0,none⟩) (j + 1) cp9)
        rw [HG.out] at this
        exact this
       ·have := HST9.out.2.1.kept (grown_set (World.grownBy.refl w9 (some s)) k (.slice (some ⟨g9,0,none⟩) (j + 1) cp9)) (.inr (by intro e;exact (HST9.out.1.2 g9 rfl).1 (by simpa [Value.ownBlock] using e)))
        rw [HXT.out]
        exact this
       ·exact HST9.out.1.2
       ·exact HST9.out.2.2.setCell (p := ⟨s,k,none⟩) (Nat.le_refl _) _
      case measure => simp [intOf];omega
     ·go_simp
      refine hKK _ _ ((HBW.out.alloc HSZ.out _).drew) ?_
      clear hKK KK
      refine wpOT_one rfl (by rfl) fun KK hKK => ?_
      have cx := HTC.out.1
      have lx := HTC.out.2
      go_simp
      refine hKK _ _ ((HBW.out.alloc HSZ.out _).drew) ?_
      clear hKK KK cx lx
      refine wpOT_one rfl (by rfl) fun KK hKK => ?_
      refine wp_append_rd _ (.tmp 31) (.tmp 36) 23 rfl s 3 ii (.int .i64 0) 1 8 Tryz.underlying23 HII.out.1 HII.out.2.1 HII.out.2.2.1 HII.out.2.2.2 rfl (by decide) (.slice cA j cc) j XS (by rfl) (HOW.out.alloc _) (wr.heap.size + 1) (some ⟨wr.heap.size,0,none⟩) 1 1 [.int .i64 XX] (by rfl) ⟨rfl,fun _ => ⟨wr.heap.size,0,rfl,Nat.lt_succ_self _,fun q u hu => by rw [Nat.zero_add];match q,hu with | 0,hu => exact (Row.fresh wr 3 [.int .i64 XX]).cell hu | q + 1,hu => simp at hu⟩⟩ (by intro u hu;simp at hu;rw [hu];rfl) (by unfold maxLen;omega) (by omega) (by simp;omega) ?_
      intro v9 w9 hown9 hgrow9 hor9
      have hst9 := turn_step HPT.out HOW.out HDJ.out ((Below.refl _ wr).alloc (Nat.le_refl _) (.cells #[.int .i64 XX] 3)).drew hown9 hgrow9 hor9
      have hb9 : Below s w w9 := ((HBW.out.alloc HSZ.out _).drew).grown hgrow9 (by have := HSZ.out;simp;omega) (fun g e => (hown_lt HOW.out g e))
      have c9 := hst9.1.top.cell (i := gs.length) (by rw [List.getElem?_append_right (by simp),List.length_map,Nat.sub_self];rfl)
      have f9 := hst9.1.top.fz gs.length
      rw [HG.out] at c9 f9
      have l9 := hst9.1.top.lt
      obtain ⟨g9,cp9,hv9,_,_⟩ := hown9.form (by omega)
      subst hv9
      have HST9 := Lib.hid (And.intro hst9 (And.intro hown9 hb9))
      clear hst9 hown9 hgrow9 hor9 hb9
      refine hKK _ _ HST9.out.2.2 ?_
      clear hKK KK
      refine wpOT_take rfl _ (by rfl) (by intro w' hS;obtain ⟨k0,k1,j0,j1⟩ := HIX.out;go_simp;try with_reducible rfl) fun KK hKK => ?_
      go_simp
      refine hKK _ ?_
      clear hKK KK
      refine wpOT_one rfl (by rfl) fun KK hKK => ?_
      go_simp
      refine hKK _ _ (HST9.out.2.2.setCell (p := ⟨s,k,none⟩) (Nat.le_refl _) _) ?_
      clear hKK KK
      refine wpOT_done ?_
      show Kz _ _
      refine hKz _ _ ?_
      go_simp
      go_wp2
      go_roundw
      case rel =>
       refine ⟨j + 1,some ⟨g9,0,none⟩,cp9,by omega,by go_num,?_,?_,?_,?_⟩
       ·have := HST9.out.1.1.slot (.slice (some ⟨g9,0,none⟩) (j + 1) cp9)
        rw [HG.out] at this
        exact this
       ·have := HST9.out.2.1.kept (grown_set (World.grownBy.refl w9 (some s)) k (.slice (some ⟨g9,0,none⟩) (j + 1) cp9)) (.inr (by intro e;exact (HST9.out.1.2 g9 rfl).1 (by simpa [Value.ownBlock] using e)))
        rw [HXT.out]
        exact this
       ·exact HST9.out.1.2
       ·exact HST9.out.2.2.setCell (p := ⟨s,k,none⟩) (Nat.le_refl _) _
      case measure => simp [intOf];omega
    ·obtain rfl : j = m := by omega
     have q0 := HHT.out k hlt wr hb
     obtain ⟨XS,hXS⟩ : ∃ x,(rowV M (j + 1) k).take j = x := ⟨_,rfl⟩
     rw [hXS] at HOW
     have HXS := Lib.hid hXS
     clear hP hown hdj hb hXS q0
     go_wp2_with (refine wpList_append_rd _ rfl (.tmp 45) (.tmp 47) 23 rfl s 3 ii (.int .i64 0) 1 8 Tryz.underlying23 HII.out.1 HII.out.2.1 HII.out.2.2.1 HII.out.2.2.2 rfl (by decide) (.slice cA j cc) j XS (by rfl) (HOW.out.alloc _) (wr.heap.size + 1) (some ⟨wr.heap.size,0,none⟩) 1 1 [.int .i64 NN] (by rfl) ⟨rfl,fun _ => ⟨wr.heap.size,0,rfl,Nat.lt_succ_self _,fun j u hu => by rw [Nat.zero_add];match j,hu with | 0,hu => exact (Row.fresh wr 3 [.int .i64 NN]).cell hu | j + 1,hu => simp at hu⟩⟩ (by intro u hu;simp at hu;rw [hu];rfl) (by unfold maxLen;omega) (by omega) (by simp;omega) ?_;intro v9 w9 hown9 hgrow9 hor9;have HE9 := Lib.hid (And.intro hown9 (And.intro hgrow9 hor9));clear hown9 hgrow9 hor9;have hst9 := turn_step HPT.out HOW.out HDJ.out ((Below.refl _ wr).alloc (Nat.le_refl _) (.cells #[.int .i64 NN] 3)) HE9.out.1 HE9.out.2.1 HE9.out.2.2;have c9 := hst9.1.top.cell (i := gs.length) (by rw [List.getElem?_append_right (by simp),List.length_map,Nat.sub_self];rfl);have f9 := hst9.1.top.fz gs.length;rw [HG.out] at c9 f9;have l9 := hst9.1.top.lt;obtain ⟨g9,cp9,hv9,_,_⟩ := HE9.out.1.form (by omega);subst hv9;have HST9 := Lib.hid hst9;clear hst9)
     go_roundw
     case rel =>
      have hrow : rowV M (j + 1) k = XS ++ [.int .i64 NN] := by
       have h1 := rowV_take (M := M) (L := j + 1) (k := k) (j := j) (by omega)
       rw [List.take_of_length_le (by unfold rowV;simp),HXS.out,HNN.out] at h1
       exact h1
      have ho : w9.ownsRow s 3 1 (.slice (some ⟨g9,0,none⟩) (j + 1) cp9) (j + 1) (rowV M (j + 1) gs.length) := by rw [HG.out,hrow];exact HE9.out.1
      have hd9 := HST9.out.2 g9 rfl
      have hP9 := (HST9.out.1.slot (.slice (some ⟨g9,0,none⟩) (j + 1) cp9)).push (ho.kept (grown_set (World.grownBy.refl w9 (some s)) gs.length (.slice (some ⟨g9,0,none⟩) (j + 1) cp9)) (.inr (by intro e;exact hd9.1 (by simpa [Value.ownBlock] using e)))) hd9.1 hd9.2
      rw [HG.out] at hP9
      refine ⟨k + 1,gs ++ [(g9,cp9)],by omega,by go_num,by simp [HG.out],?_,?_⟩
      ·rw [show C - (k + 1) = e by have := HE.out;omega]
       exact hP9
      ·exact ((HBW.out.alloc HSZ.out _).grown HE9.out.2.1 (by have := HSZ.out;simp;omega) (fun g eg => hown_lt HOW.out g eg)).setCell (p := ⟨s,k,none⟩) (Nat.le_refl _) _
     case measure => simp [intOf];omega
  ·obtain rfl : k = C := by omega
   have HP := Lib.hid hP
   have HB := Lib.hid hb
   clear hP hb
   go_wp2
   go_ret
   refine ⟨gs,rfl,hgl,?_,HB.out⟩
   have := HP.out
   rw [Nat.sub_self,List.replicate_zero] at this
   exact this.full
end Go.Proofs.YtjcpjhlclpdpjaaGreat
namespace Go.Proofs.YtjcpjhlclpdpjaaGreat
open Go.RowKit
attribute [local go_sem] Oper.semAt_some
theorem idxI_any (A : Option Addr) (n c B : Nat) (L : List Int) (x : Int) (w : World) (hr : Rd w B 1 A n (ivs L)) (hn : n ≤ 4096) :
  Calls Tryz.prog 108 #[.slice A n c,.int .i64 x] w fun r w' => (∃ k : Int,r = .returned (.int .i64 k) ∧ -1 ≤ k ∧ k ≤ 4096 ∧ (0 ≤ k ↔ x ∈ L)) ∧ w = w' := by
 have hl : L.length = n := by have := hr.1;simpa using this
 have HA : Hid (∀ k,k < n → ∃ b o,A = some ⟨b,o,none⟩ ∧ w.cell? ⟨b,o + k,none⟩ = some (.int .i64 (L.getD k 0))) := fun k hk => by
  obtain ⟨_,b,o,e1,_,hc⟩ := i64at hr hk
  exact ⟨b,o,e1,hc k hk w (Below.refl _ _)⟩
 have HL := Lib.hid hl
 clear hr hl
 go_enter Tryz.func108,Tryz.ntmps108
 go_wp2
 go_loopw [8] (fun i wr => w = wr ∧ ∃ k : Nat,k ≤ n ∧ i = .int .i64 k ∧ ∀ j,j < k → L.getD j 0 ≠ x) (fun i _ => n - (intOf i).toNat)
 case atStart => exact ⟨rfl,0,Nat.zero_le _,rfl,fun j hj => absurd hj (by omega)⟩
 case round =>
  obtain ⟨rfl,k,hk,rfl,hu⟩ := hrel
  have HU := Lib.hid hu
  clear hu
  by_cases hlt : k < n
  ·have k1 : (k : Int) < (n : Int) := by omega
   have k0 : (0 : Int) ≤ (k : Int) := by omega
   obtain ⟨b,o,hA1,q0⟩ := HA.out k hlt
   subst hA1
   obtain ⟨X,hX⟩ : ∃ X,L.getD k 0 = X := ⟨_,rfl⟩
   rw [hX] at q0
   have HX := Lib.hid hX
   clear hX
   by_cases hx : x = X
   ·have hxx : (x == X) = true := by simpa using hx
    have HM : Hid (x ∈ L) := by show x ∈ L;rw [hx,← HX.out,List.getD_eq_getElem?_getD,List.getElem?_eq_getElem (by rw [HL.out];exact hlt)];exact List.getElem_mem _
    clear hx
    go_wp2
    go_ret
    exact ⟨⟨(k : Int),rfl,by omega,by omega,fun _ => HM.out,fun _ => k0⟩,rfl⟩
   ·have hxx : (x == X) = false := by simpa using hx
    have HN : Hid (∀ j,j < k + 1 → L.getD j 0 ≠ x) := fun j hj => by
     by_cases e : j = k
     ·rw [e,HX.out];exact fun h => hx h.symm
     ·exact HU.out j (by omega)
    clear hx
    go_wp2
    go_roundw
    case rel => exact ⟨trivial,k + 1,by omega,by go_num,HN.out⟩
    case measure => simp [intOf];omega
  ·obtain rfl : k = n := by omega
   have HM : Hid (x ∉ L) := fun hm => by
    obtain ⟨j,hj,e⟩ := List.mem_iff_getElem.1 hm
    refine HU.out j (by rw [← HL.out];exact hj) ?_
    rw [List.getD_eq_getElem?_getD,List.getElem?_eq_getElem hj];exact e
   go_wp2
   go_ret
   exact ⟨⟨-1,rfl,by omega,by omega,fun h => absurd h (by omega),fun h => absurd h HM.out⟩,rfl⟩
theorem contI_any (A : Option Addr) (n c B : Nat) (L : List Int) (x : Int) (w : World) (hr : Rd w B 1 A n (ivs L)) (hn : n ≤ 4096) :
  Calls Tryz.prog 78 #[.slice A n c,.int .i64 x] w fun r w' => r = .returned (.bool (decide (x ∈ L))) ∧ w = w' := by
 have HI := Lib.hid (idxI_any A n c B L x w hr hn)
 clear hr
 go_enter Tryz.func78,Tryz.ntmps78
 go_wp2_with fail
 refine HI.out.mono ?_
 rintro r w1 ⟨⟨k,rfl,k0,k1,hk⟩,rfl⟩
 by_cases h : x ∈ L
 ·have h0 := hk.2 h
  have HH : Hid (decide (x ∈ L) = true) := decide_eq_true h
  clear hk h
  go_wp2
  go_ret
  exact ⟨by rw [HH.out];simp,rfl⟩
 ·have h0 : ¬ 0 ≤ k := fun h1 => h (hk.1 h1)
  have HH : Hid (decide (x ∈ L) = false) := decide_eq_false h
  clear hk h
  go_wp2
  go_ret
  exact ⟨by rw [HH.out];simpa using h0,rfl⟩
theorem caught_idle (p : Addr) (w : World) :
  CallsD Tryz.prog 74 #[.pointer (some p)] .returning w fun e u' w' => e = .returned (.tuple #[]) ∧ u' = .returning ∧ w' = w := by
 refine callsD_of_wpS Tryz.func74 rfl fun c₀ cs hu => ?_
 apply wpS_seq
 apply wpS_region
 simp [wpOpsS,go_sem,recoverD,hu,Tryz.ntmps74,Exit.thenS]
 apply wpS_seq
 apply wpS_region
 simp [wpOpsS,go_sem,Act.eval,Exit.thenS]
 refine wpS_cond (t := false) (by simp [Act.eval,Array.replicate]) ?_
 simp only [Bool.false_eq_true,if_false]
 refine wpS_of_wp (wp_skip ?_)
 cases c₀
 simp_all [bodyPostS,results,Tryz.results74]
theorem results_ttc {P : Program} {fn : Func} {p q r : Tmp} {ty : TypeId} (h : fn.results = #[.tmp p,.tmp q,.cell r ty]) (tmps : Array Value) (w : World) (g : Nat) (v : Value)
  (hp : tmps.getD r undef = .pointer (some ⟨g,0,none⟩)) (hc : w.cell? ⟨g,0,none⟩ = some v) (ha : (isAgg ty).run P w = .ok false w) : (results fn tmps).run P w = .ok (.tuple #[tmps.getD p undef,tmps.getD q undef,v]) w := by
 have hp' : tmps[r]?.getD undef = .pointer (some ⟨g,0,none⟩) := by simpa using hp
 simp [results,h,hp',asAddr,loadVar,ha,hc]
theorem isAgg_errno (w : World) : (isAgg 27).run Tryz.prog w = .ok false w := by kernel_rfl
theorem madeZero (n : Nat) : madeCells #[Value.int .i64 0] n = (ivs (List.replicate n 0)).toArray := by
 apply Array.ext'
 rw [toList_madeCells_one]
 simp
theorem combine_any (N : Nat) (A : Option Addr) (c : Nat) (rs : List RI) (t : RI) (w : World) (h : RdM w w.heap.size A rs) (hf : ∀ r ∈ rs,FRow N r) (ht : t.ok w w.heap.size) (htf : FRow N t) (hN0 : 0 < N) (hN : N ≤ 60) (hn : rs.length = N)
  (hk : ∀ z : Nat → Int,(∀ j,N ≤ j → z j = 0) → Gs.ker N (N + 1) (turnM rs t.d) z → ∀ i,i < N → Fm.cg (z i) 0) :
  Calls Tryz.prog 58 #[.slice A rs.length c,t.cell] w fun x w' => ∃ yb ys,x = .returned (.tuple #[.slice (some ⟨yb,0,none⟩) N N,.bool true,.int .i64 0]) ∧ ys.length = N ∧ Row w' yb 3 (ivs ys) ∧ w.heap.size ≤ yb ∧ Below w.heap.size w w' := by
 obtain ⟨s,hs⟩ : ∃ s,w.heap.size = s := ⟨_,rfl⟩
 have HEX : Hid (∀ W,Below s w W → Calls Tryz.prog 75 #[.slice A N c,.slice t.A N t.c] W fun x w' => x = .returned (.tuple #[]) ∧ Below W.heap.size W w') := fun W hW => by
  have := examine_any N A c rs t W ((h.below (by rw [hs];exact hW)).more (by have := hW.size;omega)) hf ((ht.below (by rw [hs];exact hW)).more (by have := hW.size;omega)) htf (by omega) (by omega)
  rw [RI.cell_eq,htf.len,hn] at this
  exact this
 have HTU : Hid (∀ W,Below s w W → Calls Tryz.prog 88 #[.slice A N c,.slice t.A N t.c] W fun x w' => ∃ gs,x = .returned (.slice (some ⟨W.heap.size,0,none⟩) N N) ∧ gs.length = N ∧ Tab w' W.heap.size W.heap.size gs (N + 1) (turnM rs t.d) ∧ Below W.heap.size W w') := fun W hW => by
  have := turned_any N A c rs t W ((h.below (by rw [hs];exact hW)).more (by have := hW.size;omega)) hf ((ht.below (by rw [hs];exact hW)).more (by have := hW.size;omega)) htf.len hN0 (by omega) (by omega)
  rw [RI.cell_eq,htf.len,hn] at this
  exact this
 have HRNG : Hid (∀ i j,i < N → j < N + 1 → 0 ≤ turnM rs t.d i j ∧ turnM rs t.d i j < 1073741789) := fun i j hi hj => by
  unfold turnM
  split
  ·have hm := (getD_mem' (rs := rs) (k := j) (by omega)).1
   have hl := (hf _ hm).len
   rw [List.getD_eq_getElem?_getD (l := (rs.getD j r0).d),List.getElem?_eq_getElem (by omega)]
   exact ⟨(hf _ hm).lo _ (List.getElem_mem _),(hf _ hm).hi _ (List.getElem_mem _)⟩
  ·have hl := htf.len
   rw [List.getD_eq_getElem?_getD (l := t.d),List.getElem?_eq_getElem (by omega)]
   exact ⟨htf.lo _ (List.getElem_mem _),htf.hi _ (List.getElem_mem _)⟩
 have hkk := hk
 obtain ⟨M0,hM0⟩ : ∃ M,turnM rs t.d = M := ⟨_,rfl⟩
 rw [hM0] at HTU HRNG hkk
 obtain ⟨tA,tc,td⟩ := t
 change Hid (∀ W,Below s w W → Calls Tryz.prog 75 #[.slice A N c,.slice tA N tc] W fun x w' => x = .returned (.tuple #[]) ∧ Below W.heap.size W w') at HEX
 change Hid (∀ W,Below s w W → Calls Tryz.prog 88 #[.slice A N c,.slice tA N tc] W fun x w' => ∃ gs,x = .returned (.slice (some ⟨W.heap.size,0,none⟩) N N) ∧ gs.length = N ∧ Tab w' W.heap.size W.heap.size gs (N + 1) M0 ∧ Below W.heap.size W w') at HTU
 have htl : td.length = N := htf.len
 show Calls _ _ #[_,.slice tA td.length tc] _ _
 rw [htl,hn]
 rw [hs]
 have HKK := Lib.hid hkk
 have HS := Lib.hid hs
 clear h hf ht htf hk hkk hM0 htl hn hs
 have HB0 : Hid (Below s w (w.alloc (.cells #[.int .i64 0] 27))) := by show Below _ _ _;rw [← HS.out];exact (Below.refl _ w).alloc (Nat.le_refl _) _
 have HE0 : Hid (Row (w.alloc (.cells #[.int .i64 0] 27)) s 27 [.int .i64 0]) := Row.fresh' _ _ _ HS.out
 go_enter_defers Tryz.func58,Tryz.ntmps58
 go_wp2_with fail
 rw [HS.out]
 generalize (w.alloc (.cells #[.int .i64 0] 27)) = w0 at HB0 HE0 ⊢
 refine (HEX.out _ HB0.out).mono ?_
 rintro x w1 ⟨rfl,hb1⟩
 have HB1 : Hid (Below s w w1) := HB0.out.trans (hb1.mono (by have := HE0.out.lt;omega))
 have HE1 := Lib.hid (HE0.out.below hb1 HE0.out.lt)
 clear hb1 HB0 HE0
 go_wp2_with fail
 refine (HTU.out _ HB1.out).mono ?_
 rintro x w2 ⟨gs,rfl,hgl,hT,hb2⟩
 have HB2 : Hid (Below s w w2) := HB1.out.trans (hb2.mono (by have := HE1.out.lt;omega))
 have HE2 := Lib.hid (HE1.out.below hb2 HE1.out.lt)
 obtain ⟨tb,htb⟩ : ∃ x,w1.heap.size = x := ⟨_,rfl⟩
 have hstb : s < tb := by have := HE1.out.lt;omega
 rw [htb] at hT
 rw [htb]
 have htlt := hT.tlt
 have hRD := reduce_any tb tb N gs (N + 1) N M0 w2 hT (by omega) (by omega) (by omega) (by omega) (by omega) (by omega) (by rw [hgl];exact HRNG.out) (by omega)
 rw [hgl] at hRD
 have HRD := Lib.hid hRD
 have HBT : Hid (tb < w2.heap.size) := htlt
 clear hRD hT hb2 hgl htb htlt HB1 HE1
 go_wp2_with fail
 refine HRD.out.mono ?_
 rintro x w3 ⟨ps,pv,gs3,M,rfl,hRM,hred⟩
 have hfull := hred.full (by omega) HKK.out
 have hown := hRM.own
 rw [hfull] at hown
 obtain ⟨pg,pc,rfl,hpg1,hpg2⟩ := hown.form hN0
 have HB3 : Hid (Below s w w3) := HB2.out.trans (hRM.bel.mono (by omega))
 have HE3 := Lib.hid (HE2.out.below hRM.bel hstb)
 have HTT := Lib.hid hRM.tab
 have HG3 := Lib.hid hRM.gl
 have HPS : Hid (∀ k,k < N → ∃ q : Nat,ps.getD k 0 = q ∧ q < N ∧ ∀ V,Below w3.heap.size w3 V → V.cell? ⟨pg,k,none⟩ = some (.int .i64 (q : Int))) := fun k hk => by
  refine ⟨_,rfl,hred.lt k (by omega),fun V hV => ?_⟩
  rw [hV.cell (p := ⟨pg,k,none⟩) hpg2,hown.cellAt k (by omega),List.getElem?_map,List.getElem?_eq_getElem (by omega),List.getD_eq_getElem?_getD,List.getElem?_eq_getElem (by omega)]
  rfl
 have hpgn : pg < w3.heap.size := hpg2
 clear hRM hred hown hfull HRD HB2 HE2 HKK HRNG HEX HTU hpg1 hpg2
 have hmk := makeI_any N (by omega)
 go_wp2_with fail
 refine wp_loop_rounds 1 ?_
 rw [rounds_succ]
 go_wp2_with fail
 obtain ⟨yb,hyb⟩ : ∃ x,w3.heap.size = x := ⟨_,rfl⟩
 obtain ⟨w4,hw4⟩ : ∃ x,w3.alloc (.cells (madeCells #[.int .i64 0] N) 3) = x := ⟨_,rfl⟩
 have hb4 : Below w3.heap.size w3 w4 := by rw [← hw4];exact (Below.refl _ _).alloc (Nat.le_refl _) _
 have hy4 : Row w4 yb 3 (ivs (List.replicate N 0)) := by
  rw [← hw4,← hyb,madeZero]
  exact Row.fresh w3 3 (ivs (List.replicate N 0))
 rw [hw4,hyb]
 have HB4 := Lib.hid hb4
 have HY4 := Lib.hid hy4
 have HYB := Lib.hid hyb
 have hyl : yb < w4.heap.size := hy4.lt
 clear hw4 hb4 hy4 hyb hmk
 have HSYB : Hid (s < yb ∧ pg < yb ∧ tb < yb) := by
  have h1 := HE3.out.lt
  have h2 := HTT.out.tlt
  have h3 := HYB.out
  exact ⟨by omega,by omega,by omega⟩
 go_loopw [44] (fun i wx => ∃ k : Nat,k ≤ N ∧ i = .int .i64 k ∧ ∃ ys : List Int,ys.length = N ∧ Row wx yb 3 (ivs ys) ∧ Tch (fun g => g = yb) w4 wx) (fun i _ => N - (intOf i).toNat)
 case atStart => exact ⟨0,Nat.zero_le _,rfl,List.replicate N 0,by simp,HY4.out,Tch.refl _ _⟩
 case round =>
  obtain ⟨k,hk,rfl,ys,hyl2,hry,ht⟩ := hrel
  have hbb : Below w3.heap.size w3 wr := HB4.out.trans (ht.below HB4.out.size (by intro i hi e;have := HYB.out;omega))
  have HRY := Lib.hid hry
  have HTC := Lib.hid ht
  have HYL := Lib.hid hyl2
  by_cases hlt : k < N
  ·have k1 : (k : Int) < (N : Int) := by omega
   have k0 : (0 : Int) ≤ (k : Int) := by omega
   have k2 : (N : Int) < (N : Int) + 1 := by omega
   obtain ⟨q,_,hqN,hqc⟩ := HPS.out k hlt
   have hpc := hqc wr hbb
   have hTw := HTT.out.next hbb
   have hkg : k < gs3.length := by rw [HG3.out];exact hlt
   have t0 := hTw.tcell hkg
   have t1 := hTw.cell hkg (show N < N + 1 by omega)
   obtain ⟨V,hV⟩ : ∃ x,M k N = x := ⟨_,rfl⟩
   rw [hV] at t1
   have q1 : (q : Int) < (N : Int) := by omega
   have q0 : (0 : Int) ≤ (q : Int) := by omega
   have cy := hry.cell (i := q) (v := .int .i64 (ys.getD q 0)) (by rw [List.getElem?_map,List.getElem?_eq_getElem (by omega),List.getD_eq_getElem?_getD,List.getElem?_eq_getElem (by omega)];rfl)
   have fy := hry.fz q
   clear hTw hkg hV hqc hry ht hyl2 hbb
   go_wp2
   go_roundw
   case rel =>
    refine ⟨k + 1,by omega,by go_num,ys.set q V,by rw [List.length_set];exact HYL.out,?_,HTC.out.set (p := ⟨yb,q,none⟩) (.inr rfl) _⟩
    have := HRY.out.put q (.int .i64 V)
    rwa [show (ivs ys).set q (.int .i64 V) = ivs (ys.set q V) by simp [List.map_set]] at this
   case measure => simp [intOf];omega
  ·obtain rfl : k = N := by omega
   have hes : Row wr s 27 [.int .i64 0] := HTC.out.row (HE3.out.below HB4.out HE3.out.lt) (by have := HSYB.out.1;omega)
   have ce := hes.cell (i := 0) rfl
   have fe := hes.fz 0
   have HES := Lib.hid hes
   have HBF : Hid (Below s w wr) := HB3.out.trans (hbb.mono (by have := HE3.out.lt;omega))
   have HYL2 := Lib.hid hyl2
   clear hry ht hyl2 hbb hes
   go_wp2
   refine leaves_cons (f := 74) (args := #[.pointer (some ⟨s,0,none⟩)]) (by simp) (by simp [go_sem]) ?_
   refine (caught_idle ⟨s,0,none⟩ _).mono ?_
   rintro e u' w9 ⟨rfl,rfl,rfl⟩
   have hfin := HES.out.put 0 (.int .i64 0)
   exact ⟨_,results_ttc rfl _ _ s (.int .i64 0) (by rfl) (hfin.cell (i := 0) rfl) (isAgg_errno _),yb,ys,rfl,HYL2.out,HRY.out.away (p := ⟨s,0,none⟩) (by have := HSYB.out.1;show yb ≠ s;omega) _,by have := HSYB.out.1;omega,HBF.out.setCell (p := ⟨s,0,none⟩) (Nat.le_refl _) _⟩
end Go.Proofs.YtjcpjhlclpdpjaaGreat
