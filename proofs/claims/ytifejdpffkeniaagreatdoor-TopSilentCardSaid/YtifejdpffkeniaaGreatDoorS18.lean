import Derived.Test.YtifejdpffkeniaaGreatDoorS17
import Derived.Test.YtifejdpffkeniaaGreatDoorS09
import Derived.Test.YtifejdpffkeniaaGreatDoorS14
set_option linter.unusedVariables false
set_option maxRecDepth 100000
set_option maxHeartbeats 40000000
namespace Go.Proofs.YtifejdpffkeniaaGreatDoor
open Go.RowKit
attribute [local go_sem] Oper.semAt_some
theorem ta_is' {P : Program} {t xT : TypeId} {d : TypeDesc} {v : Value} (w : World) (h : P.underlying t = some d) (hd : ∀ W,d ≠ .interface W) : (Instr.typeAssert (.iface t v) xT t true).run P w = .ok (.tuple #[v,.bool true]) w := by
 cases d <;> first | exact absurd rfl (hd _) | simp [Instr.typeAssert,run_underlying h,go_sem,Result.andThen]
theorem ta_not' {P : Program} {t u xT : TypeId} {d : TypeDesc} {v z : Value} (w : World) (h : P.underlying u = some d) (hd : ∀ W,d ≠ .interface W) (hz : (zeroValue u).run P w = .ok z w) (ht : t ≠ u) : (Instr.typeAssert (.iface t v) xT u true).run P w = .ok (.tuple #[z,.bool false]) w := by
 cases d <;> first | exact absurd rfl (hd _) | simp [Instr.typeAssert,run_underlying h,go_sem,Result.andThen,hz,ht]
inductive Av where
 | int (z : Int)
 | byt (A : Option Addr) (n c : Nat) (l : List Int)
 | lst (A : Option Addr) (n c : Nat)
instance : Inhabited Av := ⟨.int 0⟩
def Av.cell : Av → Value
 | .int z => .iface 3 (.int .i64 z)
 | .byt A n c _ => .iface 57 (.slice A n c)
 | .lst A n c => .iface 107 (.agg #[.int .i64 3,.int .i64 0,.string ⟨#[]⟩,.slice A n c])
def Av.tv : Av → Tv
 | .int z => .int z
 | .byt _ _ _ l => .txt (toBA l)
 | .lst A n c => .lst A n c
def Av.ok (w : World) (B : Nat) : Av → Prop
 | .byt A n _ l => Rd w B 1 A n (l.map (Value.int .u8))
 | _ => True
theorem Av.ok.below {w w' : World} {B : Nat} {a : Av} (h : a.ok w B) (hb : Below B w w') : a.ok w' B := by
 cases a with
 | byt A n c l => exact Rd.below h hb
 | _ => trivial
def PlQ (L : List Tv) (n : Nat) (w : World) (r : Ending) (w' : World) : Prop :=
 (∃ A c,r = .returned (.agg #[.int .i64 3,.int .i64 0,.string ⟨#[]⟩,.slice A n c]) ∧ w'.ownsRow w.heap.size 107 4 (.slice A n c) n (tvCells L) ∧ n ≤ c ∧ c ≤ maxLen ∧ (n = 0 → A = none ∧ c = 0)) ∧ Below w.heap.size w w'
theorem LB.put' {sb base : Nat} {es : List Tv} {A : Option Addr} {c : Nat} {W : World} {i : Nat} {v : Value} (h : LB sb base es A c W) (hv : [Value.int .i64 3,.int .i64 0,.string ⟨#[]⟩,.slice A es.length c].set i v = [Value.int .i64 3,.int .i64 0,.string ⟨#[]⟩,.slice A es.length c]) : LB sb base es A c (W.setCell ⟨sb,i,none⟩ v) :=
 ⟨by have h1 := h.row.put i v;rw [hv] at h1;exact h1,own_setC h.own (by have := h.lt;exact this) v,h.lt,by rw [World.size_setCell];exact h.sz⟩
theorem zeroI (w : World) : (zeroValue 3).run Tryz.prog w = .ok (.int .i64 0) w := by kernel_rfl
theorem zeroB (w : World) : (zeroValue 57).run Tryz.prog w = .ok (.slice none 0 0) w := by kernel_rfl
theorem plist_any (A0 : Option Addr) (n c0 : Nat) (L : List Av) (w : World) (hl : L.length = n) (h : Rd w w.heap.size 1 A0 n (L.map Av.cell)) (hok : ∀ a ∈ L,a.ok w w.heap.size) (hn : n ≤ 100) :
  Calls Tryz.prog 103 #[.slice A0 n c0] w (PlQ (L.map Av.tv) n w) := by
 obtain ⟨s,hs⟩ : ∃ s,w.heap.size = s := ⟨_,rfl⟩
 have HA : Hid (0 < n → ∃ b o,A0 = some ⟨b,o,none⟩ ∧ ∀ j,j < n → ∀ W,Below s w W → W.cell? ⟨b,o + j,none⟩ = some ((L.getD j default).cell)) := fun h0 => by
  obtain ⟨b,o,e,hb,hc⟩ := h.2 h0;refine ⟨b,o,e,fun j hj W hW => ?_⟩;rw [← hs] at hW;rw [hW.cell (p := ⟨b,o + j,none⟩) hb];refine hc j _ ?_;rw [List.getElem?_map,List.getD_eq_getElem?_getD,List.getElem?_eq_getElem (by omega)];rfl
 have HOK : Hid (∀ j,j < n → ∀ W,Below s w W → (L.getD j default).ok W s) := fun j hj W hW => by
  have hj' : j < L.length := by omega
  rw [List.getD_eq_getElem?_getD,List.getElem?_eq_getElem hj'];have := hok _ (List.getElem_mem hj');rw [hs] at this;exact this.below hW
 have HTK : Hid (∀ j,j < n → (L.take (j + 1)).map Av.tv = (L.take j).map Av.tv ++ [(L.getD j default).tv] ∧ ((L.take j).map Av.tv).length = j) := fun j hj => by
  have hj' : j < L.length := by omega
  refine ⟨?_,by simp;omega⟩;rw [List.take_succ_eq_append_getElem hj',List.map_append,List.getD_eq_getElem?_getD,List.getElem?_eq_getElem hj']
  rfl
 have HFIN : Hid (∀ W A c,LB s (s + 1) ((L.take n).map Av.tv) A c W → (n = 0 → A = none ∧ c = 0) → Below s w W → ∀ r,r = .returned (.agg #[.int .i64 3,.int .i64 0,.string ⟨#[]⟩,.slice A n c]) → PlQ (L.map Av.tv) n w r W) := fun W A c hlb h0 hb r hr => by
  have e : (L.take n).map Av.tv = L.map Av.tv := by rw [← hl,List.take_length]
  have e2 : (L.map Av.tv).length = n := by simpa using hl
  rw [e] at hlb;have h1 := own_mono (b := s) (by omega) hlb.own;have h2 := hlb.cap;rw [e2] at h1 h2;exact ⟨⟨A,c,hr,by rw [hs];exact h1,h2.1,h2.2,h0⟩,by rw [hs];exact hb⟩
 have HLEN : Hid (((L.take n).map Av.tv).length = n) := by show _ = _;simp;omega
 generalize hQQ : PlQ (L.map Av.tv) n w = QQ at HFIN ⊢
 have HST2 : Hid (Below s w (w.alloc (.cells #[.int .i64 3,.int .i64 0,.string ⟨#[]⟩,.slice none 0 0] 107)) ∧ LB s (s + 1) ((L.take 0).map Av.tv) none 0 (w.alloc (.cells #[.int .i64 3,.int .i64 0,.string ⟨#[]⟩,.slice none 0 0] 107))) := by
  refine ⟨by rw [← hs];exact (Below.refl _ w).alloc (Nat.le_refl _) _,?_⟩;exact LB.start (Row.fresh' _ _ _ hs) (by omega) (by simp [hs])
 have HS := Lib.hid hs;clear h hs hl hQQ hok;go_enter Tryz.func103,Tryz.ntmps103
 go_wp2_with fail
 rw [HS.out];generalize w.alloc (.cells #[.int .i64 3,.int .i64 0,.string ⟨#[]⟩,.slice none 0 0] 107) = w2 at HST2 ⊢
 go_loopw [4,5,6,7,11] (fun _ _ _ _ i wr => ∃ (k : Nat) (A : Option Addr) (c : Nat),k ≤ n ∧ i = .int .i64 k ∧ LB s (s + 1) ((L.take k).map Av.tv) A c wr ∧ (k = 0 → A = none ∧ c = 0) ∧ Below s w wr) (fun _ _ _ _ i _ => n - (intOf i).toNat)
 case atStart => exact ⟨0,none,0,Nat.zero_le _,rfl,HST2.out.2,fun _ => ⟨rfl,rfl⟩,HST2.out.1⟩
 case round =>
  obtain ⟨k,A,c,hk,rfl,hlb,hz,hb⟩ := hrel;have HLB := Lib.hid hlb;have HB0 := Lib.hid hb;have HZ := Lib.hid hz;clear hlb hb hz HST2
  by_cases hlt : k < n
  ·have k1 : (k : Int) < (n : Int) := by omega
   have k0 : (0 : Int) ≤ (k : Int) := by omega
   obtain ⟨b,o,hA0,hcc⟩ := HA.out (by omega);subst hA0;have q0 := hcc k hlt wr HB0.out;have HO := Lib.hid (HOK.out k hlt wr HB0.out);obtain ⟨ht1,ht2⟩ := HTK.out k hlt;have HT1 := Lib.hid ht1;have HES := Lib.hid ht2;obtain ⟨X,hX⟩ : ∃ X,L.getD k default = X := ⟨_,rfl⟩;rw [hX] at q0 HT1 HO;obtain ⟨es,hes⟩ : ∃ es,(L.take k).map Av.tv = es := ⟨_,rfl⟩;rw [hes] at HES HT1 HLB;clear hcc ht1 ht2 hes hX
   cases X with
   | int X =>
    have hta := fun W : World => ta_is' (P := Tryz.prog) (t := 3) (xT := 20) (v := .int .i64 X) W Tryz.underlying3 (fun W h => by cases h)
    replace q0 : wr.cell? ⟨b,o + k,none⟩ = some (.iface 3 (.int .i64 X)) := q0
    replace HT1 : Hid ((L.take (k + 1)).map Av.tv = es ++ [Tv.int X]) := HT1
    have a3 : wr.cell? ⟨s,3,none⟩ = some (.slice A k c) := by have h9 := HLB.out.row.cell (i := 3) rfl;rwa [HES.out] at h9
    have f3 := HLB.out.row.fz 3;have ow : wr.ownsRow (s + 1) 107 4 (.slice A k c) k (tvCells es) := by have h9 := HLB.out.own;rwa [HES.out] at h9
    have hszw := HLB.out.sz;have hltw := HLB.out.row.lt
    go_wp2_with (at_builtin;refine wpList_append_rd _ rfl (.tmp 20) (.tmp 23) 105 rfl (s + 1) 107 _ vz 4 56 Tryz.underlying105 rfl rfl rfl rfl rfl (by decide) (.slice A k c) k (tvCells es) (by rfl) (ow.alloc _) (wr.heap.size + 1) (some ⟨wr.heap.size,0,none⟩) 1 1 (Tv.int X).cells (by rfl) (rd_new wr 107 (Tv.int X).cells 1 4 rfl) (tv_one _) (by unfold maxLen;omega) (by omega) (by simp;omega) ?_;intro v9 w9 hown9 hgrow9 _;obtain ⟨g9,c9,hv9,_,_⟩ := hown9.form (by omega);subst hv9;have hal : Below wr.heap.size wr (wr.alloc (.cells #[.int .i64 1,.int .i64 X,.string ⟨#[]⟩,.slice none 0 0] 107)) := (Below.refl _ _).alloc (Nat.le_refl _) _;have hst := HLB.out.step (x := Tv.int X) hal (by rw [HES.out];exact hown9) (by rw [HES.out];exact hgrow9);have hbe := HLB.out.bel (v := .slice (some ⟨g9,0,none⟩) (k + 1) c9) HB0.out hal (by rw [HES.out];exact hgrow9) (by omega);have hrw := (HLB.out.row.below hal hltw).grown hgrow9 (fun e => by have h9 := (ow.lt (s) e.symm).1;omega);have s3 := hrw.cell (i := 3) rfl;have f9 := hrw.fz 3;rw [HES.out] at hst;have HST := Lib.hid (And.intro hst hbe);clear hst hbe hrw hown9 hgrow9 hal)
    clear s3 f9 a3 f3 ow hszw hltw;go_roundw
    case rel => exact ⟨k + 1,_,_,by omega,by go_num,by rw [HT1.out];exact HST.out.1,fun h => absurd h (by omega),HST.out.2⟩
    case measure => simp [intOf];omega
   | byt B1 m1 c1 l =>
    have hta := fun W : World => ta_not' (P := Tryz.prog) (t := 57) (u := 3) (xT := 20) (v := .slice B1 m1 c1) W Tryz.underlying3 (fun W h => by cases h) (zeroI W) (by decide);have htb := fun W : World => ta_is' (P := Tryz.prog) (t := 57) (xT := 20) (v := .slice B1 m1 c1) W Tryz.underlying57 (fun W h => by cases h)
    replace q0 : wr.cell? ⟨b,o + k,none⟩ = some (.iface 57 (.slice B1 m1 c1)) := q0
    replace HT1 : Hid ((L.take (k + 1)).map Av.tv = es ++ [Tv.txt (toBA l)]) := HT1
    have hcv : (convert 57 9 (.slice B1 m1 c1)).run Tryz.prog wr = .ok (.string (toBA l)) wr := conv_text (B := s) wr _ _ 5 Tryz.underlying57 Tryz.underlying5 Tryz.underlying9 HO.out;generalize toBA l = TX at hcv HT1;have a3 : wr.cell? ⟨s,3,none⟩ = some (.slice A k c) := by have h9 := HLB.out.row.cell (i := 3) rfl;rwa [HES.out] at h9
    have f3 := HLB.out.row.fz 3;have ow : wr.ownsRow (s + 1) 107 4 (.slice A k c) k (tvCells es) := by have h9 := HLB.out.own;rwa [HES.out] at h9
    have hszw := HLB.out.sz;have hltw := HLB.out.row.lt
    go_wp2_with (at_builtin;refine wpList_append_rd _ rfl (.tmp 30) (.tmp 34) 105 rfl (s + 1) 107 _ vz 4 56 Tryz.underlying105 rfl rfl rfl rfl rfl (by decide) (.slice A k c) k (tvCells es) (by rfl) (ow.alloc _) (wr.heap.size + 1) (some ⟨wr.heap.size,0,none⟩) 1 1 (Tv.txt TX).cells (by rfl) (rd_new wr 107 (Tv.txt TX).cells 1 4 rfl) (tv_one _) (by unfold maxLen;omega) (by omega) (by simp;omega) ?_;intro v9 w9 hown9 hgrow9 _;obtain ⟨g9,c9,hv9,_,_⟩ := hown9.form (by omega);subst hv9;have hal : Below wr.heap.size wr (wr.alloc (.cells #[.int .i64 2,.int .i64 0,.string TX,.slice none 0 0] 107)) := (Below.refl _ _).alloc (Nat.le_refl _) _;have hst := HLB.out.step (x := Tv.txt TX) hal (by rw [HES.out];exact hown9) (by rw [HES.out];exact hgrow9);have hbe := HLB.out.bel (v := .slice (some ⟨g9,0,none⟩) (k + 1) c9) HB0.out hal (by rw [HES.out];exact hgrow9) (by omega);have hrw := (HLB.out.row.below hal hltw).grown hgrow9 (fun e => by have h9 := (ow.lt (s) e.symm).1;omega);have s3 := hrw.cell (i := 3) rfl;have f9 := hrw.fz 3;rw [HES.out] at hst;have HST := Lib.hid (And.intro hst hbe);clear hst hbe hrw hown9 hgrow9 hal)
    clear s3 f9 a3 f3 ow hszw hltw;go_roundw
    case rel => exact ⟨k + 1,_,_,by omega,by go_num,by rw [HT1.out];exact HST.out.1,fun h => absurd h (by omega),HST.out.2⟩
    case measure => simp [intOf];omega
   | lst B1 m1 c1 =>
    have hta := fun W : World => ta_not' (P := Tryz.prog) (t := 107) (u := 3) (xT := 20) (v := .agg #[.int .i64 3,.int .i64 0,.string ⟨#[]⟩,.slice B1 m1 c1]) W Tryz.underlying3 (fun W h => by cases h) (zeroI W) (by decide);have htb := fun W : World => ta_not' (P := Tryz.prog) (t := 107) (u := 57) (xT := 20) (v := .agg #[.int .i64 3,.int .i64 0,.string ⟨#[]⟩,.slice B1 m1 c1]) W Tryz.underlying57 (fun W h => by cases h) (zeroB W) (by decide);have htc := fun W : World => ta_is' (P := Tryz.prog) (t := 107) (xT := 20) (v := .agg #[.int .i64 3,.int .i64 0,.string ⟨#[]⟩,.slice B1 m1 c1]) W Tryz.underlying107 (fun W h => by cases h)
    replace q0 : wr.cell? ⟨b,o + k,none⟩ = some (.iface 107 (.agg #[.int .i64 3,.int .i64 0,.string ⟨#[]⟩,.slice B1 m1 c1])) := q0
    replace HT1 : Hid ((L.take (k + 1)).map Av.tv = es ++ [Tv.lst B1 m1 c1]) := HT1
    have a3 : wr.cell? ⟨s,3,none⟩ = some (.slice A k c) := by have h9 := HLB.out.row.cell (i := 3) rfl;rwa [HES.out] at h9
    have f3 := HLB.out.row.fz 3;have ow : wr.ownsRow (s + 1) 107 4 (.slice A k c) k (tvCells es) := by have h9 := HLB.out.own;rwa [HES.out] at h9
    have hszw := HLB.out.sz;have hltw := HLB.out.row.lt
    go_wp2_with (at_builtin;refine wpList_append_rd _ rfl (.tmp 41) (.tmp 43) 105 rfl (s + 1) 107 _ vz 4 56 Tryz.underlying105 rfl rfl rfl rfl rfl (by decide) (.slice A k c) k (tvCells es) (by rfl) ((ow.alloc _).alloc _) (wr.heap.size + 1 + 1) (some ⟨wr.heap.size + 1,0,none⟩) 1 1 (Tv.lst B1 m1 c1).cells (by rfl) (by have h9 := rd_new (wr.alloc (.cells #[.int .i64 3,.int .i64 0,.string ⟨#[]⟩,.slice B1 m1 c1] 107)) 107 (Tv.lst B1 m1 c1).cells 1 4 rfl;rw [World.size_alloc] at h9;exact h9) (tv_one _) (by unfold maxLen;omega) (by omega) (by simp;omega) ?_;intro v9 w9 hown9 hgrow9 _;obtain ⟨g9,c9,hv9,_,_⟩ := hown9.form (by omega);subst hv9;have hal : Below wr.heap.size wr ((wr.alloc (.cells #[.int .i64 3,.int .i64 0,.string ⟨#[]⟩,.slice B1 m1 c1] 107)).alloc (.cells #[.int .i64 3,.int .i64 0,.string ⟨#[]⟩,.slice B1 m1 c1] 107)) := ((Below.refl _ _).alloc (Nat.le_refl _) _).alloc (by simp) _;have hst := HLB.out.step (x := .lst B1 m1 c1) hal (by rw [HES.out];exact hown9) (by rw [HES.out];exact hgrow9);have hbe := HLB.out.bel (v := .slice (some ⟨g9,0,none⟩) (k + 1) c9) HB0.out hal (by rw [HES.out];exact hgrow9) (by omega);have hrw := (HLB.out.row.below hal hltw).grown hgrow9 (fun e => by have h9 := (ow.lt (s) e.symm).1;omega);have s3 := hrw.cell (i := 3) rfl;have f9 := hrw.fz 3;rw [HES.out] at hst;have HST := Lib.hid (And.intro hst hbe);clear hst hbe hrw hown9 hgrow9 hal)
    clear s3 f9 a3 f3 ow hszw hltw;go_roundw
    case rel => exact ⟨k + 1,_,_,by omega,by go_num,by rw [HT1.out];exact HST.out.1,fun h => absurd h (by omega),HST.out.2⟩
    case measure => simp [intOf];omega
  ·obtain rfl : k = n := by omega
   have hbl := HLB.out;have o0 := hbl.row.cell (i := 0) rfl;have o1 := hbl.row.cell (i := 1) rfl;have o2 := hbl.row.cell (i := 2) rfl;have o3 := hbl.row.cell (i := 3) rfl;rw [HLEN.out] at o3;have y0 := hbl.row.fz 0;have y1 := hbl.row.fz 1;have y2 := hbl.row.fz 2;have y3 := hbl.row.fz 3;have hrw := hbl.row;rw [HLEN.out] at hrw;have HRW := Lib.hid hrw;have HL9 := Lib.hid ((((hbl.put' (i := 0) (v := .int .i64 3) rfl).put' (i := 1) (v := .int .i64 0) rfl).put' (i := 2) (v := .string ⟨#[]⟩) rfl).put' (i := 3) (v := .slice A k c) (by rw [HLEN.out];rfl));have HB9 := Lib.hid ((((HB0.out.setCell (p := ⟨s,0,none⟩) (Nat.le_refl _) (.int .i64 3)).setCell (p := ⟨s,1,none⟩) (Nat.le_refl _) (.int .i64 0)).setCell (p := ⟨s,2,none⟩) (Nat.le_refl _) (.string ⟨#[]⟩)).setCell (p := ⟨s,3,none⟩) (Nat.le_refl _) (.slice A k c));have HR9 := Lib.hid ((((hrw.put 0 (.int .i64 3)).put 1 (.int .i64 0)).put 2 (.string ⟨#[]⟩)).put 3 (.slice A k c));clear hbl hrw;go_wp2;exact bodyPost_ret (results_row1 (p := 2) rfl _ _ s 107 _ (0,0) _ (by rfl) HR9.out Tryz.underlying107 (by rfl) (by kernel_rfl)) rfl (HFIN.out _ _ _ HL9.out HZ.out HB9.out _ rfl)
theorem slist_any (A0 : Option Addr) (n c0 : Nat) (L : List Av) (w : World) (hl : L.length = n) (h : Rd w w.heap.size 1 A0 n (L.map Av.cell)) (hok : ∀ a ∈ L,a.ok w w.heap.size) (hn : n ≤ 40) (hp : 0 < n) (hlf : ∀ a ∈ L,leafOk a.tv) (hnl : ∀ A n c,Av.lst A n c ∉ L) :
  Calls Tryz.prog 66 #[.slice A0 n c0] w (fun r w' => ∃ A c,r = .returned (.slice A (encL ((L.map Av.tv).map leafE)).length c) ∧ Rd w' w'.heap.size 1 A (encL ((L.map Av.tv).map leafE)).length ((encL ((L.map Av.tv).map leafE)).map (Value.int .u8)) ∧ (encL ((L.map Av.tv).map leafE)).length ≤ c ∧ c ≤ maxLen ∧ Below w.heap.size w w') := by
 obtain ⟨s,hs⟩ : ∃ s,w.heap.size = s := ⟨_,rfl⟩
 have HA : Hid (0 < n → ∃ b o,A0 = some ⟨b,o,none⟩ ∧ ∀ j,j < n → ∀ W,Below s w W → W.cell? ⟨b,o + j,none⟩ = some ((L.getD j default).cell)) := fun h0 => by
  obtain ⟨b,o,e,hb,hc⟩ := h.2 h0;refine ⟨b,o,e,fun j hj W hW => ?_⟩;rw [← hs] at hW;rw [hW.cell (p := ⟨b,o + j,none⟩) hb];refine hc j _ ?_;rw [List.getElem?_map,List.getD_eq_getElem?_getD,List.getElem?_eq_getElem (by omega)];rfl
 have HOK : Hid (∀ j,j < n → ∀ W,Below s w W → (L.getD j default).ok W s) := fun j hj W hW => by
  have hj' : j < L.length := by omega
  rw [List.getD_eq_getElem?_getD,List.getElem?_eq_getElem hj'];have := hok _ (List.getElem_mem hj');rw [hs] at this;exact this.below hW
 have HTK : Hid (∀ j,j < n → (L.take (j + 1)).map Av.tv = (L.take j).map Av.tv ++ [(L.getD j default).tv] ∧ ((L.take j).map Av.tv).length = j) := fun j hj => by
  have hj' : j < L.length := by omega
  refine ⟨?_,by simp;omega⟩;rw [List.take_succ_eq_append_getElem hj',List.map_append,List.getD_eq_getElem?_getD,List.getElem?_eq_getElem hj']
  rfl
 have HEN : Hid (∀ W A c,LB s (s + 1) ((L.take n).map Av.tv) A c W → Calls Tryz.prog 42 #[.agg #[.int .i64 3,.int .i64 0,.string ⟨#[]⟩,.slice A n c]] W (EncPT (encL ((L.map Av.tv).map leafE)) W)) := fun W A c hlb => by
  have e : (L.take n).map Av.tv = L.map Av.tv := by rw [← hl,List.take_length]
  have e2 : (L.map Av.tv).length = n := by simpa using hl
  rw [e] at hlb;have h2 := hlb.cap;have h3 := hlb.rd;rw [e2] at h2 h3;exact encode_flat W A n c _ e2 hp hn h3 h2.1 (fun x hx => by obtain ⟨a,ha,rfl⟩ := List.mem_map.1 hx;exact hlf a ha)
 have HNL : Hid (∀ j A n' c',j < n → L.getD j default ≠ .lst A n' c') := fun j A n' c' hj e => by
  rw [List.getD_eq_getElem?_getD,List.getElem?_eq_getElem (by omega)] at e;have e : L[j]'(by omega) = .lst A n' c' := e;exact hnl A n' c' (by rw [← e];exact List.getElem_mem _)
 have HLEN : Hid (((L.take n).map Av.tv).length = n) := by show _ = _;simp;omega
 generalize encL ((L.map Av.tv).map leafE) = ES at HEN ⊢
 have HST2 : Hid (Below s w (w.alloc (.cells #[.int .i64 3,.int .i64 0,.string ⟨#[]⟩,.slice none 0 0] 107)) ∧ LB s (s + 1) ((L.take 0).map Av.tv) none 0 (w.alloc (.cells #[.int .i64 3,.int .i64 0,.string ⟨#[]⟩,.slice none 0 0] 107))) := by
  refine ⟨by rw [← hs];exact (Below.refl _ w).alloc (Nat.le_refl _) _,?_⟩;exact LB.start (Row.fresh' _ _ _ hs) (by omega) (by simp [hs])
 have HS := Lib.hid hs;clear h hs hl hok hlf hnl;go_enter Tryz.func66,Tryz.ntmps66
 go_wp2_with fail
 rw [HS.out];generalize w.alloc (.cells #[.int .i64 3,.int .i64 0,.string ⟨#[]⟩,.slice none 0 0] 107) = w2 at HST2 ⊢
 go_loopw [5,6,7,13] (fun _ _ _ i wr => ∃ (k : Nat) (A : Option Addr) (c : Nat),k ≤ n ∧ i = .int .i64 k ∧ LB s (s + 1) ((L.take k).map Av.tv) A c wr ∧ (k = 0 → A = none ∧ c = 0) ∧ Below s w wr) (fun _ _ _ i _ => n - (intOf i).toNat)
 case atStart => exact ⟨0,none,0,Nat.zero_le _,rfl,HST2.out.2,fun _ => ⟨rfl,rfl⟩,HST2.out.1⟩
 case round =>
  obtain ⟨k,A,c,hk,rfl,hlb,hz,hb⟩ := hrel;have HLB := Lib.hid hlb;have HB0 := Lib.hid hb;have HZ := Lib.hid hz;clear hlb hb hz HST2
  by_cases hlt : k < n
  ·have k1 : (k : Int) < (n : Int) := by omega
   have k0 : (0 : Int) ≤ (k : Int) := by omega
   obtain ⟨b,o,hA0,hcc⟩ := HA.out (by omega);subst hA0;have q0 := hcc k hlt wr HB0.out;have HO := Lib.hid (HOK.out k hlt wr HB0.out);obtain ⟨ht1,ht2⟩ := HTK.out k hlt;have HT1 := Lib.hid ht1;have HES := Lib.hid ht2;obtain ⟨X,hX⟩ : ∃ X,L.getD k default = X := ⟨_,rfl⟩;rw [hX] at q0 HT1 HO;have HXE := Lib.hid hX;obtain ⟨es,hes⟩ : ∃ es,(L.take k).map Av.tv = es := ⟨_,rfl⟩;rw [hes] at HES HT1 HLB;clear hcc ht1 ht2 hes hX
   cases X with
   | int X =>
    have hta := fun W : World => ta_is' (P := Tryz.prog) (t := 3) (xT := 20) (v := .int .i64 X) W Tryz.underlying3 (fun W h => by cases h)
    replace q0 : wr.cell? ⟨b,o + k,none⟩ = some (.iface 3 (.int .i64 X)) := q0
    replace HT1 : Hid ((L.take (k + 1)).map Av.tv = es ++ [Tv.int X]) := HT1
    have a3 : wr.cell? ⟨s,3,none⟩ = some (.slice A k c) := by have h9 := HLB.out.row.cell (i := 3) rfl;rwa [HES.out] at h9
    have f3 := HLB.out.row.fz 3;have ow : wr.ownsRow (s + 1) 107 4 (.slice A k c) k (tvCells es) := by have h9 := HLB.out.own;rwa [HES.out] at h9
    have hszw := HLB.out.sz;have hltw := HLB.out.row.lt
    go_wp2_with (at_builtin;refine wpList_append_rd _ rfl (.tmp 22) (.tmp 25) 105 rfl (s + 1) 107 _ vz 4 56 Tryz.underlying105 rfl rfl rfl rfl rfl (by decide) (.slice A k c) k (tvCells es) (by rfl) (ow.alloc _) (wr.heap.size + 1) (some ⟨wr.heap.size,0,none⟩) 1 1 (Tv.int X).cells (by rfl) (rd_new wr 107 (Tv.int X).cells 1 4 rfl) (tv_one _) (by unfold maxLen;omega) (by omega) (by simp;omega) ?_;intro v9 w9 hown9 hgrow9 _;obtain ⟨g9,c9,hv9,_,_⟩ := hown9.form (by omega);subst hv9;have hal : Below wr.heap.size wr (wr.alloc (.cells #[.int .i64 1,.int .i64 X,.string ⟨#[]⟩,.slice none 0 0] 107)) := (Below.refl _ _).alloc (Nat.le_refl _) _;have hst := HLB.out.step (x := Tv.int X) hal (by rw [HES.out];exact hown9) (by rw [HES.out];exact hgrow9);have hbe := HLB.out.bel (v := .slice (some ⟨g9,0,none⟩) (k + 1) c9) HB0.out hal (by rw [HES.out];exact hgrow9) (by omega);have hrw := (HLB.out.row.below hal hltw).grown hgrow9 (fun e => by have h9 := (ow.lt (s) e.symm).1;omega);have s3 := hrw.cell (i := 3) rfl;have f9 := hrw.fz 3;rw [HES.out] at hst;have HST := Lib.hid (And.intro hst hbe);clear hst hbe hrw hown9 hgrow9 hal)
    clear s3 f9 a3 f3 ow hszw hltw;go_roundw
    case rel => exact ⟨k + 1,_,_,by omega,by go_num,by rw [HT1.out];exact HST.out.1,fun h => absurd h (by omega),HST.out.2⟩
    case measure => simp [intOf];omega
   | byt B1 m1 c1 l =>
    have hta := fun W : World => ta_not' (P := Tryz.prog) (t := 57) (u := 3) (xT := 20) (v := .slice B1 m1 c1) W Tryz.underlying3 (fun W h => by cases h) (zeroI W) (by decide);have htb := fun W : World => ta_is' (P := Tryz.prog) (t := 57) (xT := 20) (v := .slice B1 m1 c1) W Tryz.underlying57 (fun W h => by cases h)
    replace q0 : wr.cell? ⟨b,o + k,none⟩ = some (.iface 57 (.slice B1 m1 c1)) := q0
    replace HT1 : Hid ((L.take (k + 1)).map Av.tv = es ++ [Tv.txt (toBA l)]) := HT1
    have hcv : (convert 57 9 (.slice B1 m1 c1)).run Tryz.prog wr = .ok (.string (toBA l)) wr := conv_text (B := s) wr _ _ 5 Tryz.underlying57 Tryz.underlying5 Tryz.underlying9 HO.out;generalize toBA l = TX at hcv HT1;have a3 : wr.cell? ⟨s,3,none⟩ = some (.slice A k c) := by have h9 := HLB.out.row.cell (i := 3) rfl;rwa [HES.out] at h9
    have f3 := HLB.out.row.fz 3;have ow : wr.ownsRow (s + 1) 107 4 (.slice A k c) k (tvCells es) := by have h9 := HLB.out.own;rwa [HES.out] at h9
    have hszw := HLB.out.sz;have hltw := HLB.out.row.lt
    go_wp2_with (at_builtin;refine wpList_append_rd _ rfl (.tmp 32) (.tmp 36) 105 rfl (s + 1) 107 _ vz 4 56 Tryz.underlying105 rfl rfl rfl rfl rfl (by decide) (.slice A k c) k (tvCells es) (by rfl) (ow.alloc _) (wr.heap.size + 1) (some ⟨wr.heap.size,0,none⟩) 1 1 (Tv.txt TX).cells (by rfl) (rd_new wr 107 (Tv.txt TX).cells 1 4 rfl) (tv_one _) (by unfold maxLen;omega) (by omega) (by simp;omega) ?_;intro v9 w9 hown9 hgrow9 _;obtain ⟨g9,c9,hv9,_,_⟩ := hown9.form (by omega);subst hv9;have hal : Below wr.heap.size wr (wr.alloc (.cells #[.int .i64 2,.int .i64 0,.string TX,.slice none 0 0] 107)) := (Below.refl _ _).alloc (Nat.le_refl _) _;have hst := HLB.out.step (x := Tv.txt TX) hal (by rw [HES.out];exact hown9) (by rw [HES.out];exact hgrow9);have hbe := HLB.out.bel (v := .slice (some ⟨g9,0,none⟩) (k + 1) c9) HB0.out hal (by rw [HES.out];exact hgrow9) (by omega);have hrw := (HLB.out.row.below hal hltw).grown hgrow9 (fun e => by have h9 := (ow.lt (s) e.symm).1;omega);have s3 := hrw.cell (i := 3) rfl;have f9 := hrw.fz 3;rw [HES.out] at hst;have HST := Lib.hid (And.intro hst hbe);clear hst hbe hrw hown9 hgrow9 hal)
    clear s3 f9 a3 f3 ow hszw hltw;go_roundw
    case rel => exact ⟨k + 1,_,_,by omega,by go_num,by rw [HT1.out];exact HST.out.1,fun h => absurd h (by omega),HST.out.2⟩
    case measure => simp [intOf];omega
   | lst B1 m1 c1 => exact absurd HXE.out (HNL.out k _ _ _ hlt)
  ·obtain rfl : k = n := by omega
   have hbl := HLB.out;have o0 := hbl.row.cell (i := 0) rfl;have o1 := hbl.row.cell (i := 1) rfl;have o2 := hbl.row.cell (i := 2) rfl;have o3 := hbl.row.cell (i := 3) rfl;rw [HLEN.out] at o3;have HE := Lib.hid (HEN.out wr A c HLB.out);clear hbl
   go_wp2_with fail
   refine HE.out.mono ?_;rintro r w3 ⟨A',c',rfl,e2,e3,e4,hb⟩;have HF : Hid (Rd w3 w3.heap.size 1 A' ES.length (ES.map (Value.int .u8)) ∧ ES.length ≤ c' ∧ c' ≤ maxLen ∧ Below w.heap.size w w3) := ⟨e2,e3,e4,by rw [HS.out];exact HB0.out.trans (hb.mono (by have := HB0.out.size;have := HS.out;omega))⟩;clear e2 e3 e4 hb;go_wp2;go_ret;exact ⟨A',c',rfl,HF.out⟩
theorem ppower_any (a : Nat) (n : Int) (w : World) (h1 : -1073741789 < n) (h2 : n < 1073741789) : Calls Tryz.prog 52 #[.int .i64 (Gm.pw a : Int),.int .i64 n] w fun r w' =>
  r = .returned (.int .i64 (Gm.pw (a * (n % 1073741789).toNat) : Int)) ∧ Below w.heap.size w w' := by
 have HP := Lib.hid (pow_gany a n w h1 h2);generalize (Gm.pw (a * (n % 1073741789).toNat) : Int) = Y at HP ⊢;generalize (Gm.pw a : Int) = X at HP ⊢;clear h1 h2;go_enter Tryz.func52,Tryz.ntmps52
 go_wp2_with fail
 refine HP.out.mono ?_;rintro r w1 ⟨rfl,hb⟩;have HB := Lib.hid hb;clear hb;go_wp2;go_ret;exact ⟨rfl,HB.out⟩
theorem ppower_four (n : Int) (w : World) (h1 : 0 ≤ n) (h2 : n < 1073741789) : Calls Tryz.prog 52 #[.int .i64 4,.int .i64 n] w fun r w' =>
  r = .returned (.int .i64 (Gm.pw n.toNat : Int)) ∧ Below w.heap.size w w' := by
 have e4 : (4 : Int) = (Gm.pw 1 : Int) := by rw [Gm.pw_one];rfl
 rw [e4];refine (ppower_any 1 n w (by omega) h2).mono ?_;rintro r w' ⟨rfl,hb⟩;rw [Nat.one_mul,Int.emod_eq_of_lt h1 h2];exact ⟨rfl,hb⟩
theorem spower_any (a : Nat) (n : Int) (w : World) (h1 : -1073741789 < n) (h2 : n < 1073741789) : Calls Tryz.prog 64 #[.int .i64 (Gm.pw a : Int),.int .i64 n] w fun r w' =>
  r = .returned (.int .i64 (Gm.pw (a * (n % 1073741789).toNat) : Int)) ∧ Below w.heap.size w w' := by
 have HP := Lib.hid (pow_gany a n w h1 h2);generalize (Gm.pw (a * (n % 1073741789).toNat) : Int) = Y at HP ⊢;generalize (Gm.pw a : Int) = X at HP ⊢;clear h1 h2;go_enter Tryz.func64,Tryz.ntmps64
 go_wp2_with fail
 refine HP.out.mono ?_;rintro r w1 ⟨rfl,hb⟩;have HB := Lib.hid hb;clear hb;go_wp2;go_ret;exact ⟨rfl,HB.out⟩
theorem spower_four (n : Int) (w : World) (h1 : 0 ≤ n) (h2 : n < 1073741789) : Calls Tryz.prog 64 #[.int .i64 4,.int .i64 n] w fun r w' =>
  r = .returned (.int .i64 (Gm.pw n.toNat : Int)) ∧ Below w.heap.size w w' := by
 have e4 : (4 : Int) = (Gm.pw 1 : Int) := by rw [Gm.pw_one];rfl
 rw [e4];refine (spower_any 1 n w (by omega) h2).mono ?_;rintro r w' ⟨rfl,hb⟩;rw [Nat.one_mul,Int.emod_eq_of_lt h1 h2];exact ⟨rfl,hb⟩
theorem phash_any (K : Sh.Cst) (T : ByteArray) (A0 : Option Addr) (n c0 : Nat) (L : List Av) (es : List (List Int)) (ds : Nat → Int) (w : World) (hT : T.size ≤ 1000) (hl : L.length = n) (h0 : 0 < n) (hn : n ≤ 100) (h : Rd w w.heap.size 1 A0 n (L.map Av.cell)) (hok : ∀ a ∈ L,a.ok w w.heap.size) (hL : Laid w)
  (hfc : ∀ (k : Nat) (x : Tv),(L.map Av.tv)[k]? = some x → FC w w.heap.size x (ds k)) (hds : ∀ k,k < n → ds k ≤ 8) (hwc : ∀ (k : Nat) (x : Tv),(L.map Av.tv)[k]? = some x → WC w w.heap.size x (es.getD k [])) (hel : es.length = n) (hlen : es.flatten.length ≤ 90000) (hb : ∀ e ∈ es,Byts e) :
  Calls Tryz.prog 106 #[.string T,.slice A0 n c0] w fun r w' => r = .returned (.int .i64 (Sh.hash K (strInts T) (encL es))) ∧ Below w.heap.size w w' := by
 obtain ⟨s,hs⟩ : ∃ s,w.heap.size = s := ⟨_,rfl⟩;have hencl : (encL es).length ≤ 100000 := by have := encL_len es (by omega);omega
 have hml : (L.map Av.tv).length = n := by simpa using hl
 have HP := Lib.hid (plist_any A0 n c0 L w hl h hok hn)
 have HE : Hid (∀ w1 A c,w1.ownsRow s 107 4 (.slice A n c) n (tvCells (L.map Av.tv)) → n ≤ c → Below s w w1 → Calls Tryz.prog 42 #[.agg #[.int .i64 3,.int .i64 0,.string ⟨#[]⟩,.slice A n c]] w1 (EncPT (encL es) w1)) := fun w1 A c ho hc hb1 => by
  rw [← hs] at hb1;have hr := Rd.of_own ho
  exact encode_tv w1 A n c _ _ (fc_list w1 _ A n c _ ds hml h0 (by omega) hr hc (Nat.le_refl _) (fun k x hx => ((hfc k x hx).below hb1).more hb1.size) (fun k hk => by have := hds k hk;omega))
   (wc_list w1 _ A n c _ es hml hel hn (by omega) hr hc (fun k x hx => ((hwc k x hx).below hb1).more hb1.size)) (by omega)
 have HH : Hid (∀ w2 A c,Rd w2 w2.heap.size 1 A (encL es).length ((encL es).map (Value.int .u8)) → (encL es).length ≤ c → c ≤ maxLen → Below s w w2 → Calls Tryz.prog 65 #[.string T,.slice A (encL es).length c] w2 fun r w' => r = .returned (.int .i64 (Sh.hash K (strInts T) (encL es))) ∧ Below w2.heap.size w2 w') := fun w2 A c hr hc hm hb2 => by
  rw [← hs] at hb2;exact ghash_any K T A _ c (encL es) w2 hT hr (byts_encL hb) hencl hc hm (hL.below hb2 hL.size)
 generalize Sh.hash K (strInts T) (encL es) = R at HH ⊢;generalize hES : encL es = ES at HE HH;have HS := Lib.hid hs;clear hfc hwc hlen hencl hml hok hL h hES hb hds hel;go_enter Tryz.func106,Tryz.ntmps106
 go_wp2_with fail
 refine HP.out.mono ?_;rintro r w1 ⟨⟨A,c,rfl,ho,hc,hcm,_⟩,hb1⟩;rw [HS.out] at ho hb1;have HE1 := Lib.hid (HE.out w1 A c ho hc hb1);have HB1 := Lib.hid hb1;clear ho hc hcm hb1 HE
 go_wp2_with fail
 refine HE1.out.mono ?_;rintro r w2 ⟨A2,c2,rfl,hr2,hc2,hm2,hb2⟩;have hb2' : Below s w w2 := HB1.out.trans (hb2.mono (by have := HB1.out.size;have := HS.out;omega));have HH1 := Lib.hid (HH.out w2 A2 c2 hr2 hc2 hm2 hb2');have HB2 := Lib.hid hb2';clear hr2 hc2 hm2 hb2 hb2' HH HE1
 go_wp2_with fail
 refine HH1.out.mono ?_;rintro r w3 ⟨rfl,hb3⟩
 have HB3 : Hid (Below w.heap.size w w3) := by
  have h1 := HB2.out.trans (hb3.mono (by have := HB2.out.size;have := HS.out;omega));show Below _ _ _;rw [HS.out];exact h1
 clear hb3;go_wp2;go_ret;exact ⟨rfl,HB3.out⟩
def textEs (d : Doc) : List (List Int) := ([d.no,d.ti,d.kd,d.vl,d.fr,d.un].map fun z => leafE (.int z)) ++ [encI d.pa.d,encI d.re.d,encI d.ne.d,leafE (.txt (toBA d.tx))]
def textE (d : Doc) : List Int := encL (textEs d)
theorem Dl.rng {L : List Int} {m : Int} (h : Dl L m) (hm : m ≤ 1048577) : ∀ z ∈ L,-9223372036854775808 ≤ z ∧ z < 9223372036854775808 := fun z hz => by
 have := h.lo z hz;have := h.hi z hz;omega
theorem textEs_len {d : Doc} {W : World} {B : Nat} (h : d.ok W B) (hd : d.right) : (textEs d).flatten.length ≤ 700 := by
 have e1 := encI_flat (L := [d.no,d.ti,d.kd,d.vl,d.fr,d.un]) (by
  intro z hz;have := hd.no;have := hd.ti;have := hd.kd;have := hd.vl;have := hd.fr;have := hd.fu;have := hd.un;simp at hz
  rcases hz with rfl | rfl | rfl | rfl | rfl | rfl <;> omega)
 have e2 := encI_len (hd.pa.rng (by decide)) (by have := hd.pa.len;omega);have e3 := encI_len (hd.re.rng (by have := hd.no;omega)) (by have := hd.re.len;omega);have e4 := encI_len (hd.ne.rng (by have := hd.no;omega)) (by have := hd.ne.len;omega);have l2 := hd.pa.len;have l3 := hd.re.len;have l4 := hd.ne.len
 have e5 : (leafE (.txt (toBA d.tx))).length ≤ 43 := by
  have h1 : (toBA d.tx).size = 32 := by rw [toBA_size,h.tl]
  have := Cd.numL_ten (u := 32) (by decide);show ([2] ++ Cd.numL (toBA d.tx).size ++ strInts (toBA d.tx)).length ≤ 43;rw [List.length_append,List.length_append,strInts_length,h1];simp only [List.length_cons,List.length_nil];omega
 unfold textEs;rw [List.flatten_append,List.length_append];simp only [List.flatten_cons,List.flatten_nil,List.length_append,List.length_nil];have : ([d.no,d.ti,d.kd,d.vl,d.fr,d.un]).length = 6 := rfl;rw [this] at e1;omega
theorem textE_len {d : Doc} {W : World} {B : Nat} (h : d.ok W B) (hd : d.right) : (textE d).length ≤ 711 := by
 have h1 := textEs_len h hd;have h2 := encL_len (textEs d) (by show 10 ≤ 1000;decide);unfold textE;omega
theorem text_enc (d : Doc) (W0 W : World) (A : Option Addr) (c : Nat) (A1 A2 A3 : Option Addr) (c1 c2 c3 : Nat) (h : d.ok W0 W0.heap.size) (hd : d.right)
  (r1 : Rd W W.heap.size 4 A1 d.pa.d.length (tvCells (d.pa.d.map Tv.int))) (r2 : Rd W W.heap.size 4 A2 d.re.d.length (tvCells (d.re.d.map Tv.int))) (r3 : Rd W W.heap.size 4 A3 d.ne.d.length (tvCells (d.ne.d.map Tv.int)))
  (k1 : d.pa.d.length ≤ c1) (k2 : d.re.d.length ≤ c2) (k3 : d.ne.d.length ≤ c3) (z1 : d.pa.d.length = 0 → A1 = none ∧ c1 = 0) (z2 : d.re.d.length = 0 → A2 = none ∧ c2 = 0) (z3 : d.ne.d.length = 0 → A3 = none ∧ c3 = 0)
  (hr : Rd W W.heap.size 4 A 10 (tvCells (([d.no,d.ti,d.kd,d.vl,d.fr,d.un].map Tv.int) ++ [.lst A1 d.pa.d.length c1,.lst A2 d.re.d.length c2,.lst A3 d.ne.d.length c3,.txt (toBA d.tx)]))) (hc : 10 ≤ c) :
  Calls Tryz.prog 42 #[(Tv.lst A 10 c).val] W (EncPF (textE d) W) := by
 have l2 := hd.pa.len;have l3 := hd.re.len;have l4 := hd.ne.len;have hno := hd.no
 have i6 : ∀ z ∈ [d.no,d.ti,d.kd,d.vl,d.fr,d.un],-9223372036854775808 ≤ z ∧ z < 9223372036854775808 := by
  intro z hz;have := hd.ti;have := hd.kd;have := hd.vl;have := hd.fr;have := hd.fu;have := hd.un;simp at hz
  rcases hz with rfl | rfl | rfl | rfl | rfl | rfl <;> omega
 have g1 := hd.pa.rng (by decide);have g2 := hd.re.rng (by omega);have g3 := hd.ne.rng (by omega);have hts : leafOk (.txt (toBA d.tx)) := by show (toBA d.tx).size ≤ 2000;rw [toBA_size,h.tl];decide
 obtain ⟨TS,hTS⟩ : ∃ TS,toBA d.tx = TS := ⟨_,rfl⟩;have hlen := textEs_len h hd;unfold textE
 have hfc : ∀ (k : Nat) (x : Tv),(([d.no,d.ti,d.kd,d.vl,d.fr,d.un].map Tv.int) ++ [Tv.lst A1 d.pa.d.length c1,.lst A2 d.re.d.length c2,.lst A3 d.ne.d.length c3,.txt (toBA d.tx)])[k]? = some x → FC W W.heap.size x (if 6 ≤ k ∧ k ≤ 8 then 1 else 0) := fun k x hx => by
  match k,hx with
  | 0,hx => cases hx;exact fc_int _ _ _
  | 1,hx => cases hx;exact fc_int _ _ _
  | 2,hx => cases hx;exact fc_int _ _ _
  | 3,hx => cases hx;exact fc_int _ _ _
  | 4,hx => cases hx;exact fc_int _ _ _
  | 5,hx => cases hx;exact fc_int _ _ _
  | 6,hx => cases hx;exact ints_fc rfl (by omega) r1 k1 (Nat.le_refl _) z1 g1
  | 7,hx => cases hx;exact ints_fc rfl (by omega) r2 k2 (Nat.le_refl _) z2 g2
  | 8,hx => cases hx;exact ints_fc rfl (by omega) r3 k3 (Nat.le_refl _) z3 g3
  | 9,hx => cases hx;exact fc_txt _ _ _
  | k + 10,hx => exact absurd hx (by simp)
 have hwc : ∀ (k : Nat) (x : Tv),(([d.no,d.ti,d.kd,d.vl,d.fr,d.un].map Tv.int) ++ [Tv.lst A1 d.pa.d.length c1,.lst A2 d.re.d.length c2,.lst A3 d.ne.d.length c3,.txt (toBA d.tx)])[k]? = some x → WC W W.heap.size x ((textEs d).getD k []) := fun k x hx => by
  match k,hx with
  | 0,hx => cases hx;exact wc_int _ _ _ (i6 _ (by simp))
  | 1,hx => cases hx;exact wc_int _ _ _ (i6 _ (by simp))
  | 2,hx => cases hx;exact wc_int _ _ _ (i6 _ (by simp))
  | 3,hx => cases hx;exact wc_int _ _ _ (i6 _ (by simp))
  | 4,hx => cases hx;exact wc_int _ _ _ (i6 _ (by simp))
  | 5,hx => cases hx;exact wc_int _ _ _ (i6 _ (by simp))
  | 6,hx => cases hx;exact ints_wc rfl (by omega) r1 k1 g1
  | 7,hx => cases hx;exact ints_wc rfl (by omega) r2 k2 g2
  | 8,hx => cases hx;exact ints_wc rfl (by omega) r3 k3 g3
  | 9,hx => cases hx;exact leaf_wc hts
  | k + 10,hx => exact absurd hx (by simp)
 refine encode_tvF W A 10 c _ _ (fc_list W _ A 10 c _ (fun k => if 6 ≤ k ∧ k ≤ 8 then 1 else 0) rfl (by decide) (by decide) hr hc (Nat.le_refl _) hfc (fun k _ => by split <;> decide)) (wc_list W _ A 10 c _ (textEs d) rfl rfl (by decide) (by omega) hr hc hwc) (by have := encL_len (textEs d) (by show 10 ≤ 1000;decide);omega)
theorem wp_region_treeCW {P : Program} {Q : Exit → Act → World → Prop} {id : Nat} {a : Act} {w : World} {l : List Oper} (C : Nat → World → Prop) (t : OT) (hm : P.follows .mixedOrders = true) (hd : noDef l.toArray = true) (hsel : Region.noSelect l.toArray = true) (hp : decide (t.depth ≤ l.length) = true)
  (hB : otB .any l.toArray t (Array.replicate l.length false) = true) (h : wpOTC Fence.wide 9 P .any l.toArray (noPanic Q) C t [] a w.drew) : (Code.region id l.toArray true).wp P Q a w :=
 (wpIn_wide (n := 9)).1 (wpIn_region_treeC C t hm hd hsel hp hB h)
theorem NumQ.out {L : List Int} {n : Nat} {s : Nat} {w w' : World} {r : Ending} (h : NumQ L w r w') (hl : L.length = n) (hs : s ≤ w.heap.size) :
  ∃ A c,r = .returned (.agg #[.int .i64 3,.int .i64 0,.string ⟨#[]⟩,.slice A n c]) ∧ w'.ownsRow s 107 4 (.slice A n c) n (tvCells (L.map Tv.int)) ∧ n ≤ c ∧ (n = 0 → A = none ∧ c = 0) ∧ Below w.heap.size w w' := by
 subst hl;obtain ⟨⟨A,c,e,ho,hc,hz⟩,hb⟩ := h;exact ⟨A,c,e,own_mono hs ho,hc,hz,hb⟩
theorem tv_ones (L : List Tv) : ∀ u ∈ tvCells L,u.oneCell' = true := by
 intro u hu;unfold tvCells at hu;obtain ⟨x,_,h⟩ := List.mem_flatMap.1 hu;exact tv_one x u h
theorem ne_own {u v : Value} (h : ∀ g,u.ownBlock = some g → v.ownBlock = some g → False) : v.ownBlock = none ∨ v.ownBlock ≠ u.ownBlock := by
 cases hv : v.ownBlock with
 | none => exact .inl rfl
 | some g => exact .inr fun e => h g e.symm hv
theorem text_any (d : Doc) (w : World) (h : d.ok w w.heap.size) (hd : d.right) :
  Calls Tryz.prog 10 #[.agg d.cells.toArray] w (EncPF (textE d) w) := by
 obtain ⟨s,hs⟩ : ∃ s,w.heap.size = s := ⟨_,rfl⟩;have hb0 : Below s w (w.alloc (.cells d.cells.toArray 29)) := by rw [← hs];exact (Below.refl _ w).alloc (Nat.le_refl _) _
 have hr0 : Row (w.alloc (.cells d.cells.toArray 29)) s 29 d.cells := Row.fresh' _ _ _ hs
 have HRT : Hid (∀ W,Below s w W → Calls Tryz.prog 40 #[.agg d.cells.toArray] W fun x w' => x = .returned (.bool true) ∧ Below W.heap.size W w') := fun W hW => by
  rw [← hs] at hW;exact docright_any d W ((h.below hW).more hW.size) hd
 have HCE : Hid (∀ W,Row W s 29 d.cells → (W.cell? ⟨s,0,none⟩ = some (.int .i64 d.no) ∧ W.cell? ⟨s,1,none⟩ = some (.int .i64 d.ti) ∧ W.cell? ⟨s,2,none⟩ = some (.int .i64 d.kd) ∧ W.cell? ⟨s,3,none⟩ = some (.int .i64 d.vl) ∧ W.cell? ⟨s,4,none⟩ = some (.int .i64 d.fr) ∧ W.cell? ⟨s,5,none⟩ = some (.int .i64 d.un)) ∧ W.cell? ⟨s,6,none⟩ = some (.slice d.pa.A d.pa.d.length d.pa.c) ∧ W.cell? ⟨s,7,none⟩ = some (.slice d.re.A d.re.d.length d.re.c) ∧ W.cell? ⟨s,8,none⟩ = some (.slice d.ne.A d.ne.d.length d.ne.c)) := fun W hr => ⟨⟨hr.cell rfl,hr.cell rfl,hr.cell rfl,hr.cell rfl,hr.cell rfl,hr.cell rfl⟩,hr.cell rfl,hr.cell rfl,hr.cell rfl⟩
 have HCV : Hid (∀ W,Row W s 29 d.cells → (convert 57 9 (.slice (some ⟨s,9,none⟩) 32 32)).run Tryz.prog W = .ok (.string (toBA d.tx)) W) := fun W hr => by
  refine conv_text (B := W.heap.size) W _ _ 5 Tryz.underlying57 Tryz.underlying5 Tryz.underlying9 ?_;refine ⟨by simp [h.tl],fun _ => ⟨s,9,rfl,hr.lt,fun j u hu => hr.cell (i := 9 + j) ?_⟩⟩;unfold Doc.cells;rw [List.getElem?_append_right (by simp)]
  simpa using hu
 have HNP : Hid (∀ W,Below s w W → Calls Tryz.prog 41 #[.slice d.pa.A d.pa.d.length d.pa.c] W (NumQ d.pa.d W)) := fun W hW => by
  rw [← hs] at hW;exact dnums_any _ _ _ _ W ((h.pa.below hW).more' hW.size).1 (by have := hd.pa.len;omega)
 have HNR : Hid (∀ W,Below s w W → Calls Tryz.prog 41 #[.slice d.re.A d.re.d.length d.re.c] W (NumQ d.re.d W)) := fun W hW => by
  rw [← hs] at hW;exact dnums_any _ _ _ _ W ((h.re.below hW).more' hW.size).1 (by have := hd.re.len;omega)
 have HNN : Hid (∀ W,Below s w W → Calls Tryz.prog 41 #[.slice d.ne.A d.ne.d.length d.ne.c] W (NumQ d.ne.d W)) := fun W hW => by
  rw [← hs] at hW;exact dnums_any _ _ _ _ W ((h.ne.below hW).more' hW.size).1 (by have := hd.ne.len;omega)
 have HN6 : Hid (∀ W b,Row W b 3 [.int .i64 d.no,.int .i64 d.ti,.int .i64 d.kd,.int .i64 d.vl,.int .i64 d.fr,.int .i64 d.un] → Calls Tryz.prog 41 #[.slice (some ⟨b,0,none⟩) 6 6] W (NumQ [d.no,d.ti,d.kd,d.vl,d.fr,d.un] W)) := fun W b hb => by
  refine dnums_any _ 6 6 [d.no,d.ti,d.kd,d.vl,d.fr,d.un] W ⟨rfl,fun _ => ⟨b,0,rfl,hb.lt,fun j u hu => ?_⟩⟩ (by decide);rw [Nat.zero_add];exact hb.cell (by simpa using hu)
 have HEN : Hid (∀ W A c A1 A2 A3 c1 c2 c3,Below s w W → Rd W W.heap.size 4 A1 d.pa.d.length (tvCells (d.pa.d.map Tv.int)) → Rd W W.heap.size 4 A2 d.re.d.length (tvCells (d.re.d.map Tv.int)) → Rd W W.heap.size 4 A3 d.ne.d.length (tvCells (d.ne.d.map Tv.int)) → d.pa.d.length ≤ c1 → d.re.d.length ≤ c2 → d.ne.d.length ≤ c3 → (d.pa.d.length = 0 → A1 = none ∧ c1 = 0) → (d.re.d.length = 0 → A2 = none ∧ c2 = 0) → (d.ne.d.length = 0 → A3 = none ∧ c3 = 0) →
   Rd W W.heap.size 4 A 10 (tvCells (([d.no,d.ti,d.kd,d.vl,d.fr,d.un].map Tv.int) ++ [.lst A1 d.pa.d.length c1,.lst A2 d.re.d.length c2,.lst A3 d.ne.d.length c3,.txt (toBA d.tx)])) → 10 ≤ c → Calls Tryz.prog 42 #[(Tv.lst A 10 c).val] W fun r w' => ∃ A' c',r = .returned (.tuple #[.slice A' (textE d).length c',.int .i64 0]) ∧ Rd w' w'.heap.size 1 A' (textE d).length ((textE d).map (Value.int .u8)) ∧ (textE d).length ≤ c' ∧ c' ≤ maxLen ∧ Below W.heap.size W w' ∧ ∀ b o,A' = some ⟨b,o,none⟩ → W.heap.size ≤ b) := fun W A c A1 A2 A3 c1 c2 c3 hW r1 r2 r3 k1 k2 k3 z1 z2 z3 hr hc => by
  refine (text_enc d w W A c A1 A2 A3 c1 c2 c3 h hd r1 r2 r3 k1 k2 k3 z1 z2 z3 hr hc).mono ?_;rintro r w' ⟨A',c',e1,e2,e3,e4,e5⟩;exact ⟨A',c',e1,e2,e3,e4,e5⟩
 have HFI : Hid (∀ r w' A' c',r = .returned (.tuple #[.slice A' (textE d).length c',.int .i64 0]) → Rd w' w'.heap.size 1 A' (textE d).length ((textE d).map (Value.int .u8)) → (textE d).length ≤ c' → c' ≤ maxLen → Below s w w' → (∀ b o,A' = some ⟨b,o,none⟩ → s ≤ b) → EncPF (textE d) w r w') := fun r w' A' c' e1 e2 e3 e4 e5 e6 => ⟨A',c',e1,e2,e3,e4,by rw [hs];exact e5,by rw [hs];exact e6⟩;generalize hQQ : EncPF (textE d) w = QQ at HFI ⊢;obtain ⟨TE,hTE⟩ : ∃ TE,textE d = TE := ⟨_,rfl⟩;rw [hTE] at HEN HFI;clear hd hQQ hTE;have HLN : Hid (d.cells.length = 41) := Doc.clen h.tl;obtain ⟨CS,hCS⟩ : ∃ CS,d.cells = CS := ⟨_,rfl⟩;rw [hCS] at hb0 hr0 HRT HCE HCV HLN ⊢;obtain ⟨TS,hTS⟩ : ∃ TS,toBA d.tx = TS := ⟨_,rfl⟩;rw [hTS] at HCV HEN;obtain ⟨no,ti,kd,vl,fr,un,⟨pA,pc,pd⟩,⟨qA,qc,qd⟩,⟨nA,nc,nd⟩,tx⟩ := d;dsimp only at HCE HNP HNR HNN HN6 HEN;have HI : Hid ((Tryz.prog.info? 29).map (·.size) = some CS.toArray.size) := by show _ = _;rw [List.size_toArray,HLN.out];kernel_rfl
 have HRW : Hid (Below s w (w.alloc (.cells CS.toArray 29)) ∧ Row (w.alloc (.cells CS.toArray 29)) s 29 CS) := ⟨hb0,hr0⟩;have HS := Lib.hid hs;clear h hCS hTS hb0 hr0 hs;go_enter Tryz.func10,Tryz.ntmps10
 go_wp2_with (first | (refine wpList_load_row rfl 29 (.tmp 1) rfl s (by rw [← HS.out];rfl) 29 CS.toArray (0,0) _ HRW.out.2 Tryz.underlying29 (by rfl) HI.out ?_) | fail)
 rw [HS.out];refine (HRT.out _ HRW.out.1).mono ?_;rintro r w1 ⟨rfl,hb1⟩;have HW1 : Hid (Below s w w1 ∧ Row w1 s 29 CS) := ⟨HRW.out.1.trans (hb1.mono (by have := HRW.out.2.lt;omega)),HRW.out.2.below hb1 HRW.out.2.lt⟩;clear hb1 HRW HRT;obtain ⟨⟨c0,c1,c2,c3,c4,c5⟩,_,_,_⟩ := HCE.out w1 HW1.out.2;obtain ⟨b1,hb1⟩ : ∃ b1,w1.heap.size = b1 := ⟨_,rfl⟩;have HB1 := Lib.hid hb1;clear hb1
 go_wp2_with fail
 rw [HB1.out];have HW2 : Hid (Below s w (w1.alloc (.cells #[.int .i64 no,.int .i64 ti,.int .i64 kd,.int .i64 vl,.int .i64 fr,.int .i64 un] 3)) ∧ Row (w1.alloc (.cells #[.int .i64 no,.int .i64 ti,.int .i64 kd,.int .i64 vl,.int .i64 fr,.int .i64 un] 3)) s 29 CS ∧ Row (w1.alloc (.cells #[.int .i64 no,.int .i64 ti,.int .i64 kd,.int .i64 vl,.int .i64 fr,.int .i64 un] 3)) b1 3 [.int .i64 no,.int .i64 ti,.int .i64 kd,.int .i64 vl,.int .i64 fr,.int .i64 un]) := ⟨HW1.out.1.alloc (by have := HW1.out.2.lt;omega) _,HW1.out.2.alloc _,Row.fresh' _ _ _ HB1.out⟩;clear c0 c1 c2 c3 c4 c5 HB1 HW1;generalize (w1.alloc (.cells #[.int .i64 no,.int .i64 ti,.int .i64 kd,.int .i64 vl,.int .i64 fr,.int .i64 un] 3)) = w2 at HW2 ⊢;refine (HN6.out w2 b1 HW2.out.2.2).mono ?_;rintro r w3 hq;obtain ⟨A6,c6,rfl,ho6,hc6,_,hb3⟩ := hq.out (n := 6) rfl (Nat.le_refl _);clear hq;obtain ⟨vb,hvb⟩ : ∃ vb,w3.heap.size = vb := ⟨_,rfl⟩;have HW3 : Hid (Below s w w3 ∧ Row w3 s 29 CS ∧ w3.ownsRow w2.heap.size 107 4 (.slice A6 6 c6) 6 (tvCells ([no,ti,kd,vl,fr,un].map Tv.int)) ∧ w3.heap.size = vb) := ⟨HW2.out.1.trans (hb3.mono (by have := HW2.out.2.1.lt;omega)),HW2.out.2.1.below hb3 HW2.out.2.1.lt,ho6,hvb⟩;have HBS : Hid (s < w2.heap.size ∧ w2.heap.size ≤ vb ∧ ∀ g,(Value.slice A6 6 c6).ownBlock = some g → w2.heap.size ≤ g ∧ g < vb) := ⟨HW2.out.2.1.lt,by rw [← hvb];exact hb3.size,fun g e => by rw [← hvb];exact ho6.lt g e⟩;have HVB := Lib.hid hvb;clear hb3 ho6 HW2 hvb
 go_wp2_with fail
 rw [HVB.out];have hvr : Row (w3.alloc (.cells #[.int .i64 3,.int .i64 0,.string ⟨#[]⟩,.slice A6 6 c6] 107)) vb 107 [.int .i64 3,.int .i64 0,.string ⟨#[]⟩,.slice A6 6 c6] := Row.fresh' _ _ _ HVB.out;have hC : Below s w (w3.alloc (.cells #[.int .i64 3,.int .i64 0,.string ⟨#[]⟩,.slice A6 6 c6] 107)) ∧ Row (w3.alloc (.cells #[.int .i64 3,.int .i64 0,.string ⟨#[]⟩,.slice A6 6 c6] 107)) s 29 CS ∧ (w3.alloc (.cells #[.int .i64 3,.int .i64 0,.string ⟨#[]⟩,.slice A6 6 c6] 107)).cell? ⟨vb,3,none⟩ = some (.slice A6 6 c6) := ⟨HW3.out.1.alloc (by have := HBS.out;have := HW3.out.2.2.2;omega) _,HW3.out.2.1.alloc _,hvr.cell (i := 3) rfl⟩;have ho6 := HW3.out.2.2.1.alloc (.cells #[.int .i64 3,.int .i64 0,.string ⟨#[]⟩,.slice A6 6 c6] 107);clear HW3 HVB;generalize w3.alloc (.cells #[.int .i64 3,.int .i64 0,.string ⟨#[]⟩,.slice A6 6 c6] 107) = w4 at hvr hC ho6 ⊢;have hvl := hvr.lt;have hsz := hvl
 go_wp2_with fail
 rename_i Kz hKz;obtain ⟨w5,hw5⟩ : ∃ w5,w4.drew = w5 := ⟨_,rfl⟩;refine wp_region_treeCW (fun (i : Nat) (W : World) => Below s w W ∧ Row W s 29 CS ∧ W.cell? ⟨vb,3,none⟩ = some (.slice A6 6 c6)) (.take 0 (.take 1 (.take 2 (.take 3 (.take 5 (.take 6 (.take 8 (.take 9 (.take 11 (.take 12 (.take 13 (.take 14 (.one 4 (.one 7 (.one 10 (.one 15 (.one 16 (.take 17 (.one 18 .done))))))))))))))))))) (by kernel_rfl) (by kernel_rfl) (by kernel_rfl) (by kernel_rfl) (by kernel_rfl) ?_;rw [hw5]
 replace hvr : Row w5 vb 107 [.int .i64 3,.int .i64 0,.string ⟨#[]⟩,.slice A6 6 c6] := by rw [← hw5];exact hvr.drew
 replace ho6 : w5.ownsRow w2.heap.size 107 4 (.slice A6 6 c6) 6 (tvCells ([no,ti,kd,vl,fr,un].map Tv.int)) := by rw [← hw5];exact ho6.drew
 replace hC : Below s w w5 ∧ Row w5 s 29 CS ∧ w5.cell? ⟨vb,3,none⟩ = some (.slice A6 6 c6) := by rw [← hw5];exact ⟨hC.1.drew,hC.2.1.drew,hC.2.2⟩
 replace hsz : vb < w5.heap.size := hvr.lt
 have hv5 := hsz
 replace hvl := hsz
 clear hw5
 iterate 12 (refine wpOTC_take rfl _ (by rfl) (fun _ => rfl) (by intro w' hS;obtain ⟨_,c6',c7',c8'⟩ := HCE.out w' hS.2.1;have q := hS.2.2;have hcv := HCV.out w' hS.2.1;go_simp;try with_reducible rfl) hC fun KK hKK => ?_;go_simp;refine hKK _ ?_;clear hKK KK)
 refine wpOTC_one _ rfl (by rfl) rfl fun KK hKK => ?_;go_simp;refine ⟨trivial,(callsIn_wide.2 (HNP.out w5 hC.1)).mono ?_⟩;rintro r w6 hq;obtain ⟨A7,c7,rfl,ho7,hc7,hz7,hb⟩ := hq.out (n := pd.length) rfl (Nat.le_refl _);have hbb : Below s w w6 := hC.1.trans (hb.mono (by have := hC.2.1.lt;omega));have hC2 : Below s w w6 ∧ Row w6 s 29 CS ∧ w6.cell? ⟨vb,3,none⟩ = some (.slice A6 6 c6) := ⟨hbb,hC.2.1.below hb hC.2.1.lt,(hb.cell (p := ⟨vb,3,none⟩) hvl).trans hC.2.2⟩;have H7 : Hid (w6.ownsRow w5.heap.size 107 4 (.slice A7 pd.length c7) pd.length (tvCells (pd.map Tv.int)) ∧ pd.length ≤ c7 ∧ (pd.length = 0 → A7 = none ∧ c7 = 0)) := ⟨ho7,hc7,hz7⟩
 replace hvr := hvr.below hb hvl
 replace ho6 := own_below ho6 hb
 replace hsz : vb < w6.heap.size := hvr.lt
 replace hvl := hsz
 have hs6 := hb.size;refine hKK _ _ (fun _ _ => hC2) ?_;clear hKK KK hq ho7 hc7 hz7 hbb hC hb;have hC := hC2;clear hC2;refine wpOTC_one _ rfl (by rfl) rfl fun KK hKK => ?_;go_simp;refine ⟨trivial,(callsIn_wide.2 (HNR.out w6 hC.1)).mono ?_⟩;rintro r w7 hq;obtain ⟨A8,c8,rfl,ho8,hc8,hz8,hb⟩ := hq.out (n := qd.length) rfl (Nat.le_refl _);have hbb : Below s w w7 := hC.1.trans (hb.mono (by have := hC.2.1.lt;omega));have hC2 : Below s w w7 ∧ Row w7 s 29 CS ∧ w7.cell? ⟨vb,3,none⟩ = some (.slice A6 6 c6) := ⟨hbb,hC.2.1.below hb hC.2.1.lt,(hb.cell (p := ⟨vb,3,none⟩) hvl).trans hC.2.2⟩;have H8 : Hid (w7.ownsRow w6.heap.size 107 4 (.slice A8 qd.length c8) qd.length (tvCells (qd.map Tv.int)) ∧ qd.length ≤ c8 ∧ (qd.length = 0 → A8 = none ∧ c8 = 0)) := ⟨ho8,hc8,hz8⟩
 replace hvr := hvr.below hb hvl
 replace ho6 := own_below ho6 hb
 replace H7 : Hid (_ ∧ _ ∧ _) := ⟨own_below H7.out.1 hb,H7.out.2⟩
 replace hsz : vb < w7.heap.size := hvr.lt
 replace hvl := hsz
 have hs7 := hb.size;refine hKK _ _ (fun _ _ => hC2) ?_;clear hKK KK hq ho8 hc8 hz8 hbb hC hb;have hC := hC2;clear hC2;refine wpOTC_one _ rfl (by rfl) rfl fun KK hKK => ?_;go_simp;refine ⟨trivial,(callsIn_wide.2 (HNN.out w7 hC.1)).mono ?_⟩;rintro r w8 hq;obtain ⟨A9,c9,rfl,ho9,hc9,hz9,hb⟩ := hq.out (n := nd.length) rfl (Nat.le_refl _);have hbb : Below s w w8 := hC.1.trans (hb.mono (by have := hC.2.1.lt;omega));have hC2 : Below s w w8 ∧ Row w8 s 29 CS ∧ w8.cell? ⟨vb,3,none⟩ = some (.slice A6 6 c6) := ⟨hbb,hC.2.1.below hb hC.2.1.lt,(hb.cell (p := ⟨vb,3,none⟩) hvl).trans hC.2.2⟩;have H9 : Hid (w8.ownsRow w7.heap.size 107 4 (.slice A9 nd.length c9) nd.length (tvCells (nd.map Tv.int)) ∧ nd.length ≤ c9 ∧ (nd.length = 0 → A9 = none ∧ c9 = 0)) := ⟨ho9,hc9,hz9⟩
 replace hvr := hvr.below hb hvl
 replace ho6 := own_below ho6 hb
 replace H7 : Hid (_ ∧ _ ∧ _) := ⟨own_below H7.out.1 hb,H7.out.2⟩
 replace H8 : Hid (_ ∧ _ ∧ _) := ⟨own_below H8.out.1 hb,H8.out.2⟩
 replace hsz : vb < w8.heap.size := hvr.lt
 replace hvl := hsz
 refine hKK _ _ (fun _ _ => hC2) ?_;clear hKK KK hq ho9 hc9 hz9 hbb hC hb;have hC := hC2;clear hC2;have H789 : Hid (vb < w5.heap.size ∧ w5.heap.size ≤ w6.heap.size ∧ w6.heap.size ≤ w7.heap.size) := ⟨hv5,hs6,hs7⟩;refine wpOTC_one _ rfl (by rfl) rfl fun KK hKK => ?_;go_simp;have hC2 : Below s w (w8.alloc (.cells (tvCells [.lst A7 pd.length c7,.lst A8 qd.length c8,.lst A9 nd.length c9,.txt TS]).toArray 107)) ∧ Row (w8.alloc (.cells (tvCells [.lst A7 pd.length c7,.lst A8 qd.length c8,.lst A9 nd.length c9,.txt TS]).toArray 107)) s 29 CS ∧ (w8.alloc (.cells (tvCells [.lst A7 pd.length c7,.lst A8 qd.length c8,.lst A9 nd.length c9,.txt TS]).toArray 107)).cell? ⟨vb,3,none⟩ = some (.slice A6 6 c6) := ⟨hC.1.alloc (by have := hC.2.1.lt;omega) _,hC.2.1.alloc _,(hvr.alloc _).cell (i := 3) rfl⟩;refine hKK _ _ (fun _ _ => hC2) ?_;clear hKK KK;have hd8 := rd_new w8 107 (tvCells [.lst A7 pd.length c7,.lst A8 qd.length c8,.lst A9 nd.length c9,.txt TS]) 4 4 rfl;refine wpOTC_one _ rfl (by rfl) rfl fun KK hKK => ?_;refine wpInU_append_rd (.tmp 23) (.tmp 37) 105 rfl w2.heap.size 107 _ vz 4 56 Tryz.underlying105 rfl rfl rfl rfl rfl (by decide) (.slice A6 6 c6) 6 (tvCells ([no,ti,kd,vl,fr,un].map Tv.int)) (by rfl) (ho6.alloc _) (w8.heap.size + 1) (some ⟨w8.heap.size,0,none⟩) 4 4 (tvCells [.lst A7 pd.length c7,.lst A8 qd.length c8,.lst A9 nd.length c9,.txt TS]) (by rfl) hd8 (tv_ones _) (by unfold maxLen;omega) (by omega) (by have := HBS.out;simp;omega) ?_;intro v9 w9 hown9 hgrow9 hor9;obtain ⟨g9,c9x,hv9,_,_⟩ := hown9.form (by omega);subst hv9;have hlt6 := HBS.out.2.2;have hb9 : Below s w w9 := hC2.1.grown hgrow9 (by have := hC2.2.1.lt;omega) (fun g e => by have := hlt6 g e;have := HBS.out;omega);have hr9 : Row w9 vb 107 [.int .i64 3,.int .i64 0,.string ⟨#[]⟩,.slice A6 6 c6] := (hvr.alloc _).grown hgrow9 (fun e => by have := hlt6 vb e.symm;omega);have hs9 : Row w9 s 29 CS := hC2.2.1.grown hgrow9 (fun e => by have := hlt6 s e.symm;have := HBS.out;omega);have hC3 : Below s w w9 ∧ Row w9 s 29 CS ∧ w9.cell? ⟨vb,3,none⟩ = some (.slice A6 6 c6) := ⟨hb9,hs9,hr9.cell (i := 3) rfl⟩;have k7 := (H7.out.1.alloc (.cells (tvCells [.lst A7 pd.length c7,.lst A8 qd.length c8,.lst A9 nd.length c9,.txt TS]).toArray 107)).kept hgrow9 (ne_own fun g e h => by have := hlt6 g e;have := (H7.out.1.lt g h).1;have := H789.out;omega);have k8 := (H8.out.1.alloc (.cells (tvCells [.lst A7 pd.length c7,.lst A8 qd.length c8,.lst A9 nd.length c9,.txt TS]).toArray 107)).kept hgrow9 (ne_own fun g e h => by have := hlt6 g e;have := (H8.out.1.lt g h).1;have := H789.out;omega);have k9 := (H9.out.1.alloc (.cells (tvCells [.lst A7 pd.length c7,.lst A8 qd.length c8,.lst A9 nd.length c9,.txt TS]).toArray 107)).kept hgrow9 (ne_own fun g e h => by have := hlt6 g e;have := (H9.out.1.lt g h).1;have := H789.out;omega);have K7 := Lib.hid (And.intro (own_setC k7 (p := ⟨vb,3,none⟩) (by have := H789.out;show vb < _;omega) (.slice (some ⟨g9,0,none⟩) 10 c9x)) (And.intro (own_setC k8 (p := ⟨vb,3,none⟩) (by have := H789.out;show vb < _;omega) (.slice (some ⟨g9,0,none⟩) 10 c9x)) (own_setC k9 (p := ⟨vb,3,none⟩) (by have := H789.out;show vb < _;omega) (.slice (some ⟨g9,0,none⟩) 10 c9x))))
 refine hKK _ _ (fun _ _ => hC3) ?_;clear hKK KK k7 k8 k9;refine wpOTC_take rfl _ (by rfl) (fun _ => rfl) (by intro w' hS;go_simp;try with_reducible rfl) hC3 fun KK hKK => ?_;go_simp;refine hKK _ ?_;clear hKK KK;refine wpOTC_one [] rfl (by rfl) (by kernel_rfl) fun KK hKK => ?_;have s3 := hr9.cell (i := 3) rfl;have f3 := hr9.fz 3;go_simp;refine hKK _ _ (by intro e he;simp at he) ?_;clear hKK KK s3 f3;refine wpOTC_done ?_;show Kz _ _;refine hKz _ _ ?_;go_simp;have hr10 : Row (w9.setCell ⟨vb,3,none⟩ (.slice (some ⟨g9,0,none⟩) 10 c9x)) vb 107 [.int .i64 3,.int .i64 0,.string ⟨#[]⟩,.slice (some ⟨g9,0,none⟩) 10 c9x] := hr9.put 3 _;have hb10 : Below s w (w9.setCell ⟨vb,3,none⟩ (.slice (some ⟨g9,0,none⟩) 10 c9x)) := hb9.setCell (p := ⟨vb,3,none⟩) (by have := HBS.out;show s ≤ vb;omega) _
 have ho10 : (w9.setCell ⟨vb,3,none⟩ (.slice (some ⟨g9,0,none⟩) 10 c9x)).ownsRow w2.heap.size 107 4 (.slice (some ⟨g9,0,none⟩) 10 c9x) 10 (tvCells (([no,ti,kd,vl,fr,un].map Tv.int) ++ [.lst A7 pd.length c7,.lst A8 qd.length c8,.lst A9 nd.length c9,.txt TS])) := by
  have e : tvCells (([no,ti,kd,vl,fr,un].map Tv.int) ++ [.lst A7 pd.length c7,.lst A8 qd.length c8,.lst A9 nd.length c9,.txt TS]) = tvCells ([no,ti,kd,vl,fr,un].map Tv.int) ++ tvCells [.lst A7 pd.length c7,.lst A8 qd.length c8,.lst A9 nd.length c9,.txt TS] := by unfold tvCells;rw [List.flatMap_append]
  rw [e];refine hown9.kept (grown_setC w9 ⟨vb,3,none⟩ (.slice (some ⟨g9,0,none⟩) 10 c9x)) (.inr fun e => ?_);have e9 : g9 = vb := Option.some.inj e
  rcases hor9 with h | h
  ·have := hlt6 g9 (h ▸ rfl);omega
  ·have h' : g9 = (w8.alloc (.cells (tvCells [.lst A7 pd.length c7,.lst A8 qd.length c8,.lst A9 nd.length c9,.txt TS]).toArray 107)).heap.size := Option.some.inj h
   rw [World.size_alloc] at h';omega
 have hc10 : 10 ≤ c9x := by
  obtain ⟨A',c',e,_,h1,_⟩ := own_sliceT ho10
  injection e with e1 e2 e3
  omega
 have HE := Lib.hid (HEN.out _ _ c9x A7 A8 A9 c7 c8 c9 hb10 (Rd.of_own K7.out.1) (Rd.of_own K7.out.2.1) (Rd.of_own K7.out.2.2) H7.out.2.1 H8.out.2.1 H9.out.2.1 H7.out.2.2 H8.out.2.2 H9.out.2.2 (Rd.of_own ho10) hc10);have HB10 := Lib.hid (And.intro hb10 hr10.lt);clear HEN hown9 hgrow9 hor9 ho10 hb10 hc10 K7 H7 H8 H9 hd8 ho6 hC hC2 hC3 hs9 hb9 hr9;generalize w9.setCell ⟨vb,3,none⟩ (.slice (some ⟨g9,0,none⟩) 10 c9x) = w10 at HE HB10 hr10 ⊢;have o0 := hr10.cell (i := 0) rfl;have o1 := hr10.cell (i := 1) rfl;have o2 := hr10.cell (i := 2) rfl;have o3 := hr10.cell (i := 3) rfl;clear hr10
 go_wp2_with fail
 refine HE.out.mono ?_;rintro r w11 ⟨A',c',rfl,e2,e3,e4,hb11,e6⟩;have HF := Lib.hid (HFI.out _ w11 A' c' rfl e2 e3 e4 (HB10.out.1.trans (hb11.mono (by have := HB10.out.2;have := HBS.out;omega))) (fun b o e => by have := e6 b o e;have := HB10.out.2;have := HBS.out;omega));clear e2 e3 e4 e6 hb11 HFI HE;go_wp2;exact HF.out
end Go.Proofs.YtifejdpffkeniaaGreatDoor
