import Derived.Lib.SliceRun
import Derived.Scope
import Derived.Test.YtjcpjhlclpdpjaaGreatS22
import Derived.Test.YtjcpjhlclpdpjaaGreatS16
import Derived.Test.YtjcpjhlclpdpjaaGreatS15
set_option linter.unusedVariables false
set_option maxRecDepth 100000
set_option maxHeartbeats 16000000
namespace Go.Proofs.YtjcpjhlclpdpjaaGreat
open Go.RowKit
attribute [local go_sem] Oper.semAt_some
theorem Below.setCellsU {B b : Nat} (hB : B ≤ b) : ∀ (vs : List Value) (o : Nat) (w0 w : World),Below B w0 w → Below B w0 (w.setCells b o vs)
 | [],o,w0,w,h => h
 | v :: r,o,w0,w,h => Below.setCellsU hB r (o + 1) w0 _ (h.setCell (p := ⟨b,o,none⟩) hB v)
theorem Tch.setCellsU {ex : Nat → Prop} {b : Nat} (hx : ex b) : ∀ (vs : List Value) (o : Nat) (w0 w : World),Tch ex w0 w → Tch ex w0 (w.setCells b o vs)
 | [],o,w0,w,h => h
 | v :: r,o,w0,w,h => Tch.setCellsU hx r (o + 1) w0 _ (h.set (p := ⟨b,o,none⟩) (.inr hx) v)
def wout (l O : List Int) : List Int := l.filter fun x => !decide (x ∈ O)
theorem wout_step {l O : List Int} {j : Nat} {v : Int} (h : l[j]? = some v) : wout (l.take (j + 1)) O = wout (l.take j) O ++ if v ∈ O then [] else [v] := by
 unfold wout
 rw [List.take_add_one,h,List.filter_append]
 by_cases hv : v ∈ O <;> simp [hv]
theorem wpred_any (x : Int) (bo B on oc : Nat) (oA : Option Addr) (O : List Int) (w : World) (hr : Row w bo 23 [.slice oA on oc]) (ho : Rd w B 1 oA on (ivs O)) (hn : on ≤ 4096) :
  Calls Tryz.prog 86 #[.int .i64 x,.pointer (some ⟨bo,0,none⟩)] w fun r w' => r = .returned (.bool (decide (x ∈ O))) ∧ w = w' := by
 have HC := Lib.hid (contI_any oA on oc B O x w ho hn)
 have c0 := hr.cell (i := 0) rfl
 clear hr ho
 go_enter Tryz.func86,Tryz.ntmps86
 go_wp2_with fail
 refine HC.out.mono ?_
 rintro e w1 ⟨rfl,rfl⟩
 go_wp2_with fail
 go_ret
 exact ⟨rfl,rfl⟩
theorem windex_any (A : Option Addr) (n c bo : Nat) (l O : List Int) (w : World) (hl : l.length = n) (hn : n ≤ 4096) (hA : ∀ k,k < n → ∃ b o,A = some ⟨b,o,none⟩ ∧ w.cell? ⟨b,o + k,none⟩ = some (.int .i64 (l.getD k 0)))
  (hp : ∀ x : Int,Calls Tryz.prog 86 #[.int .i64 x,.pointer (some ⟨bo,0,none⟩)] w fun r w' => r = .returned (.bool (decide (x ∈ O))) ∧ w = w') :
  Calls Tryz.prog 112 #[.slice A n c,(.func (.func 86) #[] #[.pointer (some ⟨bo,0,none⟩)])] w fun r w' => ((∃ k : Nat,k < n ∧ r = .returned (.int .i64 (k : Int)) ∧ (∀ j,j < k → ¬ l.getD j 0 ∈ O) ∧ l.getD k 0 ∈ O) ∨ (r = .returned (.int .i64 (-1)) ∧ ∀ j,j < n → ¬ l.getD j 0 ∈ O)) ∧ w = w' := by
 have HA := Lib.hid hA
 have HP := Lib.hid hp
 clear hA hp
 go_enter Tryz.func112,Tryz.ntmps112
 go_wp2
 go_loopw [8] (fun i wr => w = wr ∧ ∃ k : Nat,k ≤ n ∧ i = .int .i64 k ∧ ∀ j,j < k → ¬ l.getD j 0 ∈ O) (fun i _ => n - (intOf i).toNat)
 case atStart => exact ⟨rfl,0,Nat.zero_le _,rfl,fun j hj => absurd hj (by omega)⟩
 case round =>
  obtain ⟨rfl,k,hk,rfl,hu⟩ := hrel
  have HU := Lib.hid hu
  clear hu
  by_cases hlt : k < n
  ·have k1 : (k : Int) < (n : Int) := by omega
   have k0 : (0 : Int) ≤ (k : Int) := by omega
   obtain ⟨b,o,hA1,q0⟩ := HA.out k hlt
   subst hA1
   obtain ⟨X,hX⟩ : ∃ X,l.getD k 0 = X := ⟨_,rfl⟩
   rw [hX] at q0
   have HX := Lib.hid hX
   have hC := HP.out X
   clear hX
   by_cases hx : X ∈ O
   ·rw [decide_eq_true hx] at hC
    have HC := Lib.hid hC
    have HM := Lib.hid hx
    clear hx hC
    go_wp2_with (go_at_call 86;refine HC.out.mono ?_;rintro e w1 ⟨rfl,rfl⟩)
    go_ret
    exact ⟨.inl ⟨k,hlt,rfl,HU.out,by rw [HX.out];exact HM.out⟩,rfl⟩
   ·rw [decide_eq_false hx] at hC
    have HC := Lib.hid hC
    have HN : Hid (∀ j,j < k + 1 → ¬ l.getD j 0 ∈ O) := fun j hj => by
     by_cases e : j = k
     ·rw [e,HX.out];exact hx
     ·exact HU.out j (by omega)
    clear hx hC
    go_wp2_with (go_at_call 86;refine HC.out.mono ?_;rintro e w1 ⟨rfl,rfl⟩)
    go_roundw
    case rel => exact ⟨trivial,k + 1,by omega,by go_num,HN.out⟩
    case measure => simp [intOf];omega
  ·obtain rfl : k = n := by omega
   go_wp2
   go_ret
   exact ⟨.inr ⟨rfl,HU.out⟩,rfl⟩
theorem wdelete_any (g n c B bo : Nat) (l O : List Int) (w : World) (h : w.ownsRow B 3 1 (.slice (some ⟨g,0,none⟩) n c) n (ivs l)) (hn0 : 0 < n) (hn : n ≤ 4096)
  (hp : ∀ W,Tch (fun k => k = g) w W → ∀ x : Int,Calls Tryz.prog 86 #[.int .i64 x,.pointer (some ⟨bo,0,none⟩)] W fun r w' => r = .returned (.bool (decide (x ∈ O))) ∧ W = w') :
  Calls Tryz.prog 84 #[.slice (some ⟨g,0,none⟩) n c,(.func (.func 86) #[] #[.pointer (some ⟨bo,0,none⟩)])] w fun r w' => r = .returned (.slice (some ⟨g,0,none⟩) (wout l O).length c) ∧ (∀ j,j < (wout l O).length → w'.cell? ⟨g,j,none⟩ = some (.int .i64 ((wout l O).getD j 0))) ∧ (wout l O).length ≤ c ∧ Tch (fun k => k = g) w w' := by
 have hl : l.length = n := by have := h.1;simpa using this
 have hge := own_ge h hn0
 have HIX : Hid (Calls Tryz.prog 112 #[.slice (some ⟨g,0,none⟩) n c,(.func (.func 86) #[] #[.pointer (some ⟨bo,0,none⟩)])] w fun r w' => ((∃ k : Nat,k < n ∧ r = .returned (.int .i64 (k : Int)) ∧ (∀ j,j < k → ¬ l.getD j 0 ∈ O) ∧ l.getD k 0 ∈ O) ∨ (r = .returned (.int .i64 (-1)) ∧ ∀ j,j < n → ¬ l.getD j 0 ∈ O)) ∧ w = w') :=
  windex_any _ n c bo l O w hl hn (fun k hk => ⟨g,0,rfl,by rw [Nat.zero_add,h.cellAt k (by omega),List.getElem?_map,List.getElem?_eq_getElem (by omega),List.getD_eq_getElem?_getD,List.getElem?_eq_getElem (by omega)];rfl⟩) (hp w (Tch.refl _ _))
 have HP := Lib.hid hp
 have HO := Lib.hid h
 have HL := Lib.hid hl
 clear h hp hl
 go_enter Tryz.func84,Tryz.ntmps84
 go_wp2_with fail
 refine HIX.out.mono ?_
 rintro x w1 ⟨hr,rfl⟩
 rcases hr with ⟨k,hk,rfl,hno,hyes⟩ | ⟨rfl,hno⟩
 ·have hk0 : ((k : Int) == -1) = false := by simp
  have hkk : (k : Int) ≠ -1 := by omega
  have HNO := Lib.hid (And.intro hno hyes)
  clear hno hyes HIX
  go_wp2_with fail
  go_loopw [6,5] (fun jj ii wr => ∃ (j i : Nat) (us : List Int),j ≤ n ∧ i < j ∧ jj = .int .i64 j ∧ ii = .int .i64 i ∧ us.length = n ∧ us.take i = wout (l.take j) O ∧ (∀ p,j ≤ p → us.getD p 0 = l.getD p 0) ∧ wr.ownsRow B 3 1 (.slice (some ⟨g,0,none⟩) n c) n (ivs us) ∧ Tch (fun k => k = g) w wr) (fun jj _ _ => n - (intOf jj).toNat)
  case atStart =>
   refine ⟨k + 1,k,l,by omega,by omega,by go_num,rfl,HL.out,?_,fun p _ => rfl,HO.out,Tch.refl _ _⟩
   have hkl : k < l.length := by rw [HL.out];exact hk
   have e : l[k]? = some (l.getD k 0) := by rw [List.getD_eq_getElem?_getD,List.getElem?_eq_getElem hkl];rfl
   rw [wout_step e,if_pos HNO.out.2,List.append_nil]
   refine (List.filter_eq_self.2 fun x hx => ?_).symm
   obtain ⟨q,hq,e⟩ := List.mem_iff_getElem.1 hx
   rw [List.length_take] at hq
   have h1 := HNO.out.1 q (by omega)
   rw [List.getElem_take] at e
   rw [List.getD_eq_getElem?_getD,List.getElem?_eq_getElem (by omega)] at h1
   have h2 : ¬ x ∈ O := e ▸ h1
   simp [h2]
  case round =>
   obtain ⟨j,i,us,hj,hij,rfl,rfl,hul,htk,hlt2,how,htc⟩ := hrel
   have HP2 := Lib.hid (HP.out wr htc)
   have HU := Lib.hid (And.intro hul (And.intro htk (And.intro hlt2 (And.intro how htc))))
   by_cases hjn : j < n
   ·have j1 : (j : Int) < (n : Int) := by omega
    have j0 : (0 : Int) ≤ (j : Int) := by omega
    have i1 : (i : Int) < (n : Int) := by omega
    have i0 : (0 : Int) ≤ (i : Int) := by omega
    have q0 : wr.cell? ⟨g,j,none⟩ = some (.int .i64 (l.getD j 0)) := by
     rw [← hlt2 j (Nat.le_refl _),how.cellAt j (by omega),List.getElem?_map,List.getElem?_eq_getElem (by omega),List.getD_eq_getElem?_getD,List.getElem?_eq_getElem (by omega)];rfl
    have q1 : wr.cell? ⟨g,i,none⟩ = some (.int .i64 (us.getD i 0)) := by
     rw [how.cellAt i (by omega),List.getElem?_map,List.getElem?_eq_getElem (by omega),List.getD_eq_getElem?_getD,List.getElem?_eq_getElem (by omega)];rfl
    have q2 := how.frozenAt i
    obtain ⟨X,hX⟩ : ∃ X,l.getD j 0 = X := ⟨_,rfl⟩
    rw [hX] at q0
    have hC := HP2.out X
    have hlj : l[j]? = some X := by rw [← hX,List.getD_eq_getElem?_getD,List.getElem?_eq_getElem (by rw [HL.out];exact hjn)];rfl
    have hst := wout_step (O := O) hlj
    have HST := Lib.hid hst
    clear hul htk hlt2 how htc hX hlj hst
    by_cases hx : X ∈ O
    ·rw [decide_eq_true hx] at hC
     have HC := Lib.hid hC
     have HM := Lib.hid hx
     clear hx hC
     go_wp2_with (go_at_call 86;refine HC.out.mono ?_;rintro e w1 ⟨rfl,rfl⟩)
     go_roundw
     case rel => exact ⟨j + 1,i,us,by omega,by omega,by go_num,rfl,HU.out.1,by rw [HST.out,if_pos HM.out,List.append_nil];exact HU.out.2.1,fun p hp => HU.out.2.2.1 p (by omega),HU.out.2.2.2.1,HU.out.2.2.2.2⟩
     case measure => simp [intOf];omega
    ·rw [decide_eq_false hx] at hC
     have HC := Lib.hid hC
     have HM := Lib.hid hx
     clear hx hC
     go_wp2_with (go_at_call 86;refine HC.out.mono ?_;rintro e w1 ⟨rfl,rfl⟩)
     go_roundw
     case rel =>
      refine ⟨j + 1,i + 1,us.set i X,by omega,by omega,by go_num,by go_num,by rw [List.length_set];exact HU.out.1,?_,fun p hp => ?_,?_,HU.out.2.2.2.2.set (p := ⟨g,i,none⟩) (.inr rfl) _⟩
      ·have hiu : i < us.length := by rw [HU.out.1];omega
       rw [HST.out,if_neg HM.out,← HU.out.2.1,List.take_add_one,List.getElem?_set_self hiu,List.take_set_of_le (Nat.le_refl _)]
       rfl
      ·rw [List.getD_eq_getElem?_getD,List.getElem?_set_ne (by omega),← List.getD_eq_getElem?_getD]
       exact HU.out.2.2.1 p (by omega)
      ·have := (HU.out.2.2.2.1.stored i (.int .i64 X)).1
       rwa [show (ivs us).set i (.int .i64 X) = ivs (us.set i X) by simp [List.map_set]] at this
     case measure => simp [intOf];omega
   ·obtain rfl : j = n := by omega
    have hwl : wout l O = us.take i := by rw [htk,← HL.out,List.take_length]
    have hwn : (wout l O).length = i := by rw [hwl,List.length_take];omega
    have hcl : ∀ ty,(Builtin.clear_ #[23] ty #[.slice (some ⟨g,i,none⟩) (j - i) (c - i)]).run Tryz.prog wr = .ok (.tuple #[]) (wr.setCells g i (List.replicate (j - i) (.int .i64 0))) := fun ty =>
     Lib.run_clear_slice wr _ _ ty _ Tryz.underlying23 zeroInt rfl rfl g i (j - i) (c - i) (by omega) (fun q hq => by rw [how.cellAt (i + q) (by omega),List.getElem?_map,List.getElem?_eq_getElem (by omega)];rfl) (fun q hq => how.frozenAt (i + q))
    have i1 : (i : Int) ≤ (j : Int) := by omega
    have i0 : (0 : Int) ≤ (i : Int) := by omega
    have i2 : (i : Int) ≤ (c : Int) := by omega
    have i3 : i ≤ j := by omega
    have HWN := Lib.hid (And.intro hwl hwn)
    clear hul htk hlt2 how htc hwl hwn
    go_wp2_with fail
    go_ret
    rw [HWN.out.2]
    refine ⟨rfl,fun q hq => ?_,by omega,Tch.setCellsU (ex := fun k => k = g) (b := g) rfl _ _ _ _ HU.out.2.2.2.2⟩
    rw [World.cell?_setCells_out g _ _ _ _ (fun _ _ => .inl hq),HU.out.2.2.2.1.cellAt q (by omega),List.getElem?_map,HWN.out.1,List.getD_eq_getElem?_getD,List.getElem?_take,if_pos hq,List.getElem?_eq_getElem (by rw [HU.out.1];omega)]
    rfl
 ·have hw : wout l O = l := List.filter_eq_self.2 fun x hx => by
   obtain ⟨j,hj,e⟩ := List.mem_iff_getElem.1 hx
   have h1 := hno j (by rw [← HL.out];exact hj)
   rw [List.getD_eq_getElem?_getD,List.getElem?_eq_getElem hj] at h1
   have h2 : ¬ x ∈ O := e ▸ h1
   simp [h2]
  have HW := Lib.hid hw
  clear hno hw HIX
  go_wp2_with fail
  go_ret
  rw [HW.out,HL.out]
  exact ⟨rfl,fun j hj => by rw [HO.out.cellAt j (by omega),List.getElem?_map,List.getElem?_eq_getElem (by rw [HL.out];exact hj),List.getD_eq_getElem?_getD,List.getElem?_eq_getElem (by rw [HL.out];exact hj)];rfl,hge.2.2.1,Tch.refl _ _⟩
theorem without_any (r : RI) (oA : Option Addr) (on oc : Nat) (O : List Int) (w : World) (h : r.ok w w.heap.size) (h0 : 0 < r.d.length) (hn : r.d.length ≤ 4096) (ho : Rd w w.heap.size 1 oA on (ivs O)) (hon : on ≤ 4096) :
  Calls Tryz.prog 52 #[r.cell,.slice oA on oc] w fun x w' => ∃ q : RI,x = .returned q.cell ∧ q.d = wout r.d O ∧ q.ok w' w'.heap.size ∧ Below w.heap.size w w' := by
 obtain ⟨s,hs⟩ : ∃ s,w.heap.size = s := ⟨_,rfl⟩
 have hb1 : Below w.heap.size w (w.alloc (.cells #[.slice oA on oc] 23)) := (Below.refl _ _).alloc (Nat.le_refl _) _
 have hr1 : Row (w.alloc (.cells #[.slice oA on oc] 23)) s 23 [.slice oA on oc] := Row.fresh' _ _ _ hs
 have HCL := Lib.hid (clone_any r (w.alloc (.cells #[.slice oA on oc] 23)) ((h.below hb1).more (by simp)) h0 hn)
 have HB1 : Hid (Below s w (w.alloc (.cells #[.slice oA on oc] 23)) ∧ Row (w.alloc (.cells #[.slice oA on oc] 23)) s 23 [.slice oA on oc]) := ⟨by rw [← hs];exact hb1,hr1⟩
 have HRD : Hid (∀ V,Below s w V → Rd V s 1 oA on (ivs O)) := fun V hV => by rw [hs] at ho;exact ho.below hV
 have HS := Lib.hid hs
 obtain ⟨rA,rc,l⟩ := r
 change 0 < l.length at h0
 change l.length ≤ 4096 at hn
 show Calls _ _ #[.slice rA l.length rc,_] _ fun x w' => ∃ q : RI,x = .returned q.cell ∧ q.d = wout l O ∧ q.ok w' w'.heap.size ∧ Below w.heap.size w w'
 change Hid (Calls Tryz.prog 85 #[.slice rA l.length rc] (w.alloc (.cells #[.slice oA on oc] 23)) fun x w' => ∃ g cap,x = .returned (.slice (some ⟨g,0,none⟩) l.length cap) ∧ w'.ownsRow (w.alloc (.cells #[.slice oA on oc] 23)).heap.size 3 1 (.slice (some ⟨g,0,none⟩) l.length cap) l.length (ivs l) ∧ Below (w.alloc (.cells #[.slice oA on oc] 23)).heap.size (w.alloc (.cells #[.slice oA on oc] 23)) w') at HCL
 have hsz : (w.alloc (.cells #[.slice oA on oc] 23)).heap.size = s + 1 := by rw [World.size_alloc,hs]
 rw [hsz] at HCL
 obtain ⟨n,hnn⟩ : ∃ n,l.length = n := ⟨_,rfl⟩
 rw [hnn] at HCL h0 hn ⊢
 rw [hs]
 clear h ho hb1 hr1 hs hsz hnn
 go_enter Tryz.func52,Tryz.ntmps52
 go_wp2_with fail
 rw [HS.out]
 refine HCL.out.mono ?_
 rintro x w2 ⟨g,cap,rfl,how,hb2⟩
 have hB2 : Below s w w2 := HB1.out.1.trans (hb2.mono (by omega))
 have hr2 := HB1.out.2.below hb2 (by omega)
 have hge := own_ge how h0
 have HDF := Lib.hid (wdelete_any g n cap (s + 1) s l O w2 how h0 hn (fun W hW x => wpred_any x s s on oc oA O W (hW.row hr2 (by omega)) (HRD.out W (hB2.trans (hW.below (by have := hr2.lt;omega) (by intro i hi e;omega)))) hon))
 have HB2 : Hid (Below s w w2 ∧ s < w2.heap.size) := ⟨hB2,hr2.lt⟩
 clear how hb2 hB2 hr2 HCL HB1
 go_wp2_with fail
 refine HDF.out.mono ?_
 rintro x w3 ⟨rfl,hc3,hcap,ht3⟩
 have H3 := Lib.hid (And.intro hc3 (And.intro hcap ht3))
 clear hc3 hcap ht3 HDF
 go_wp2_with fail
 go_ret
 obtain ⟨hc3,hcap,ht3⟩ := H3.out
 refine ⟨⟨some ⟨g,0,none⟩,cap,wout l O⟩,rfl,rfl,⟨⟨by simp,fun _ => ⟨g,0,rfl,by have := ht3.size;omega,fun j u hu => ?_⟩⟩,hcap,hge.2.2.2⟩,HB2.out.1.trans (ht3.below (by have := HB2.out.2;omega) (by intro i hi e;omega))⟩
 have hj : j < (wout l O).length := by
  have := (List.getElem?_eq_some_iff.1 hu).1
  simpa using this
 rw [Nat.zero_add,hc3 j hj]
 rw [List.getElem?_map,List.getElem?_eq_getElem hj] at hu
 rw [List.getD_eq_getElem?_getD,List.getElem?_eq_getElem hj]
 exact hu
end Go.Proofs.YtjcpjhlclpdpjaaGreat
namespace Go.Proofs.YtjcpjhlclpdpjaaGreat
open Go.RowKit
attribute [local go_sem] Oper.semAt_some
def pop6 (m : Nat) : Nat := ((List.range 6).filter fun i => m / 2 ^ i % 2 == 1).length
def OneP (m : Nat) : Prop := ∀ w : World,Calls Tryz.prog 91 #[.int .u64 (m : Int)] w fun r w' => r = .returned (.int .i64 (pop6 m : Int)) ∧ w = w'
theorem one_0 : OneP 0 := fun w => by
 go_enter Tryz.func91,Tryz.ntmps91
 go_wp2
 go_ret
 exact ⟨by kernel_rfl,rfl⟩
theorem one_1 : OneP 1 := fun w => by
 go_enter Tryz.func91,Tryz.ntmps91
 go_wp2
 go_ret
 exact ⟨by kernel_rfl,rfl⟩
theorem one_2 : OneP 2 := fun w => by
 go_enter Tryz.func91,Tryz.ntmps91
 go_wp2
 go_ret
 exact ⟨by kernel_rfl,rfl⟩
theorem one_3 : OneP 3 := fun w => by
 go_enter Tryz.func91,Tryz.ntmps91
 go_wp2
 go_ret
 exact ⟨by kernel_rfl,rfl⟩
theorem one_4 : OneP 4 := fun w => by
 go_enter Tryz.func91,Tryz.ntmps91
 go_wp2
 go_ret
 exact ⟨by kernel_rfl,rfl⟩
theorem one_5 : OneP 5 := fun w => by
 go_enter Tryz.func91,Tryz.ntmps91
 go_wp2
 go_ret
 exact ⟨by kernel_rfl,rfl⟩
theorem one_6 : OneP 6 := fun w => by
 go_enter Tryz.func91,Tryz.ntmps91
 go_wp2
 go_ret
 exact ⟨by kernel_rfl,rfl⟩
theorem one_7 : OneP 7 := fun w => by
 go_enter Tryz.func91,Tryz.ntmps91
 go_wp2
 go_ret
 exact ⟨by kernel_rfl,rfl⟩
theorem one_8 : OneP 8 := fun w => by
 go_enter Tryz.func91,Tryz.ntmps91
 go_wp2
 go_ret
 exact ⟨by kernel_rfl,rfl⟩
theorem one_9 : OneP 9 := fun w => by
 go_enter Tryz.func91,Tryz.ntmps91
 go_wp2
 go_ret
 exact ⟨by kernel_rfl,rfl⟩
theorem one_10 : OneP 10 := fun w => by
 go_enter Tryz.func91,Tryz.ntmps91
 go_wp2
 go_ret
 exact ⟨by kernel_rfl,rfl⟩
theorem one_11 : OneP 11 := fun w => by
 go_enter Tryz.func91,Tryz.ntmps91
 go_wp2
 go_ret
 exact ⟨by kernel_rfl,rfl⟩
theorem one_12 : OneP 12 := fun w => by
 go_enter Tryz.func91,Tryz.ntmps91
 go_wp2
 go_ret
 exact ⟨by kernel_rfl,rfl⟩
theorem one_13 : OneP 13 := fun w => by
 go_enter Tryz.func91,Tryz.ntmps91
 go_wp2
 go_ret
 exact ⟨by kernel_rfl,rfl⟩
theorem one_14 : OneP 14 := fun w => by
 go_enter Tryz.func91,Tryz.ntmps91
 go_wp2
 go_ret
 exact ⟨by kernel_rfl,rfl⟩
theorem one_15 : OneP 15 := fun w => by
 go_enter Tryz.func91,Tryz.ntmps91
 go_wp2
 go_ret
 exact ⟨by kernel_rfl,rfl⟩
theorem one_16 : OneP 16 := fun w => by
 go_enter Tryz.func91,Tryz.ntmps91
 go_wp2
 go_ret
 exact ⟨by kernel_rfl,rfl⟩
theorem one_17 : OneP 17 := fun w => by
 go_enter Tryz.func91,Tryz.ntmps91
 go_wp2
 go_ret
 exact ⟨by kernel_rfl,rfl⟩
theorem one_18 : OneP 18 := fun w => by
 go_enter Tryz.func91,Tryz.ntmps91
 go_wp2
 go_ret
 exact ⟨by kernel_rfl,rfl⟩
theorem one_19 : OneP 19 := fun w => by
 go_enter Tryz.func91,Tryz.ntmps91
 go_wp2
 go_ret
 exact ⟨by kernel_rfl,rfl⟩
theorem one_20 : OneP 20 := fun w => by
 go_enter Tryz.func91,Tryz.ntmps91
 go_wp2
 go_ret
 exact ⟨by kernel_rfl,rfl⟩
theorem one_21 : OneP 21 := fun w => by
 go_enter Tryz.func91,Tryz.ntmps91
 go_wp2
 go_ret
 exact ⟨by kernel_rfl,rfl⟩
theorem one_22 : OneP 22 := fun w => by
 go_enter Tryz.func91,Tryz.ntmps91
 go_wp2
 go_ret
 exact ⟨by kernel_rfl,rfl⟩
theorem one_23 : OneP 23 := fun w => by
 go_enter Tryz.func91,Tryz.ntmps91
 go_wp2
 go_ret
 exact ⟨by kernel_rfl,rfl⟩
theorem one_24 : OneP 24 := fun w => by
 go_enter Tryz.func91,Tryz.ntmps91
 go_wp2
 go_ret
 exact ⟨by kernel_rfl,rfl⟩
theorem one_25 : OneP 25 := fun w => by
 go_enter Tryz.func91,Tryz.ntmps91
 go_wp2
 go_ret
 exact ⟨by kernel_rfl,rfl⟩
theorem one_26 : OneP 26 := fun w => by
 go_enter Tryz.func91,Tryz.ntmps91
 go_wp2
 go_ret
 exact ⟨by kernel_rfl,rfl⟩
theorem one_27 : OneP 27 := fun w => by
 go_enter Tryz.func91,Tryz.ntmps91
 go_wp2
 go_ret
 exact ⟨by kernel_rfl,rfl⟩
theorem one_28 : OneP 28 := fun w => by
 go_enter Tryz.func91,Tryz.ntmps91
 go_wp2
 go_ret
 exact ⟨by kernel_rfl,rfl⟩
theorem one_29 : OneP 29 := fun w => by
 go_enter Tryz.func91,Tryz.ntmps91
 go_wp2
 go_ret
 exact ⟨by kernel_rfl,rfl⟩
theorem one_30 : OneP 30 := fun w => by
 go_enter Tryz.func91,Tryz.ntmps91
 go_wp2
 go_ret
 exact ⟨by kernel_rfl,rfl⟩
theorem one_31 : OneP 31 := fun w => by
 go_enter Tryz.func91,Tryz.ntmps91
 go_wp2
 go_ret
 exact ⟨by kernel_rfl,rfl⟩
theorem one_32 : OneP 32 := fun w => by
 go_enter Tryz.func91,Tryz.ntmps91
 go_wp2
 go_ret
 exact ⟨by kernel_rfl,rfl⟩
theorem one_33 : OneP 33 := fun w => by
 go_enter Tryz.func91,Tryz.ntmps91
 go_wp2
 go_ret
 exact ⟨by kernel_rfl,rfl⟩
theorem one_34 : OneP 34 := fun w => by
 go_enter Tryz.func91,Tryz.ntmps91
 go_wp2
 go_ret
 exact ⟨by kernel_rfl,rfl⟩
theorem one_35 : OneP 35 := fun w => by
 go_enter Tryz.func91,Tryz.ntmps91
 go_wp2
 go_ret
 exact ⟨by kernel_rfl,rfl⟩
theorem one_36 : OneP 36 := fun w => by
 go_enter Tryz.func91,Tryz.ntmps91
 go_wp2
 go_ret
 exact ⟨by kernel_rfl,rfl⟩
theorem one_37 : OneP 37 := fun w => by
 go_enter Tryz.func91,Tryz.ntmps91
 go_wp2
 go_ret
 exact ⟨by kernel_rfl,rfl⟩
theorem one_38 : OneP 38 := fun w => by
 go_enter Tryz.func91,Tryz.ntmps91
 go_wp2
 go_ret
 exact ⟨by kernel_rfl,rfl⟩
theorem one_39 : OneP 39 := fun w => by
 go_enter Tryz.func91,Tryz.ntmps91
 go_wp2
 go_ret
 exact ⟨by kernel_rfl,rfl⟩
theorem one_40 : OneP 40 := fun w => by
 go_enter Tryz.func91,Tryz.ntmps91
 go_wp2
 go_ret
 exact ⟨by kernel_rfl,rfl⟩
theorem one_41 : OneP 41 := fun w => by
 go_enter Tryz.func91,Tryz.ntmps91
 go_wp2
 go_ret
 exact ⟨by kernel_rfl,rfl⟩
theorem one_42 : OneP 42 := fun w => by
 go_enter Tryz.func91,Tryz.ntmps91
 go_wp2
 go_ret
 exact ⟨by kernel_rfl,rfl⟩
theorem one_43 : OneP 43 := fun w => by
 go_enter Tryz.func91,Tryz.ntmps91
 go_wp2
 go_ret
 exact ⟨by kernel_rfl,rfl⟩
theorem one_44 : OneP 44 := fun w => by
 go_enter Tryz.func91,Tryz.ntmps91
 go_wp2
 go_ret
 exact ⟨by kernel_rfl,rfl⟩
theorem one_45 : OneP 45 := fun w => by
 go_enter Tryz.func91,Tryz.ntmps91
 go_wp2
 go_ret
 exact ⟨by kernel_rfl,rfl⟩
theorem one_46 : OneP 46 := fun w => by
 go_enter Tryz.func91,Tryz.ntmps91
 go_wp2
 go_ret
 exact ⟨by kernel_rfl,rfl⟩
theorem one_47 : OneP 47 := fun w => by
 go_enter Tryz.func91,Tryz.ntmps91
 go_wp2
 go_ret
 exact ⟨by kernel_rfl,rfl⟩
theorem one_48 : OneP 48 := fun w => by
 go_enter Tryz.func91,Tryz.ntmps91
 go_wp2
 go_ret
 exact ⟨by kernel_rfl,rfl⟩
theorem one_49 : OneP 49 := fun w => by
 go_enter Tryz.func91,Tryz.ntmps91
 go_wp2
 go_ret
 exact ⟨by kernel_rfl,rfl⟩
theorem one_50 : OneP 50 := fun w => by
 go_enter Tryz.func91,Tryz.ntmps91
 go_wp2
 go_ret
 exact ⟨by kernel_rfl,rfl⟩
theorem one_51 : OneP 51 := fun w => by
 go_enter Tryz.func91,Tryz.ntmps91
 go_wp2
 go_ret
 exact ⟨by kernel_rfl,rfl⟩
theorem one_52 : OneP 52 := fun w => by
 go_enter Tryz.func91,Tryz.ntmps91
 go_wp2
 go_ret
 exact ⟨by kernel_rfl,rfl⟩
theorem one_53 : OneP 53 := fun w => by
 go_enter Tryz.func91,Tryz.ntmps91
 go_wp2
 go_ret
 exact ⟨by kernel_rfl,rfl⟩
theorem one_54 : OneP 54 := fun w => by
 go_enter Tryz.func91,Tryz.ntmps91
 go_wp2
 go_ret
 exact ⟨by kernel_rfl,rfl⟩
theorem one_55 : OneP 55 := fun w => by
 go_enter Tryz.func91,Tryz.ntmps91
 go_wp2
 go_ret
 exact ⟨by kernel_rfl,rfl⟩
theorem one_56 : OneP 56 := fun w => by
 go_enter Tryz.func91,Tryz.ntmps91
 go_wp2
 go_ret
 exact ⟨by kernel_rfl,rfl⟩
theorem one_57 : OneP 57 := fun w => by
 go_enter Tryz.func91,Tryz.ntmps91
 go_wp2
 go_ret
 exact ⟨by kernel_rfl,rfl⟩
theorem one_58 : OneP 58 := fun w => by
 go_enter Tryz.func91,Tryz.ntmps91
 go_wp2
 go_ret
 exact ⟨by kernel_rfl,rfl⟩
theorem one_59 : OneP 59 := fun w => by
 go_enter Tryz.func91,Tryz.ntmps91
 go_wp2
 go_ret
 exact ⟨by kernel_rfl,rfl⟩
theorem one_60 : OneP 60 := fun w => by
 go_enter Tryz.func91,Tryz.ntmps91
 go_wp2
 go_ret
 exact ⟨by kernel_rfl,rfl⟩
theorem one_61 : OneP 61 := fun w => by
 go_enter Tryz.func91,Tryz.ntmps91
 go_wp2
 go_ret
 exact ⟨by kernel_rfl,rfl⟩
theorem one_62 : OneP 62 := fun w => by
 go_enter Tryz.func91,Tryz.ntmps91
 go_wp2
 go_ret
 exact ⟨by kernel_rfl,rfl⟩
theorem one_63 : OneP 63 := fun w => by
 go_enter Tryz.func91,Tryz.ntmps91
 go_wp2
 go_ret
 exact ⟨by kernel_rfl,rfl⟩
theorem one_all : ∀ m : Nat,m < 64 → OneP m
 | 0,_ => one_0
 | 1,_ => one_1
 | 2,_ => one_2
 | 3,_ => one_3
 | 4,_ => one_4
 | 5,_ => one_5
 | 6,_ => one_6
 | 7,_ => one_7
 | 8,_ => one_8
 | 9,_ => one_9
 | 10,_ => one_10
 | 11,_ => one_11
 | 12,_ => one_12
 | 13,_ => one_13
 | 14,_ => one_14
 | 15,_ => one_15
 | 16,_ => one_16
 | 17,_ => one_17
 | 18,_ => one_18
 | 19,_ => one_19
 | 20,_ => one_20
 | 21,_ => one_21
 | 22,_ => one_22
 | 23,_ => one_23
 | 24,_ => one_24
 | 25,_ => one_25
 | 26,_ => one_26
 | 27,_ => one_27
 | 28,_ => one_28
 | 29,_ => one_29
 | 30,_ => one_30
 | 31,_ => one_31
 | 32,_ => one_32
 | 33,_ => one_33
 | 34,_ => one_34
 | 35,_ => one_35
 | 36,_ => one_36
 | 37,_ => one_37
 | 38,_ => one_38
 | 39,_ => one_39
 | 40,_ => one_40
 | 41,_ => one_41
 | 42,_ => one_42
 | 43,_ => one_43
 | 44,_ => one_44
 | 45,_ => one_45
 | 46,_ => one_46
 | 47,_ => one_47
 | 48,_ => one_48
 | 49,_ => one_49
 | 50,_ => one_50
 | 51,_ => one_51
 | 52,_ => one_52
 | 53,_ => one_53
 | 54,_ => one_54
 | 55,_ => one_55
 | 56,_ => one_56
 | 57,_ => one_57
 | 58,_ => one_58
 | 59,_ => one_59
 | 60,_ => one_60
 | 61,_ => one_61
 | 62,_ => one_62
 | 63,_ => one_63
 | n + 64,h => absurd h (by omega)
theorem ones6_any (m : Nat) (h : m < 64) (w : World) : Calls Tryz.prog 65 #[.int .u64 (m : Int)] w fun r w' => r = .returned (.int .i64 (pop6 m : Int)) ∧ w = w' := by
 have H := Lib.hid (one_all m h)
 go_enter Tryz.func65,Tryz.ntmps65
 go_wp2_with (go_at_call 91;refine (H.out _).mono ?_;rintro e w1 ⟨rfl,rfl⟩)
 go_ret
 exact ⟨rfl,rfl⟩
end Go.Proofs.YtjcpjhlclpdpjaaGreat
namespace Go.Proofs.YtjcpjhlclpdpjaaGreat
open Go.RowKit
section
variable {F : Fence} {n : Nat} {P : Program} {Q : Exit → Act → World → Prop} {a : Act} {w : World} {b : Frame} {k : List Item} {cs : List Frame}
theorem stepR_scope {c : Code} : step P (lone (b.atR a (.code (.scope c) :: k)) cs w) = .next (lone (b.atR a (.code c :: .inScope c :: k)) cs w) :=
 step_lone_go (by simp [stepG,stepG.exec,Frame.atR])
theorem stepR_inScope {c : Code} : step P (lone (b.atR a (.inScope c :: k)) cs w) = .next (lone (b.atR a k) cs w) :=
 step_lone_go (by simp [stepG,stepG.exec,Frame.atR])
theorem wpIn_scope_straight {c : Code} (h : c.wpIn F n P (Exit.noGoto Q) a w) : (Code.scope c).wpIn F n P Q a w := by
 intro b k cs hro hb hr
 have h0 : (lone (b.atR a (.code (.scope c) :: k)) cs w).fenced P F := fenced_calm hb hr rfl
 obtain ⟨e,a₁,w₁,hq,harr⟩ := h b (.inScope c :: k) cs hro hb hr
 cases e with
 | normal => exact ⟨.normal,a₁,w₁,hq,.head h0 stepR_scope (StepsIn.trans harr (.one (fenced_calm hb hr rfl) stepR_inScope))⟩
 | exit id =>
  have hx : exitTo id (.inScope c :: k) = exitTo id k := by simp [exitTo]
  exact ⟨.exit id,a₁,w₁,hq,.of_steps (.one h0 stepR_scope) ⟨fun k' hk => harr.1 k' (by rw [hx];exact hk),fun hr hk => harr.2 hr (by rw [hx];exact hk)⟩⟩
 | goto l => exact hq.elim
 | ret => exact ⟨_,a₁,w₁,hq,.of_steps (.one h0 stepR_scope) harr⟩
 | panic ch => exact ⟨_,a₁,w₁,hq,.of_steps (.one h0 stepR_scope) harr⟩
 | outgrown => exact ⟨_,a₁,w₁,hq,.of_steps (.one h0 stepR_scope) harr⟩
end
end Go.Proofs.YtjcpjhlclpdpjaaGreat
namespace Go.Proofs.YtjcpjhlclpdpjaaGreat
open Go.RowKit
attribute [local go_sem] Oper.semAt_some
theorem and_one6 : ∀ D : Nat,D < 64 → bits BinOp.and IntKind.i64 (D : Int) 1 = ((D % 2 : Nat) : Int) := by decide
def pickq (P : List Int) (n m q : Nat) : List Int := ((List.range q).filter fun i => m / 2 ^ (n - 1 - i) % 2 == 1).map fun i => P.getD i 0
def pick (P : List Int) (n m : Nat) : List Int := pickq P n m n
def subL (P : List Int) (n sz : Nat) : Nat → List (List Int)
 | 0 => []
 | m + 1 => if pop6 m = sz then pick P n m :: subL P n sz m else subL P n sz m
def subF (P : List Int) (n : Nat) : Nat → Nat → List (List Int)
 | 0,sz => []
 | k + 1,sz => subL P n sz (2 ^ n) ++ subF P n k (sz + 1)
def subs (P : List Int) : List (List Int) := subF P P.length (P.length + 1) 0
theorem subsets_any (A : Option Addr) (n c : Nat) (w : World) : Calls Tryz.prog 54 #[.slice A n c] w fun r w' =>
  r = .returned (.func (.func 87) #[] #[.pointer (some ⟨w.heap.size,0,none⟩)]) ∧ w.alloc (.cells #[.slice A n c] 23) = w' := by
 go_enter Tryz.func54,Tryz.ntmps54
 go_wp2
 go_ret
 exact ⟨rfl,rfl⟩
theorem subsets1_hands (P : List Int) (A : Option Addr) (c sb B : Nat) (hn : P.length ≤ 6) (w0 : World) (I : List (List Int) → World → Prop)
  (hI : ∀ s W,I s W → Row W sb 23 [.slice A P.length c] ∧ Rd W B 1 A P.length (ivs P) ∧ B ≤ W.heap.size) :
  Hands Fence.wide 8 Tryz.prog 87 #[.pointer (some ⟨sb,0,none⟩)] w0 I (fun s vs s' W => ∃ e,s = e :: s' ∧ ∃ A' c',vs = #[.slice A' e.length c'] ∧ Rd W W.heap.size 1 A' e.length (ivs e) ∧ e.length ≤ c' ∧ c' ≤ maxLen) (subs P) (fun s => s = []) := by
 intro l J Jx W hb hJI hJ hJx hY h0
 obtain ⟨n,hnn⟩ : ∃ n,P.length = n := ⟨_,rfl⟩
 have hs0 : subs P = subF P n (n + 1) 0 := by unfold subs;rw [hnn]
 rw [hs0] at h0
 have HI : Hid (∀ s V,J s V → Row V sb 23 [.slice A n c] ∧ ∀ k,k < n → ∃ b o,A = some ⟨b,o,none⟩ ∧ ∀ V',Below V.heap.size V V' → V'.cell? ⟨b,o + k,none⟩ = some (.int .i64 (P.getD k 0))) := fun s V h => by
  obtain ⟨q1,q2,q3⟩ := hI s V (hJI s V h)
  rw [hnn] at q1 q2
  refine ⟨q1,fun k hk => ?_⟩
  obtain ⟨_,b,o,e,hb,hc⟩ := i64at q2 hk
  exact ⟨b,o,e,fun V' hV' => hc k hk V' (hV'.mono q3)⟩
 have HY := Lib.hid hY
 have HJ := Lib.hid hJ
 have H0 := Lib.hid h0
 rw [hnn] at hn
 refine callsIn_of_wp Tryz.func87 rfl trivial ?_ rfl
 obtain ⟨c1,_⟩ := HI.out _ _ h0
 have p0 := c1.cell (i := 0) rfl
 clear hI hJI hJ hJx hY h0 hb c1 hnn hs0
 simp only [Tryz.ntmps87,List.size_toArray,List.length_cons,List.length_nil,Nat.reduceAdd,Nat.reduceSub,Array.replicate_succ,Array.replicate_zero,List.push_toArray,List.append_toArray,List.nil_append,List.cons_append]
 refine wpIn_scope_straight ?_
 gi_wp2
 rename_i Kz hKz
 refine wpIn_label ?_
 show Kz _ _
 refine hKz _ _ ?_
 gi_wp2
 gi_loopw [13] (fun x wr => ∃ sz k : Nat,sz + k = n + 1 ∧ x = .int .i64 sz ∧ J (subF P n k sz) wr) (fun x _ => n + 1 - (intOf x).toNat)
 case atStart => exact ⟨0,n + 1,by omega,rfl,H0.out⟩
 case round =>
  clear H0
  obtain ⟨sz,k,hk,rfl,hj⟩ := hrel
  have HJ1 := Lib.hid hj
  clear hj
  cases k with
  | zero =>
   have ks : ¬ ((sz : Int) < (n : Int) + 1) := by omega
   gi_wp2_with fail
   refine bodyPost_end (results_none' rfl _ _ _ rfl) rfl ?_
   exact ⟨⟨_,rfl⟩,.inl HJ1.out⟩
  | succ k =>
   have k1 : (sz : Int) < (n : Int) + 1 := by omega
   obtain ⟨M,hM⟩ : ∃ M,2 ^ n = M := ⟨_,rfl⟩
   have hM6 : M ≤ 64 := by rw [← hM];calc 2 ^ n ≤ 2 ^ 6 := Nat.pow_le_pow_right (by omega) hn
    _ = 64 := rfl
   have hM1 : 1 ≤ M := by rw [← hM];exact Nat.one_le_two_pow
   have hwa : wrap64 ((2 : Int) ^ n) = (M : Int) := by
    rw [show ((2 : Int) ^ n) = ((2 ^ n : Nat) : Int) by simp,hM]
    exact IntWalk.wrap64_in _ (by omega)
   have hwb : wrap64 ((M : Int) - 1) = (M : Int) - 1 := IntWalk.wrap64_in _ (by omega)
   have HM := Lib.hid hM
   have HJ2 : Hid (J (subL P n sz M ++ subF P n k (sz + 1)) wr) := by rw [← hM];exact HJ1.out
   clear hM HJ1
   gi_wp2_with fail
   clear hwa hwb
   gi_loopw [5] (fun x wx => ∃ m : Nat,m ≤ M ∧ x = .int .i64 ((m : Int) - 1) ∧ J (subL P n sz m ++ subF P n k (sz + 1)) wx) (fun x _ => (intOf x + 1).toNat)
   case atStart => exact ⟨M,Nat.le_refl _,rfl,HJ2.out⟩
   case round =>
    clear HJ2
    obtain ⟨m,hm,rfl,hj⟩ := hrel
    have HJ3 := Lib.hid hj
    cases m with
    | zero =>
     clear hj
     gi_wp2_with fail
     go_roundw
     case rel => exact ⟨sz + 1,k,by omega,by go_num,HJ3.out⟩
     case measure => simp [intOf];omega
    | succ m =>
     obtain ⟨r1,hcc⟩ := HI.out _ _ hj
     have c0 := r1.cell (i := 0) rfl
     have hone := ones6_any m (by omega)
     obtain ⟨Z,hZ⟩ : ∃ Z,pop6 m = Z := ⟨_,rfl⟩
     rw [hZ] at hone
     have HON := Lib.hid hone
     have m0 : (0 : Int) ≤ (m : Int) := by omega
     have m1 : (m : Int) < 64 := by omega
     by_cases hz : Z = sz
     ·have e1 : ((Z : Int) != (sz : Int)) = false := by simp [hz]
      have HZ : Hid (pop6 m = sz) := by rw [← hz];exact hZ
      have HCC := Lib.hid hcc
      have HR1 := Lib.hid r1
      clear hj hone hZ hz hcc r1
      gi_wp2_with (refine ⟨trivial,?_⟩;gi_at_call 65;refine (callsIn_wide.2 (HON.out _)).mono ?_;rintro e w8 ⟨rfl,rfl⟩)
      obtain ⟨wo,hwo⟩ : ∃ wo : World,wo = wr := ⟨_,rfl⟩
      subst hwo
      gi_loopw [30,6] (fun i wv wx => ∃ (q : Nat) (A' : Option Addr) (c' : Nat),q ≤ n ∧ i = .int .i64 q ∧ wv = .slice A' (pickq P n m q).length c' ∧ wx.ownsRow wo.heap.size 3 1 (.slice A' (pickq P n m q).length c') (pickq P n m q).length (ivs (pickq P n m q)) ∧ Below wo.heap.size wo wx) (fun i _ _ => n - (intOf i).toNat)
      case atStart => exact ⟨0,none,0,Nat.zero_le _,rfl,rfl,World.ownsRow_nil _ _ _ _,Below.refl _ _⟩
      case round =>
       obtain ⟨q,A',c',hq,rfl,rfl,how,hbx⟩ := hrel
       by_cases hqn : q < n
       ·have q1 : (q : Int) < (n : Int) := by omega
        have q0 : (0 : Int) ≤ (q : Int) := by omega
        obtain ⟨b,o,hA1,hc⟩ := HCC.out q hqn
        subst hA1
        have d0 := hc wr hbx
        obtain ⟨p,hp⟩ : ∃ p,P.getD q 0 = p := ⟨_,rfl⟩
        rw [hp] at d0
        obtain ⟨D,hD⟩ : ∃ D,m / 2 ^ (n - 1 - q) = D := ⟨_,rfl⟩
        have hD6 : D < 64 := by rw [← hD];exact Nat.lt_of_le_of_lt (Nat.div_le_self _ _) (by omega)
        have hbit : (m : Int) / 2 ^ (n - 1 - q) = (D : Int) := by rw [← hD];simp
        have hst : pickq P n m (q + 1) = pickq P n m q ++ if D % 2 == 1 then [p] else [] := by
         unfold pickq
         rw [List.range_succ,List.filter_append,List.map_append,← hp,← hD]
         by_cases e : m / 2 ^ (n - 1 - q) % 2 = 1 <;> simp [e]
        have hand := and_one6 D hD6
        have HST := Lib.hid hst
        obtain ⟨xs,hxs⟩ : ∃ xs,pickq P n m q = xs := ⟨_,rfl⟩
        rw [hxs] at how HST ⊢
        obtain ⟨L,hL⟩ : ∃ L,xs.length = L := ⟨_,rfl⟩
        have hLq : L ≤ q := by rw [← hL,← hxs];unfold pickq;rw [List.length_map];have := List.length_filter_le (fun i => m / 2 ^ (n - 1 - i) % 2 == 1) (List.range q);rwa [List.length_range] at this
        rw [hL] at how ⊢
        have HLX := Lib.hid hL
        have HOW := Lib.hid (And.intro how hbx)
        have hsz := hbx.size
        clear hc hp hD hst hxs hL how hbx
        by_cases hd : D % 2 = 1
        ·have hcd : (bits BinOp.and IntKind.i64 ((m : Int) / 2 ^ (n - 1 - q)) 1 == 1) = true := by rw [hbit,hand,hd];rfl
         have HD : Hid ((D % 2 == 1) = true) := by show _ = _;simp [hd]
         clear hd hand hbit
         gi_wp2_with (refine wpListInU_append_rd rfl (.tmp 43) (.tmp 45) 23 rfl wo.heap.size 3 _ (.int .i64 0) 1 8 Tryz.underlying23 rfl rfl rfl rfl rfl (by decide) (.slice A' L c') L (ivs xs) (by rfl) (HOW.out.1.alloc _) (wr.heap.size + 1) (some ⟨wr.heap.size,0,none⟩) 1 1 [.int .i64 p] (by rfl) (rd_newU wr 3 (.int .i64 p)) (by intro u hu;simp at hu;rw [hu];rfl) (by unfold maxLen;omega) (by omega) (by simp;omega) ?_;intro v9 w9 hown9 hgrow9 _;obtain ⟨g9,c9,hv9,_,_⟩ := hown9.form (by omega);subst hv9;have H9 := Lib.hid (And.intro hown9 hgrow9);clear hown9 hgrow9)
         go_roundw
         case rel =>
          have e1 : pickq P n m (q + 1) = xs ++ [p] := by rw [HST.out,if_pos HD.out]
          refine ⟨q + 1,some ⟨g9,0,none⟩,c9,by omega,by go_num,?_,?_,?_⟩
          ·rw [e1,List.length_append,HLX.out];rfl
          ·rw [e1,List.length_append,HLX.out,show ivs (xs ++ [p]) = ivs xs ++ [.int .i64 p] by simp];exact H9.out.1
          ·exact (HOW.out.2.alloc hsz (.cells #[.int .i64 p] 3)).grown H9.out.2 (by rw [World.size_alloc];omega) (fun g e => (HOW.out.1.lt g e).1)
         case measure => simp [intOf];omega
        ·have hcd : (bits BinOp.and IntKind.i64 ((m : Int) / 2 ^ (n - 1 - q)) 1 == 1) = false := by
          rw [hbit,hand];simp;omega
         have HD : Hid (¬ (D % 2 == 1) = true) := by show ¬ _;simp [hd]
         clear hd hand hbit
         gi_wp2_with fail
         go_roundw
         case rel =>
          have e1 : pickq P n m (q + 1) = xs := by rw [HST.out,if_neg HD.out,List.append_nil]
          exact ⟨q + 1,A',c',by omega,by go_num,by rw [e1,HLX.out],by rw [e1,HLX.out];exact HOW.out.1,HOW.out.2⟩
         case measure => simp [intOf];omega
       ·obtain rfl : q = n := by omega
        have hjb : J (subL P q sz (m + 1) ++ subF P q k (sz + 1)) wr := HJ.out _ wo wr none HJ3.out (grown_of_below hbx) (fun r e => by cases e)
        unfold subL at hjb
        rw [if_pos HZ.out] at hjb
        have hrd := Rd.of_own how
        have hcap : (pickq P q m q).length ≤ c' ∧ c' ≤ maxLen := by
         rcases how.2 with ⟨e1,e2⟩ | ⟨g,cap,cur,e1,_,_,h3,h4,_⟩
         ·injection e1 with _ _ e1;rw [e1,e2];exact ⟨Nat.le_refl _,Nat.zero_le _⟩
         ·injection e1 with _ _ e1;subst e1;exact ⟨h3,h4⟩
        obtain ⟨fn,tmps,assign,body,hy,hRR⟩ := HY.out _ #[.slice A' (pickq P q m q).length c'] _ wr hjb ⟨_,rfl,A',c',rfl,hrd,hcap.1,hcap.2⟩
        have HRR := Lib.hid hRR
        clear hRR hjb hrd hcap how hbx
        gi_wp2_with fail
        refine HRR.out.mono ?_
        rintro x W3 (⟨rfl,hJ3⟩ | ⟨rfl,hJ3⟩)
        ·have HJ4 := Lib.hid hJ3
         clear hJ3 hy
         gi_wp2_with fail
         go_roundw
         case rel => exact ⟨m,by omega,by go_num,HJ4.out⟩
         case measure => simp [intOf]
        ·have HJ4 := Lib.hid hJ3
         clear hJ3 hy
         gi_wp2_with fail
         simp only [Exit.noGoto]
         refine bodyPost_end (results_none' rfl _ _ _ rfl) rfl ?_
         exact ⟨⟨_,rfl⟩,.inr ⟨_,HJ4.out⟩⟩
     ·have e1 : ((Z : Int) != (sz : Int)) = true := by simp;omega
      have HZ : Hid (pop6 m ≠ sz) := by show pop6 m ≠ sz;rw [hZ];exact hz
      clear hj hone hZ hz hcc r1 c0
      gi_wp2_with (refine ⟨trivial,?_⟩;gi_at_call 65;refine (callsIn_wide.2 (HON.out _)).mono ?_;rintro e w8 ⟨rfl,rfl⟩)
      go_roundw
      case rel =>
       refine ⟨m,by omega,by go_num,?_⟩
       have := HJ3.out
       unfold subL at this
       rwa [if_neg HZ.out] at this
      case measure => simp [intOf]
end Go.Proofs.YtjcpjhlclpdpjaaGreat
namespace Go.Proofs.YtjcpjhlclpdpjaaGreat
open Go.RowKit
theorem pop_len : ∀ n : Fin 7,∀ m : Fin 64,m.val < 2 ^ n.val → ((List.range n.val).filter fun i => m.val / 2 ^ (n.val - 1 - i) % 2 == 1).length = pop6 m.val := by decide
theorem take_num : ∀ n : Fin 7,∀ k : Fin 7,k.val ≤ n.val → ((List.range n.val).filter fun i => (2 ^ n.val - 2 ^ (n.val - k.val)) / 2 ^ (n.val - 1 - i) % 2 == 1) = List.range k.val ∧ 2 ^ n.val - 2 ^ (n.val - k.val) < 2 ^ n.val := by decide
theorem pow_leU {n : Nat} (hn : n ≤ 6) : 2 ^ n ≤ 64 := Nat.le_trans (Nat.pow_le_pow_right (by omega) hn) (by decide)
theorem pick_len {P : List Int} {n m : Nat} (hn : n ≤ 6) (hm : m < 2 ^ n) : (pick P n m).length = pop6 m := by
 unfold pick pickq
 rw [List.length_map]
 exact pop_len ⟨n,by omega⟩ ⟨m,by have := pow_leU hn;omega⟩ hm
theorem subL_len {P : List Int} {n sz : Nat} (hn : n ≤ 6) : ∀ {m : Nat},m ≤ 2 ^ n → ∀ e ∈ subL P n sz m,e.length = sz
 | 0,_,e,he => by cases he
 | m + 1,hm,e,he => by
  unfold subL at he
  by_cases h : pop6 m = sz
  ·rw [if_pos h] at he
   rcases List.mem_cons.1 he with rfl | he
   ·rw [pick_len hn (by omega),h]
   ·exact subL_len hn (by omega) e he
  ·rw [if_neg h] at he
   exact subL_len hn (by omega) e he
theorem subL_mem {P : List Int} {n sz m : Nat} (h : pop6 m = sz) : ∀ {M : Nat},m < M → pick P n m ∈ subL P n sz M
 | 0,hm => by omega
 | M + 1,hm => by
  unfold subL
  by_cases e : m = M
  ·subst e;rw [if_pos h];exact List.mem_cons_self
  ·have := subL_mem (P := P) (n := n) h (M := M) (by omega)
   by_cases h2 : pop6 M = sz
   ·rw [if_pos h2];exact List.mem_cons_of_mem _ this
   ·rw [if_neg h2];exact this
theorem subL_pick {P : List Int} {n sz : Nat} : ∀ {M : Nat} {e : List Int},e ∈ subL P n sz M → ∃ m,m < M ∧ e = pick P n m
 | 0,e,h => by cases h
 | M + 1,e,h => by
  unfold subL at h
  by_cases h2 : pop6 M = sz
  ·rw [if_pos h2] at h
   rcases List.mem_cons.1 h with rfl | h
   ·exact ⟨M,by omega,rfl⟩
   ·obtain ⟨m,h3,h4⟩ := subL_pick h;exact ⟨m,by omega,h4⟩
  ·rw [if_neg h2] at h
   obtain ⟨m,h3,h4⟩ := subL_pick h;exact ⟨m,by omega,h4⟩
theorem subF_len {P : List Int} {n : Nat} (hn : n ≤ 6) : ∀ {k sz : Nat},∀ e ∈ subF P n k sz,sz ≤ e.length
 | 0,sz,e,he => by cases he
 | k + 1,sz,e,he => by
  unfold subF at he
  rcases List.mem_append.1 he with h | h
  ·rw [subL_len hn (Nat.le_refl _) e h];exact Nat.le_refl _
  ·have := subF_len hn e h;omega
theorem subF_asc {P : List Int} {n : Nat} (hn : n ≤ 6) : ∀ {k sz : Nat},(subF P n k sz).Pairwise fun a b => a.length ≤ b.length
 | 0,sz => List.Pairwise.nil
 | k + 1,sz => by
  unfold subF
  refine List.pairwise_append.2 ⟨?_,subF_asc hn,fun a ha b hb => ?_⟩
  ·exact List.pairwise_of_forall_mem_list fun a ha b hb => by rw [subL_len hn (Nat.le_refl _) a ha,subL_len hn (Nat.le_refl _) b hb];exact Nat.le_refl _
  ·rw [subL_len hn (Nat.le_refl _) a ha];have := subF_len hn b hb;omega
theorem subF_mem {P : List Int} {n m : Nat} (hm : m < 2 ^ n) : ∀ {k sz : Nat},sz ≤ pop6 m → pop6 m < sz + k → pick P n m ∈ subF P n k sz
 | 0,sz,h1,h2 => by omega
 | k + 1,sz,h1,h2 => by
  unfold subF
  by_cases e : pop6 m = sz
  ·exact List.mem_append_left _ (subL_mem e hm)
  ·exact List.mem_append_right _ (subF_mem hm (by omega) (by omega))
theorem subF_pick {P : List Int} {n : Nat} : ∀ {k sz : Nat} {e : List Int},e ∈ subF P n k sz → ∃ m,m < 2 ^ n ∧ e = pick P n m
 | 0,sz,e,h => by cases h
 | k + 1,sz,e,h => by
  unfold subF at h
  rcases List.mem_append.1 h with h | h
  ·exact subL_pick h
  ·exact subF_pick h
theorem subs_asc {P : List Int} (hn : P.length ≤ 6) : (subs P).Pairwise fun a b => a.length ≤ b.length := subF_asc hn
theorem getD_range {P : List Int} : ∀ {k : Nat},k ≤ P.length → ((List.range k).map fun i => P.getD i 0) = P.take k := fun {k} hk => by
 refine List.ext_getElem (by simp;omega) fun i h1 h2 => ?_
 simp only [List.length_map,List.length_range] at h1
 rw [List.getElem_map,List.getElem_range,List.getElem_take,List.getD_eq_getElem?_getD,List.getElem?_eq_getElem (by omega)]
 rfl
theorem subs_take {P : List Int} (hn : P.length ≤ 6) {k : Nat} (hk : k ≤ P.length) : P.take k ∈ subs P := by
 obtain ⟨h1,h2⟩ := take_num ⟨P.length,by omega⟩ ⟨k,by omega⟩ hk
 have e : pick P P.length (2 ^ P.length - 2 ^ (P.length - k)) = P.take k := by
  unfold pick pickq
  have h1 : ((List.range P.length).filter fun i => (2 ^ P.length - 2 ^ (P.length - k)) / 2 ^ (P.length - 1 - i) % 2 == 1) = List.range k := h1
  rw [h1]
  exact getD_range hk
 rw [← e]
 have hl := pick_len (P := P) hn h2
 refine subF_mem h2 (Nat.zero_le _) ?_
 rw [← hl]
 have : (pick P P.length (2 ^ P.length - 2 ^ (P.length - k))).length = k := by rw [e,List.length_take];omega
 show (pick P P.length (2 ^ P.length - 2 ^ (P.length - k))).length < _
 rw [this];omega
theorem subs_sub {P e : List Int} (he : e ∈ subs P) : e.Sublist P := by
 obtain ⟨m,_,rfl⟩ := subF_pick he
 unfold pick pickq
 have h1 : ((List.range P.length).map fun i => P.getD i 0) = P := by rw [getD_range (Nat.le_refl _),List.take_length]
 exact (List.filter_sublist.map _).trans (by rw [h1];exact List.Sublist.refl _)
theorem Ppl.sub {P e : List Int} (h : Ppl P) (hs : e.Sublist P) : Ppl e := ⟨h.inc.sublist hs,fun p hp => h.lo p (hs.subset hp),fun p hp => h.hi p (hs.subset hp)⟩
theorem find_min {E : List (List Int)} {c : List Int → Bool} {e : List Int} (ha : E.Pairwise fun a b => a.length ≤ b.length) (h : E.find? c = some e) : c e = true ∧ e ∈ E ∧ ∀ x ∈ E,c x = true → e.length ≤ x.length := by
 induction E with
 | nil => cases h
 | cons a t ih =>
  have hp := List.pairwise_cons.1 ha
  rw [List.find?_cons] at h
  cases hc : c a with
  | true =>
   rw [hc] at h
   cases h
   refine ⟨hc,List.mem_cons_self,fun x hx _ => ?_⟩
   rcases List.mem_cons.1 hx with rfl | hx
   ·exact Nat.le_refl _
   ·exact hp.1 x hx
  | false =>
   rw [hc] at h
   obtain ⟨h1,h2,h3⟩ := ih hp.2 h
   refine ⟨h1,List.mem_cons_of_mem _ h2,fun x hx hcx => ?_⟩
   rcases List.mem_cons.1 hx with rfl | hx
   ·rw [hc] at hcx;cases hcx
   ·exact h3 x hx hcx
end Go.Proofs.YtjcpjhlclpdpjaaGreat
namespace Go.Proofs.YtjcpjhlclpdpjaaGreat
open Go.RowKit
attribute [local go_sem] Oper.semAt_some
theorem results_tmp_2 {P : Program} {fn : Func} {t u : Tmp} (h : fn.results = #[.tmp t,.tmp u]) (tmps : Array Value) (w : World) : (results fn tmps).run P w = .ok (.tuple #[tmps.getD t undef,tmps.getD u undef]) w := by simp [results,h]
theorem results_tmp_3 {P : Program} {fn : Func} {t u v : Tmp} (h : fn.results = #[.tmp t,.tmp u,.tmp v]) (tmps : Array Value) (w : World) : (results fn tmps).run P w = .ok (.tuple #[tmps.getD t undef,tmps.getD u undef,tmps.getD v undef]) w := by simp [results,h]
theorem nanA_any (x : Int) (w : World) : Calls Tryz.prog 89 #[.int .i64 x] w fun r w' => r = .returned (.bool false) ∧ w = w' := by
 have h : (x != x) = false := by simp
 go_enter Tryz.func89,Tryz.ntmps89
 go_wp2
 go_ret
 exact ⟨rfl,rfl⟩
theorem nanB_any (x : Int) (w : World) : Calls Tryz.prog 116 #[.int .i64 x] w fun r w' => r = .returned (.bool false) ∧ w = w' := by
 have h : (x != x) = false := by simp
 go_enter Tryz.func116,Tryz.ntmps116
 go_wp2
 go_ret
 exact ⟨rfl,rfl⟩
theorem less_any (x y : Int) (w : World) : Calls Tryz.prog 115 #[.int .i64 x,.int .i64 y] w fun r w' => r = .returned (.bool (decide (x < y))) ∧ w = w' := by
 go_enter Tryz.func115,Tryz.ntmps115
 go_wp2_with (go_at_call 89;refine (nanA_any _ _).mono ?_;rintro e w1 ⟨rfl,rfl⟩)
 go_ret
 exact ⟨rfl,rfl⟩
theorem bsearchp_any (A : Option Addr) (n c B : Nat) (L : List Int) (x : Int) (w : World) (h : Rd w B 1 A n (ivs L)) (hn : n ≤ 4096) (hs : L.Pairwise (· < ·)) :
  Calls Tryz.prog 103 #[.slice A n c,.int .i64 x] w fun r w' => (∃ i,r = .returned (.tuple #[.int .i64 i,.bool (decide (x ∈ L))])) ∧ w = w' := by
 have hll : L.length = n := by have := h.1;simpa using this
 have HA : Hid (∀ k,k < n → ∃ b o,A = some ⟨b,o,none⟩ ∧ w.cell? ⟨b,o + k,none⟩ = some (.int .i64 (L.getD k 0))) := fun k hk => by
  obtain ⟨_,b,o,e1,_,hc⟩ := i64at h hk
  exact ⟨b,o,e1,hc k hk w (Below.refl _ _)⟩
 have HO : Hid (∀ i j,i < j → j < n → L.getD i 0 < L.getD j 0) := fun i j hij hj => by
  rw [List.getD_eq_getElem?_getD,List.getElem?_eq_getElem (by omega),List.getD_eq_getElem?_getD,List.getElem?_eq_getElem (by omega)]
  exact List.pairwise_iff_getElem.1 hs i j (by omega) (by omega) hij
 have HM : Hid (∀ k,k < n → L.getD k 0 ∈ L) := fun k hk => by
  rw [List.getD_eq_getElem?_getD,List.getElem?_eq_getElem (by omega)]
  exact List.getElem_mem _
 have HI : Hid (x ∈ L → ∃ k,k < n ∧ L.getD k 0 = x) := fun hx => by
  obtain ⟨k,hk,e⟩ := List.mem_iff_getElem.1 hx
  exact ⟨k,by omega,by rw [List.getD_eq_getElem?_getD,List.getElem?_eq_getElem hk];exact e⟩
 clear h hs hll
 go_enter Tryz.func103,Tryz.ntmps103
 go_wp2
 go_loopw [7,8] (fun i j wr => w = wr ∧ ∃ a b : Nat,a ≤ b ∧ b ≤ n ∧ i = .int .i64 a ∧ j = .int .i64 b ∧ (∀ k,k < a → L.getD k 0 < x) ∧ ∀ k,b ≤ k → k < n → x ≤ L.getD k 0) (fun i j _ => (intOf j).toNat - (intOf i).toNat)
 case atStart => exact ⟨rfl,0,n,Nat.zero_le _,Nat.le_refl _,rfl,rfl,fun k hk => absurd hk (by omega),fun k h1 h2 => absurd h1 (by omega)⟩
 case round =>
  obtain ⟨rfl,a,b,hab,hbn,rfl,rfl,hlo,hhi⟩ := hrel
  have HLO := Lib.hid hlo
  have HHI := Lib.hid hhi
  clear hlo hhi
  by_cases hlt : a < b
  ·have k1 : (a : Int) < (b : Int) := by omega
   obtain ⟨m,hm⟩ : ∃ m,(a + b) / 2 = m := ⟨_,rfl⟩
   have hm1 : a ≤ m := by omega
   have hm2 : m < b := by omega
   have k0 : (0 : Int) ≤ (m : Int) := by omega
   have k2 : (m : Int) < (n : Int) := by omega
   obtain ⟨bb,o,hA1,hc⟩ := HA.out m (by omega)
   subst hA1
   have hX : ∃ X,L.getD m 0 = X := ⟨_,rfl⟩
   obtain ⟨X,hX⟩ := hX
   rw [hX] at hc
   have HX := Lib.hid hX
   clear hX
   by_cases hl : X < x
   ·have HLE : Hid (∀ W,Calls Tryz.prog 115 #[.int .i64 X,.int .i64 x] W fun r w' => r = .returned (.bool true) ∧ W = w') := fun W => by have := less_any X x W;rwa [decide_eq_true hl] at this
    have HL := Lib.hid hl
    clear hl
    go_wp2_with (go_at_call 115;refine (HLE.out _).mono ?_;rintro e w1 ⟨rfl,rfl⟩)
    go_roundw
    case rel =>
     refine ⟨trivial,m + 1,b,by omega,hbn,congrArg (Value.int .i64) (by omega),rfl,fun k hk => ?_,HHI.out⟩
     rcases Nat.lt_or_ge k m with h1 | h1
     ·have := HO.out k m h1 (by omega);rw [HX.out] at this;have := HL.out;omega
     ·rw [show k = m by omega,HX.out];exact HL.out
    case measure => simp [intOf];omega
   ·have HLE : Hid (∀ W,Calls Tryz.prog 115 #[.int .i64 X,.int .i64 x] W fun r w' => r = .returned (.bool false) ∧ W = w') := fun W => by have := less_any X x W;rwa [decide_eq_false hl] at this
    have HL : Hid (x ≤ X) := by show x ≤ X;omega
    clear hl
    go_wp2_with (go_at_call 115;refine (HLE.out _).mono ?_;rintro e w1 ⟨rfl,rfl⟩)
    go_roundw
    case rel =>
     refine ⟨trivial,a,m,by omega,by omega,rfl,congrArg (Value.int .i64) (by omega),HLO.out,fun k hk1 hk2 => ?_⟩
     rcases Nat.lt_or_ge m k with h1 | h1
     ·have := HO.out m k h1 hk2;rw [HX.out] at this;have := HL.out;omega
     ·rw [show k = m by omega,HX.out];exact HL.out
    case measure => simp [intOf];omega
  ·obtain rfl : a = b := by omega
   by_cases han : a < n
   ·have k1 : (a : Int) < (n : Int) := by omega
    have k0 : (0 : Int) ≤ (a : Int) := by omega
    obtain ⟨bb,o,hA1,hc⟩ := HA.out a han
    subst hA1
    obtain ⟨X,hX⟩ : ∃ X,L.getD a 0 = X := ⟨_,rfl⟩
    rw [hX] at hc
    have HX := Lib.hid hX
    have HMX := HM.out a han
    rw [hX] at HMX
    by_cases hxe : X = x
    ·have e1 : (X == x) = true := by simp [hxe]
     have HE : Hid (x ∈ L) := hxe ▸ HMX
     clear hX hxe HMX
     go_wp2_with (go_at_call 116;refine (nanB_any _ _).mono ?_;rintro e w1 ⟨rfl,rfl⟩)
     refine bodyPost_ret (results_tmp_2 rfl _ _) rfl ?_
     exact ⟨⟨_,by rw [decide_eq_true HE.out];rfl⟩,rfl⟩
    ·have e1 : (X == x) = false := by simp [hxe]
     have HE : Hid (¬ x ∈ L) := fun hx => by
      obtain ⟨k,hk,e⟩ := HI.out hx
      rcases Nat.lt_trichotomy k a with h1 | h1 | h1
      ·have := HLO.out k h1;omega
      ·rw [h1,hX] at e;exact hxe e
      ·have h2 := HO.out a k h1 hk;have h3 := HHI.out a (Nat.le_refl _) han;omega
     clear hX hxe HMX
     go_wp2_with (go_at_call 116;refine (nanB_any _ _).mono ?_;rintro e w1 ⟨rfl,rfl⟩)
     refine bodyPost_ret (results_tmp_2 rfl _ _) rfl ?_
     exact ⟨⟨_,by rw [decide_eq_false HE.out];rfl⟩,rfl⟩
   ·have HE : Hid (¬ x ∈ L) := fun hx => by
     obtain ⟨k,hk,e⟩ := HI.out hx
     have := HLO.out k (by omega);omega
    have kk : ¬ ((a : Int) < (n : Int)) := by omega
    go_wp2_with fail
    refine bodyPost_ret (results_tmp_2 rfl _ _) rfl ?_
    exact ⟨⟨_,by rw [decide_eq_false HE.out];rfl⟩,rfl⟩
theorem within_any (x a b : Int) (w : World) (h0 : a ≤ x) (h1 : x ≤ b) : Calls Tryz.prog 100 #[.int .i64 x,.int .i64 a,.int .i64 b] w fun r w' => r = .returned (.bool true) ∧ w = w' := by
 go_enter Tryz.func100,Tryz.ntmps100
 go_wp2
 go_ret
 exact ⟨rfl,rfl⟩
theorem isPerson_any (x : Int) (w : World) (h0 : 0 ≤ x) (h1 : x < 64) : Calls Tryz.prog 72 #[.int .i64 x] w fun r w' => r = .returned (.bool true) ∧ w = w' := by
 have hW : ∀ W,Calls Tryz.prog 100 #[.int .i64 x,.int .i64 0,.int .i64 63] W fun r w' => r = .returned (.bool true) ∧ W = w' := fun W => within_any x 0 63 W h0 (by omega)
 have HW := Lib.hid hW
 clear hW
 go_enter Tryz.func72,Tryz.ntmps72
 go_wp2_with (go_at_call 100;refine (HW.out _).mono ?_;rintro e w1 ⟨rfl,rfl⟩)
 go_ret
 exact ⟨rfl,rfl⟩
theorem pcheck2_any (x : Int) (w : World) (h0 : 0 ≤ x) (h1 : x < 1073741789) : Calls Tryz.prog 99 #[.int .i64 x] w fun r w' => r = .returned (.bool false) ∧ w = w' := by
 have hW : ∀ W,Calls Tryz.prog 100 #[.int .i64 x,.int .i64 0,.int .i64 1073741788] W fun r w' => r = .returned (.bool true) ∧ W = w' := fun W => within_any x 0 1073741788 W h0 (by omega)
 have HW := Lib.hid hW
 clear hW
 go_enter Tryz.func99,Tryz.ntmps99
 go_wp2_with (go_at_call 100;refine (HW.out _).mono ?_;rintro e w1 ⟨rfl,rfl⟩)
 go_ret
 exact ⟨rfl,rfl⟩
theorem pcheck1_any (A : Option Addr) (n c : Nat) (w : World) (h1 : n ≤ 64) : Calls Tryz.prog 97 #[.slice A n c] w fun r w' => r = .returned (.bool false) ∧ w = w' := by
 have k : ¬ (64 < (n : Int)) := by omega
 go_enter Tryz.func97,Tryz.ntmps97
 go_wp2
 go_ret
 exact ⟨rfl,rfl⟩
theorem prI_any  (A : Option Addr) (n c : Nat) (hn : n ≤ 4096) (pA : Nat → Option Addr) (pn : Nat → Nat) (pc : Nat → Nat) (I : Nat → World → Prop) (w : World) (h0 : I 0 w)
  (hA : 0 < n → ∃ b o,A = some ⟨b,o,none⟩ ∧ ∀ k,k < n → ∀ W,I k W → W.cell? ⟨b,o + k,none⟩ = some (.slice (pA k) (pn k) (pc k)))
  (hcall : ∀ k,k < n → ∀ W,I k W → Calls Tryz.prog 97 #[.slice (pA k) (pn k) (pc k)] W fun r w' => r = .returned (.bool false) ∧ I (k + 1) w') :
  Calls Tryz.prog 114 #[.slice A n c,(.func (.func 97) #[] #[])] w fun r w' => r = .returned (.int .i64 (-1)) ∧ I n w' := by
 have HA := Lib.hid hA
 have HC := Lib.hid hcall
 have H0 := Lib.hid h0
 clear hA hcall h0
 go_enter Tryz.func114,Tryz.ntmps114
 go_wp2
 go_loopw [8] (fun i wr => ∃ k : Nat,k ≤ n ∧ i = .int .i64 k ∧ I k wr) (fun i _ => n - (intOf i).toNat)
 case atStart => exact ⟨0,Nat.zero_le _,rfl,H0.out⟩
 case round =>
  clear H0
  obtain ⟨k,hk,rfl,hi⟩ := hrel
  have HI := Lib.hid hi
  clear hi
  by_cases hlt : k < n
  ·have k1 : (k : Int) < (n : Int) := by omega
   have k0 : (0 : Int) ≤ (k : Int) := by omega
   obtain ⟨b,o,hA1,hcc⟩ := HA.out (by omega)
   subst hA1
   have hcc := hcc k hlt wr HI.out
   have hC := HC.out k hlt wr HI.out
   obtain ⟨P0,hP0⟩ : ∃ P,pA k = P := ⟨_,rfl⟩
   rw [hP0] at hC hcc
   obtain ⟨P1,hP1⟩ : ∃ P,pn k = P := ⟨_,rfl⟩
   rw [hP1] at hC hcc
   obtain ⟨P2,hP2⟩ : ∃ P,pc k = P := ⟨_,rfl⟩
   rw [hP2] at hC hcc
   have HC2 := Lib.hid hC
   clear hC hP0 hP1 hP2 HA HC
   obtain x0 := hcc
   go_wp2_with fail
   refine HC2.out.mono ?_
   rintro x w1 ⟨rfl,hi1⟩
   have HI1 := Lib.hid hi1
   clear hi1
   go_wp2
   go_roundw
   case rel => exact ⟨k + 1,by omega,by go_num,HI1.out⟩
   case measure => simp [intOf];omega
  ·obtain rfl : k = n := by omega
   go_wp2
   go_ret
   exact ⟨rfl,HI.out⟩
theorem prC_any  (A : Option Addr) (n c : Nat) (hn : n ≤ 4096) (pA : Nat → Option Addr) (pn : Nat → Nat) (pc : Nat → Nat) (I : Nat → World → Prop) (w : World) (h0 : I 0 w)
  (hA : 0 < n → ∃ b o,A = some ⟨b,o,none⟩ ∧ ∀ k,k < n → ∀ W,I k W → W.cell? ⟨b,o + k,none⟩ = some (.slice (pA k) (pn k) (pc k)))
  (hcall : ∀ k,k < n → ∀ W,I k W → Calls Tryz.prog 97 #[.slice (pA k) (pn k) (pc k)] W fun r w' => r = .returned (.bool false) ∧ I (k + 1) w') :
  Calls Tryz.prog 98 #[.slice A n c,(.func (.func 97) #[] #[])] w fun r w' => r = .returned (.bool false) ∧ I n w' := by
 have HI := Lib.hid (prI_any  A n c hn pA pn pc I w h0 hA hcall)
 clear hA hcall h0
 go_enter Tryz.func98,Tryz.ntmps98
 go_wp2_with fail
 refine HI.out.mono ?_
 rintro x w1 ⟨rfl,hi⟩
 have HI1 := Lib.hid hi
 clear hi
 go_wp2
 go_ret
 exact ⟨rfl,HI1.out⟩
theorem poI_any  (A : Option Addr) (n c : Nat) (hn : n ≤ 4096) (p : Nat → Int) (I : Nat → World → Prop) (w : World) (h0 : I 0 w)
  (hA : 0 < n → ∃ b o,A = some ⟨b,o,none⟩ ∧ ∀ k,k < n → ∀ W,I k W → W.cell? ⟨b,o + k,none⟩ = some (.int .i64 (p k)))
  (hcall : ∀ k,k < n → ∀ W,I k W → Calls Tryz.prog 99 #[.int .i64 (p k)] W fun r w' => r = .returned (.bool false) ∧ I (k + 1) w') :
  Calls Tryz.prog 112 #[.slice A n c,(.func (.func 99) #[] #[])] w fun r w' => r = .returned (.int .i64 (-1)) ∧ I n w' := by
 have HA := Lib.hid hA
 have HC := Lib.hid hcall
 have H0 := Lib.hid h0
 clear hA hcall h0
 go_enter Tryz.func112,Tryz.ntmps112
 go_wp2
 go_loopw [8] (fun i wr => ∃ k : Nat,k ≤ n ∧ i = .int .i64 k ∧ I k wr) (fun i _ => n - (intOf i).toNat)
 case atStart => exact ⟨0,Nat.zero_le _,rfl,H0.out⟩
 case round =>
  clear H0
  obtain ⟨k,hk,rfl,hi⟩ := hrel
  have HI := Lib.hid hi
  clear hi
  by_cases hlt : k < n
  ·have k1 : (k : Int) < (n : Int) := by omega
   have k0 : (0 : Int) ≤ (k : Int) := by omega
   obtain ⟨b,o,hA1,hcc⟩ := HA.out (by omega)
   subst hA1
   have hcc := hcc k hlt wr HI.out
   have hC := HC.out k hlt wr HI.out
   obtain ⟨P0,hP0⟩ : ∃ P,p k = P := ⟨_,rfl⟩
   rw [hP0] at hC hcc
   have HC2 := Lib.hid hC
   clear hC hP0 HA HC
   obtain x0 := hcc
   go_wp2_with fail
   refine HC2.out.mono ?_
   rintro x w1 ⟨rfl,hi1⟩
   have HI1 := Lib.hid hi1
   clear hi1
   go_wp2
   go_roundw
   case rel => exact ⟨k + 1,by omega,by go_num,HI1.out⟩
   case measure => simp [intOf];omega
  ·obtain rfl : k = n := by omega
   go_wp2
   go_ret
   exact ⟨rfl,HI.out⟩
theorem poC_any  (A : Option Addr) (n c : Nat) (hn : n ≤ 4096) (p : Nat → Int) (I : Nat → World → Prop) (w : World) (h0 : I 0 w)
  (hA : 0 < n → ∃ b o,A = some ⟨b,o,none⟩ ∧ ∀ k,k < n → ∀ W,I k W → W.cell? ⟨b,o + k,none⟩ = some (.int .i64 (p k)))
  (hcall : ∀ k,k < n → ∀ W,I k W → Calls Tryz.prog 99 #[.int .i64 (p k)] W fun r w' => r = .returned (.bool false) ∧ I (k + 1) w') :
  Calls Tryz.prog 101 #[.slice A n c,(.func (.func 99) #[] #[])] w fun r w' => r = .returned (.bool false) ∧ I n w' := by
 have HI := Lib.hid (poI_any  A n c hn p I w h0 hA hcall)
 clear hA hcall h0
 go_enter Tryz.func101,Tryz.ntmps101
 go_wp2_with fail
 refine HI.out.mono ?_
 rintro x w1 ⟨rfl,hi⟩
 have HI1 := Lib.hid hi
 clear hi
 go_wp2
 go_ret
 exact ⟨rfl,HI1.out⟩
end Go.Proofs.YtjcpjhlclpdpjaaGreat
