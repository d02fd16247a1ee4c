import Derived.Scope
import Derived.WalkMore
import Derived.Test.YtifejdpffkeniaaGreatDoorS09
import Derived.Test.YtifejdpffkeniaaGreatDoorS01
import Derived.Test.YtifejdpffkeniaaGreatDoorS05
import Derived.Test.YtifejdpffkeniaaGreatDoorS03
set_option linter.unusedVariables false
set_option maxRecDepth 100000
set_option maxHeartbeats 40000000
namespace Go.Proofs.YtifejdpffkeniaaGreatDoor
open Go.RowKit
attribute [local go_sem] Oper.semAt_some
theorem results_row {P : Program} {fn : Func} {p : Tmp} {ty : TypeId} (h : fn.results = #[.cell p ty]) (tmps : Array Value) (w : World) (g : Nat) (t : TypeId) (cs : Array Value) (fr : Nat × Nat) (d : TypeDesc)
  (hp : tmps.getD p undef = .pointer (some ⟨g,0,none⟩)) (hg : w.heap[g]? = some (.cells cs t fr))
  (hu : P.underlying ty = some d) (hd : (match d with | .struct _ | .array _ _ => true | _ => false) = true) (hi : (P.info? ty).map (·.size) = some cs.size) :
  (results fn tmps).run P w = .ok (.agg cs) w := by
 have hp' : tmps[p]?.getD undef = .pointer (some ⟨g,0,none⟩) := by simpa using hp
 simp [results,h,hp',asAddr,run_loadVar_row w g t ty cs fr d hg hu hd hi]
theorem results_rt {P : Program} {fn : Func} {p q : Tmp} {ty : TypeId} (h : fn.results = #[.cell p ty,.tmp q]) (tmps : Array Value) (w : World) (g : Nat) (t : TypeId) (cs : Array Value) (fr : Nat × Nat) (d : TypeDesc)
  (hp : tmps.getD p undef = .pointer (some ⟨g,0,none⟩)) (hg : w.heap[g]? = some (.cells cs t fr))
  (hu : P.underlying ty = some d) (hd : (match d with | .struct _ | .array _ _ => true | _ => false) = true) (hi : (P.info? ty).map (·.size) = some cs.size) :
  (results fn tmps).run P w = .ok (.tuple #[.agg cs,tmps.getD q undef]) w := by
 have hp' : tmps[p]?.getD undef = .pointer (some ⟨g,0,none⟩) := by simpa using hp
 simp [results,h,hp',asAddr,run_loadVar_row w g t ty cs fr d hg hu hd hi]
theorem results_rtc {P : Program} {fn : Func} {p q r : Tmp} {ty tz : TypeId} (h : fn.results = #[.cell p ty,.tmp q,.cell r tz]) (tmps : Array Value) (w : World) (g g2 : Nat) (v : Value) (t : TypeId) (cs : Array Value) (fr : Nat × Nat) (d : TypeDesc)
  (hp : tmps.getD p undef = .pointer (some ⟨g,0,none⟩)) (hg : w.heap[g]? = some (.cells cs t fr))
  (hu : P.underlying ty = some d) (hd : (match d with | .struct _ | .array _ _ => true | _ => false) = true) (hi : (P.info? ty).map (·.size) = some cs.size)
  (hr : tmps.getD r undef = .pointer (some ⟨g2,0,none⟩)) (hc : w.cell? ⟨g2,0,none⟩ = some v) (ha : (isAgg tz).run P w = .ok false w) :
  (results fn tmps).run P w = .ok (.tuple #[.agg cs,tmps.getD q undef,v]) w := by
 have hp' : tmps[p]?.getD undef = .pointer (some ⟨g,0,none⟩) := by simpa using hp
 have hr' : tmps[r]?.getD undef = .pointer (some ⟨g2,0,none⟩) := by simpa using hr
 have hz : (loadVar tz ⟨g2,0,none⟩).run P w = .ok v w := by simp [loadVar,ha,hc]
 simp [results,h,hp',hr',asAddr,run_loadVar_row w g t ty cs fr d hg hu hd hi,hz]
theorem results_rttc {P : Program} {fn : Func} {p q q2 r : Tmp} {ty tz : TypeId} (h : fn.results = #[.cell p ty,.tmp q,.tmp q2,.cell r tz]) (tmps : Array Value) (w : World) (g g2 : Nat) (v : Value) (t : TypeId) (cs : Array Value) (fr : Nat × Nat) (d : TypeDesc)
  (hp : tmps.getD p undef = .pointer (some ⟨g,0,none⟩)) (hg : w.heap[g]? = some (.cells cs t fr))
  (hu : P.underlying ty = some d) (hd : (match d with | .struct _ | .array _ _ => true | _ => false) = true) (hi : (P.info? ty).map (·.size) = some cs.size)
  (hr : tmps.getD r undef = .pointer (some ⟨g2,0,none⟩)) (hc : w.cell? ⟨g2,0,none⟩ = some v) (ha : (isAgg tz).run P w = .ok false w) :
  (results fn tmps).run P w = .ok (.tuple #[.agg cs,tmps.getD q undef,tmps.getD q2 undef,v]) w := by
 have hp' : tmps[p]?.getD undef = .pointer (some ⟨g,0,none⟩) := by simpa using hp
 have hr' : tmps[r]?.getD undef = .pointer (some ⟨g2,0,none⟩) := by simpa using hr
 have hz : (loadVar tz ⟨g2,0,none⟩).run P w = .ok v w := by simp [loadVar,ha,hc]
 simp [results,h,hp',hr',asAddr,run_loadVar_row w g t ty cs fr d hg hu hd hi,hz]
theorem hash_rng (K : Sh.Cst) (t bs : List Int) : -1073741789 < Sh.hash K t bs ∧ Sh.hash K t bs < 1073741789 := by
 unfold Sh.hash;generalize Sh.num _ _ = x
 rcases (show x < 0 ∨ 0 ≤ x by omega) with h | h
 ·obtain ⟨y,rfl⟩ : ∃ y,x = -y := ⟨-x,by omega⟩
  rw [Int.neg_tmod,Int.tmod_eq_emod_of_nonneg (by omega)];omega
 ·rw [Int.tmod_eq_emod_of_nonneg h]
  omega
def nzE (k sd no wh : Int) : List Int := encL ([Tv.int k,.int sd,.int no,.int wh].map leafE)
def nz (K : Sh.Cst) (k sd no wh : Int) : Int := max 1 (Sh.hash K [110,111,110,99,101] (nzE k sd no wh))
theorem nz_rng (K : Sh.Cst) (k sd no wh : Int) : 1 ≤ nz K k sd no wh ∧ nz K k sd no wh < 1073741789 := by
 have := hash_rng K [110,111,110,99,101] (nzE k sd no wh);unfold nz;omega
def ks4 (k sd no wh : Int) : List Tv := [.int k,.int sd,.int no,.int wh]
def nums4 (k sd no wh : Int) : List Int := [k,sd,no,wh]
theorem ks4_take (k sd no wh : Int) {j : Nat} (hj : j < 4) : (ks4 k sd no wh).take (j + 1) = (ks4 k sd no wh).take j ++ [.int ((nums4 k sd no wh).getD j 0)] := by
 match j,hj with
 | 0,_ => rfl
 | 1,_ => rfl
 | 2,_ => rfl
 | 3,_ => rfl
theorem ks4_len (k sd no wh : Int) {j : Nat} (hj : j ≤ 4) : ((ks4 k sd no wh).take j).length = j := by
 rw [List.length_take];show min j 4 = j;omega
theorem number1_any (K : Sh.Cst) (k sd no wh nx : Int) (A : Option Addr) (n c g sb sn : Nat) (w : World) (hk : 0 ≤ k ∧ k < 64) (hs : 0 ≤ sd ∧ sd ≤ 1099511627776) (hno : 0 ≤ no ∧ no ≤ 4096) (hwh : 0 ≤ wh ∧ wh ≤ 1) (hL : Laid w)
  (hb : Row w sb 96 [.pointer (some ⟨g,0,none⟩)]) (hg : Row w g 100 [.int .i64 k,.int .i64 sd,.int .i64 nx,.slice A n c]) (hn : Row w sn 3 [.int .i64 no]) :
  Calls Tryz.prog 101 #[.int .i64 wh,.pointer (some ⟨sb,0,none⟩),.pointer (some ⟨sn,0,none⟩)] w fun r w' => r = .returned (.int .i64 (nz K k sd no wh)) ∧ Below w.heap.size w w' := by
 obtain ⟨s,hsz⟩ : ∃ s,w.heap.size = s := ⟨_,rfl⟩
 have HENC : Hid (∀ (A : Option Addr) (c : Nat) (W : World),Rd W W.heap.size 4 A 4 (tvCells (ks4 k sd no wh)) → 4 ≤ c → Calls Tryz.prog 42 #[.agg #[.int .i64 3,.int .i64 0,.string ⟨#[]⟩,.slice A 4 c]] W (EncPT (nzE k sd no wh) W)) := fun A c W h1 h2 => encode_flat W A 4 c (ks4 k sd no wh) rfl (by decide) (by decide) h1 h2 (fun x hx => by
  have h : x = .int k ∨ x = .int sd ∨ x = .int no ∨ x = .int wh := by simpa [ks4] using hx
  rcases h with rfl | rfl | rfl | rfl
  ·show -9223372036854775808 ≤ k ∧ k < 9223372036854775808;omega
  ·show -9223372036854775808 ≤ sd ∧ sd < 9223372036854775808;omega
  ·show -9223372036854775808 ≤ no ∧ no < 9223372036854775808;omega
  ·show -9223372036854775808 ≤ wh ∧ wh < 9223372036854775808;omega)
 have HBY : Hid (Byts (nzE k sd no wh) ∧ (nzE k sd no wh).length ≤ 9000) := by
  refine ⟨byts_leafs _,?_⟩
  have h1 := leafs_len (es := ks4 k sd no wh) (fun x hx => by
   have h : x = .int k ∨ x = .int sd ∨ x = .int no ∨ x = .int wh := by simpa [ks4] using hx
   rcases h with rfl | rfl | rfl | rfl
   ·show -9223372036854775808 ≤ k ∧ k < 9223372036854775808;omega
   ·show -9223372036854775808 ≤ sd ∧ sd < 9223372036854775808;omega
   ·show -9223372036854775808 ≤ no ∧ no < 9223372036854775808;omega
   ·show -9223372036854775808 ≤ wh ∧ wh < 9223372036854775808;omega)
  have h2 := encL_len ((ks4 k sd no wh).map leafE) (by simp [ks4]);have h3 : (ks4 k sd no wh).length = 4 := rfl;show (encL ((ks4 k sd no wh).map leafE)).length ≤ 9000;omega
 have HHS : Hid (∀ (A : Option Addr) (c : Nat) (W : World),Laid W → Rd W W.heap.size 1 A (nzE k sd no wh).length ((nzE k sd no wh).map (Value.int .u8)) → (nzE k sd no wh).length ≤ c → c ≤ maxLen → Calls Tryz.prog 65 #[.string ⟨#[110,111,110,99,101]⟩,.slice A (nzE k sd no wh).length c] W fun e w' => e = .returned (.int .i64 (Sh.hash K [110,111,110,99,101] (nzE k sd no wh))) ∧ Below W.heap.size W w') := fun A c W h1 h2 h3 h4 =>
  ghash_any K ⟨#[110,111,110,99,101]⟩ A _ c (nzE k sd no wh) W (by decide) h2 HBY.out.1 (by have := HBY.out.2;omega) h3 h4 h1
 have HLD := Lib.hid hL;have HTK : Hid (∀ j,j < 4 → (ks4 k sd no wh).take (j + 1) = (ks4 k sd no wh).take j ++ [.int ((nums4 k sd no wh).getD j 0)]) := fun j hj => ks4_take k sd no wh hj;have HTL : Hid (∀ j,j ≤ 4 → ((ks4 k sd no wh).take j).length = j) := fun j hj => ks4_len k sd no wh hj
 have HNG : Hid (∀ j,(nums4 k sd no wh).getD j 0 = match j with | 0 => k | 1 => sd | 2 => no | 3 => wh | _ => 0) := fun j => by
  match j with
  | 0 => rfl
  | 1 => rfl
  | 2 => rfl
  | 3 => rfl
  | j + 4 => rfl
 obtain ⟨KS,hKS⟩ : ∃ KS,ks4 k sd no wh = KS := ⟨_,rfl⟩;obtain ⟨NS,hNS⟩ : ∃ NS,nums4 k sd no wh = NS := ⟨_,rfl⟩;obtain ⟨EB,hEB⟩ : ∃ EB,nzE k sd no wh = EB := ⟨_,rfl⟩;have HNZ : Hid (nz K k sd no wh = max 1 (Sh.hash K [110,111,110,99,101] EB)) := by rw [← hEB];rfl
 rw [hKS,hEB] at HENC;rw [hEB] at HBY HHS;rw [hKS,hNS] at HTK;rw [hKS] at HTL;rw [hNS] at HNG;obtain ⟨NZ,hNZ⟩ : ∃ z,nz K k sd no wh = z := ⟨_,rfl⟩;rw [hNZ] at HNZ ⊢;have HS := Lib.hid hsz;have q0 := hb.cell (i := 0) rfl;have q1 := hg.cell (i := 0) rfl;have q2 := hg.cell (i := 1) rfl;have q3 := hn.cell (i := 0) rfl;have l1 := hb.lt;have l2 := hg.lt;have l3 := hn.lt;have HKS := Lib.hid hKS;clear hb hg hn hL hKS hNS hEB hNZ;rw [hsz] at l1 l2 l3 ⊢;clear hsz;have HR0 : Hid (Row (w.alloc (.cells #[.int .i64 3,.int .i64 0,.string ⟨#[]⟩,.slice none 0 0] 107)) s 107 [.int .i64 3,.int .i64 0,.string ⟨#[]⟩,.slice none 0 0] ∧ Below s w (w.alloc (.cells #[.int .i64 3,.int .i64 0,.string ⟨#[]⟩,.slice none 0 0] 107))) := ⟨Row.fresh' _ _ _ HS.out,by rw [← HS.out];exact (Below.refl _ _).alloc (Nat.le_refl _) _⟩;go_enter Tryz.func101,Tryz.ntmps101;go_wp2;rw [HS.out];have e0 : (w.alloc (.cells #[.int .i64 3,.int .i64 0,.string ⟨#[]⟩,.slice none 0 0] 107)).cell? ⟨sb,0,none⟩ = some (.pointer (some ⟨g,0,none⟩)) := (HR0.out.2.cell (p := ⟨sb,0,none⟩) l1).trans q0;have e1 : (w.alloc (.cells #[.int .i64 3,.int .i64 0,.string ⟨#[]⟩,.slice none 0 0] 107)).cell? ⟨g,0,none⟩ = some (.int .i64 k) := (HR0.out.2.cell (p := ⟨g,0,none⟩) l2).trans q1;have e2 : (w.alloc (.cells #[.int .i64 3,.int .i64 0,.string ⟨#[]⟩,.slice none 0 0] 107)).cell? ⟨g,1,none⟩ = some (.int .i64 sd) := (HR0.out.2.cell (p := ⟨g,1,none⟩) l2).trans q2;have e3 : (w.alloc (.cells #[.int .i64 3,.int .i64 0,.string ⟨#[]⟩,.slice none 0 0] 107)).cell? ⟨sn,0,none⟩ = some (.int .i64 no) := (HR0.out.2.cell (p := ⟨sn,0,none⟩) l3).trans q3;have HL0 : Hid (Laid (w.alloc (.cells #[.int .i64 3,.int .i64 0,.string ⟨#[]⟩,.slice none 0 0] 107))) := HLD.out.below HR0.out.2 (by have := HLD.out.size;have := HS.out;omega);generalize (w.alloc (.cells #[.int .i64 3,.int .i64 0,.string ⟨#[]⟩,.slice none 0 0] 107)) = w0 at HR0 HL0 e0 e1 e2 e3 ⊢;clear q0 q1 q2 q3 l1 l2 l3
 go_still (by kernel_rfl)
 go_simp;have HLB : Hid (LB s (s + 1) [] none 0 w0.drew) := LB.start (HR0.out.1.below (Below.refl _ _).drew HR0.out.1.lt) (by omega) (by have := HR0.out.1.lt;show s + 1 ≤ w0.heap.size;omega);have HB0 : Hid (Below s w w0.drew) := HR0.out.2.drew;have HL1 : Hid (Laid w0.drew) := ⟨HL0.out.start,HL0.out.nums,HL0.out.size⟩;clear e0 e1 e2 e3 HR0 HL0;generalize w0.drew = w1 at HLB HB0 HL1 ⊢;rename_i Kz hKz;refine hKz _ _ ?_;clear hKz Kz;have hi0 : ∀ W : World,(Instr.index 179 (.agg #[.int .i64 k,.int .i64 sd,.int .i64 no,.int .i64 wh]) (.int .i64 0)).run Tryz.prog W = .ok (.int .i64 k) W := fun W => by kernel_rfl
 have hi1 : ∀ W : World,(Instr.index 179 (.agg #[.int .i64 k,.int .i64 sd,.int .i64 no,.int .i64 wh]) (.int .i64 1)).run Tryz.prog W = .ok (.int .i64 sd) W := fun W => by kernel_rfl
 have hi2 : ∀ W : World,(Instr.index 179 (.agg #[.int .i64 k,.int .i64 sd,.int .i64 no,.int .i64 wh]) (.int .i64 2)).run Tryz.prog W = .ok (.int .i64 no) W := fun W => by kernel_rfl
 have hi3 : ∀ W : World,(Instr.index 179 (.agg #[.int .i64 k,.int .i64 sd,.int .i64 no,.int .i64 wh]) (.int .i64 3)).run Tryz.prog W = .ok (.int .i64 wh) W := fun W => by kernel_rfl
 go_wp2;refine wp_loop_rounds 5 ?_;rw [rounds_succ];have a3 : w1.cell? ⟨s,3,none⟩ = some (.slice none 0 0) := HLB.out.row.cell (i := 3) rfl;have f3 := HLB.out.row.fz 3;have ow : w1.ownsRow (s + 1) 107 4 (.slice none 0 0) 0 (tvCells []) := HLB.out.own;have hszw := HLB.out.sz;have hltw := HLB.out.row.lt
 go_wp2_with (at_builtin;refine wpList_append_rd _ rfl (.tmp 28) (.tmp 31) 105 rfl (s + 1) 107 _ vz 4 56 Tryz.underlying105 rfl rfl rfl rfl rfl (by decide) (.slice none 0 0) 0 (tvCells []) (by rfl) (ow.alloc _) (w1.heap.size + 1) (some ⟨w1.heap.size,0,none⟩) 1 1 (Tv.int k).cells (by rfl) (rd_new w1 107 (Tv.int k).cells 1 4 rfl) (tv_one _) (by unfold maxLen;omega) (by omega) (by simp;omega) ?_;intro v9 w2 hown9 hgrow9 _;obtain ⟨g1,c1,hv9,_,_⟩ := hown9.form (by omega);subst hv9;have hal : Below w1.heap.size w1 (w1.alloc (.cells #[.int .i64 1,.int .i64 k,.string ⟨#[]⟩,.slice none 0 0] 107)) := (Below.refl _ _).alloc (Nat.le_refl _) _;have hst := HLB.out.step (x := .int k) hal hown9 hgrow9;have hbe := HLB.out.bel (v := .slice (some ⟨g1,0,none⟩) (0 + 1) c1) HB0.out hal hgrow9 (Nat.le_refl _);have hrw := (HLB.out.row.below hal hltw).grown hgrow9 (fun e => by have h9 := (ow.lt s e.symm).1;omega);have s3 := hrw.cell (i := 3) rfl;have f9 := hrw.fz 3;have HST := Lib.hid (And.intro hst hbe);clear hst hbe hrw hown9 hgrow9 hal)
 have HLB := Lib.hid HST.out.1;have HB0 := Lib.hid HST.out.2;clear s3 f9 a3 f3 ow hszw hltw HST;change Hid (LB s (s + 1) [.int k] _ _ (w2.setCell ⟨s,3,none⟩ (.slice (some ⟨g1,0,none⟩) 1 c1))) at HLB;change Hid (Below s w (w2.setCell ⟨s,3,none⟩ (.slice (some ⟨g1,0,none⟩) 1 c1))) at HB0;generalize (w2.setCell ⟨s,3,none⟩ (.slice (some ⟨g1,0,none⟩) 1 c1)) = w2z at HLB HB0 ⊢;rw [rounds_succ];have a3 : w2z.cell? ⟨s,3,none⟩ = some (.slice (some ⟨g1,0,none⟩) 1 c1) := HLB.out.row.cell (i := 3) rfl;have f3 := HLB.out.row.fz 3;have ow : w2z.ownsRow (s + 1) 107 4 (.slice (some ⟨g1,0,none⟩) 1 c1) 1 (tvCells [.int k]) := HLB.out.own;have hszw := HLB.out.sz;have hltw := HLB.out.row.lt
 go_wp2_with (at_builtin;refine wpList_append_rd _ rfl (.tmp 28) (.tmp 31) 105 rfl (s + 1) 107 _ vz 4 56 Tryz.underlying105 rfl rfl rfl rfl rfl (by decide) (.slice (some ⟨g1,0,none⟩) 1 c1) 1 (tvCells [.int k]) (by rfl) (ow.alloc _) (w2z.heap.size + 1) (some ⟨w2z.heap.size,0,none⟩) 1 1 (Tv.int sd).cells (by rfl) (rd_new w2z 107 (Tv.int sd).cells 1 4 rfl) (tv_one _) (by unfold maxLen;omega) (by omega) (by simp;omega) ?_;intro v9 w3 hown9 hgrow9 _;obtain ⟨g2,c2,hv9,_,_⟩ := hown9.form (by omega);subst hv9;have hal : Below w2z.heap.size w2z (w2z.alloc (.cells #[.int .i64 1,.int .i64 sd,.string ⟨#[]⟩,.slice none 0 0] 107)) := (Below.refl _ _).alloc (Nat.le_refl _) _;have hst := HLB.out.step (x := .int sd) hal hown9 hgrow9;have hbe := HLB.out.bel (v := .slice (some ⟨g2,0,none⟩) (1 + 1) c2) HB0.out hal hgrow9 (Nat.le_refl _);have hrw := (HLB.out.row.below hal hltw).grown hgrow9 (fun e => by have h9 := (ow.lt s e.symm).1;omega);have s3 := hrw.cell (i := 3) rfl;have f9 := hrw.fz 3;have HST := Lib.hid (And.intro hst hbe);clear hst hbe hrw hown9 hgrow9 hal)
 have HLB := Lib.hid HST.out.1;have HB0 := Lib.hid HST.out.2;clear s3 f9 a3 f3 ow hszw hltw HST;change Hid (LB s (s + 1) [.int k,.int sd] _ _ (w3.setCell ⟨s,3,none⟩ (.slice (some ⟨g2,0,none⟩) 2 c2))) at HLB;change Hid (Below s w (w3.setCell ⟨s,3,none⟩ (.slice (some ⟨g2,0,none⟩) 2 c2))) at HB0;generalize (w3.setCell ⟨s,3,none⟩ (.slice (some ⟨g2,0,none⟩) 2 c2)) = w3z at HLB HB0 ⊢;rw [rounds_succ];have a3 : w3z.cell? ⟨s,3,none⟩ = some (.slice (some ⟨g2,0,none⟩) 2 c2) := HLB.out.row.cell (i := 3) rfl;have f3 := HLB.out.row.fz 3;have ow : w3z.ownsRow (s + 1) 107 4 (.slice (some ⟨g2,0,none⟩) 2 c2) 2 (tvCells [.int k,.int sd]) := HLB.out.own;have hszw := HLB.out.sz;have hltw := HLB.out.row.lt
 go_wp2_with (at_builtin;refine wpList_append_rd _ rfl (.tmp 28) (.tmp 31) 105 rfl (s + 1) 107 _ vz 4 56 Tryz.underlying105 rfl rfl rfl rfl rfl (by decide) (.slice (some ⟨g2,0,none⟩) 2 c2) 2 (tvCells [.int k,.int sd]) (by rfl) (ow.alloc _) (w3z.heap.size + 1) (some ⟨w3z.heap.size,0,none⟩) 1 1 (Tv.int no).cells (by rfl) (rd_new w3z 107 (Tv.int no).cells 1 4 rfl) (tv_one _) (by unfold maxLen;omega) (by omega) (by simp;omega) ?_;intro v9 w4 hown9 hgrow9 _;obtain ⟨g3,c3,hv9,_,_⟩ := hown9.form (by omega);subst hv9;have hal : Below w3z.heap.size w3z (w3z.alloc (.cells #[.int .i64 1,.int .i64 no,.string ⟨#[]⟩,.slice none 0 0] 107)) := (Below.refl _ _).alloc (Nat.le_refl _) _;have hst := HLB.out.step (x := .int no) hal hown9 hgrow9;have hbe := HLB.out.bel (v := .slice (some ⟨g3,0,none⟩) (2 + 1) c3) HB0.out hal hgrow9 (Nat.le_refl _);have hrw := (HLB.out.row.below hal hltw).grown hgrow9 (fun e => by have h9 := (ow.lt s e.symm).1;omega);have s3 := hrw.cell (i := 3) rfl;have f9 := hrw.fz 3;have HST := Lib.hid (And.intro hst hbe);clear hst hbe hrw hown9 hgrow9 hal)
 have HLB := Lib.hid HST.out.1;have HB0 := Lib.hid HST.out.2;clear s3 f9 a3 f3 ow hszw hltw HST;change Hid (LB s (s + 1) [.int k,.int sd,.int no] _ _ (w4.setCell ⟨s,3,none⟩ (.slice (some ⟨g3,0,none⟩) 3 c3))) at HLB;change Hid (Below s w (w4.setCell ⟨s,3,none⟩ (.slice (some ⟨g3,0,none⟩) 3 c3))) at HB0;generalize (w4.setCell ⟨s,3,none⟩ (.slice (some ⟨g3,0,none⟩) 3 c3)) = w4z at HLB HB0 ⊢;rw [rounds_succ];have a3 : w4z.cell? ⟨s,3,none⟩ = some (.slice (some ⟨g3,0,none⟩) 3 c3) := HLB.out.row.cell (i := 3) rfl;have f3 := HLB.out.row.fz 3;have ow : w4z.ownsRow (s + 1) 107 4 (.slice (some ⟨g3,0,none⟩) 3 c3) 3 (tvCells [.int k,.int sd,.int no]) := HLB.out.own;have hszw := HLB.out.sz;have hltw := HLB.out.row.lt
 go_wp2_with (at_builtin;refine wpList_append_rd _ rfl (.tmp 28) (.tmp 31) 105 rfl (s + 1) 107 _ vz 4 56 Tryz.underlying105 rfl rfl rfl rfl rfl (by decide) (.slice (some ⟨g3,0,none⟩) 3 c3) 3 (tvCells [.int k,.int sd,.int no]) (by rfl) (ow.alloc _) (w4z.heap.size + 1) (some ⟨w4z.heap.size,0,none⟩) 1 1 (Tv.int wh).cells (by rfl) (rd_new w4z 107 (Tv.int wh).cells 1 4 rfl) (tv_one _) (by unfold maxLen;omega) (by omega) (by simp;omega) ?_;intro v9 w5 hown9 hgrow9 _;obtain ⟨g4,c4,hv9,_,_⟩ := hown9.form (by omega);subst hv9;have hal : Below w4z.heap.size w4z (w4z.alloc (.cells #[.int .i64 1,.int .i64 wh,.string ⟨#[]⟩,.slice none 0 0] 107)) := (Below.refl _ _).alloc (Nat.le_refl _) _;have hst := HLB.out.step (x := .int wh) hal hown9 hgrow9;have hbe := HLB.out.bel (v := .slice (some ⟨g4,0,none⟩) (3 + 1) c4) HB0.out hal hgrow9 (Nat.le_refl _);have hrw := (HLB.out.row.below hal hltw).grown hgrow9 (fun e => by have h9 := (ow.lt s e.symm).1;omega);have s3 := hrw.cell (i := 3) rfl;have f9 := hrw.fz 3;have HST := Lib.hid (And.intro hst hbe);clear hst hbe hrw hown9 hgrow9 hal)
 have HLB := Lib.hid HST.out.1;have HB0 := Lib.hid HST.out.2;clear s3 f9 a3 f3 ow hszw hltw HST;change Hid (LB s (s + 1) [.int k,.int sd,.int no,.int wh] _ _ (w5.setCell ⟨s,3,none⟩ (.slice (some ⟨g4,0,none⟩) 4 c4))) at HLB;change Hid (Below s w (w5.setCell ⟨s,3,none⟩ (.slice (some ⟨g4,0,none⟩) 4 c4))) at HB0;generalize (w5.setCell ⟨s,3,none⟩ (.slice (some ⟨g4,0,none⟩) 4 c4)) = w5z at HLB HB0 ⊢;rw [rounds_succ];have d0 := HLB.out.row.cell (i := 0) rfl;have d1 := HLB.out.row.cell (i := 1) rfl;have d2 := HLB.out.row.cell (i := 2) rfl;have d3 : w5z.cell? ⟨s,3,none⟩ = some (.slice (some ⟨g4,0,none⟩) 4 c4) := HLB.out.row.cell (i := 3) rfl;have hcap : 4 ≤ c4 ∧ c4 ≤ maxLen := HLB.out.cap;have HEN := HENC.out (some ⟨g4,0,none⟩) c4 w5z (by have h9 : ks4 k sd no wh = KS := HKS.out;rw [← h9];exact HLB.out.rd) hcap.1;have HEN := Lib.hid HEN;clear hcap
 go_wp2_with fail
 refine HEN.out.mono ?_;rintro x w6 ⟨eA,ec,rfl,hrd,hec1,hec2,hb6⟩;have HB6 : Hid (Below s w w6) := HB0.out.trans (hb6.mono (by have := HLB.out.row.lt;omega));have HL6 : Hid (Laid w6) := HLD.out.below HB6.out (by have := HLD.out.size;have := HS.out;omega);have HRD := Lib.hid (And.intro hrd (And.intro hec1 hec2));clear hrd hec1 hec2 hb6 d0 d1 d2 d3
 go_wp2_with fail
 refine (nneed_any _ _).mono ?_;rintro x w7 ⟨rfl,rfl⟩
 go_wp2_with fail
 refine (HHS.out eA ec w6 HL6.out HRD.out.1 HRD.out.2.1 HRD.out.2.2).mono ?_;rintro x w7 ⟨rfl,hb7⟩;have HB7 : Hid (Below s w w7) := HB6.out.trans (hb7.mono (by have := HB6.out.size;have := HS.out;omega));clear hb7;obtain ⟨H,hH⟩ : ∃ h,Sh.hash K [110,111,110,99,101] EB = h := ⟨_,rfl⟩;rw [hH] at HNZ ⊢;clear hH
 rcases (show 1 < H ∨ H ≤ 1 by omega) with hh | hh
 ·have HX : Hid (H = NZ) := by show H = NZ;have := HNZ.out;omega
  go_wp2_with fail
  go_ret;exact ⟨congrArg (fun z => Ending.returned (.int .i64 z)) HX.out,HB7.out⟩
 ·have HX : Hid (1 = NZ) := by show 1 = NZ;have := HNZ.out;omega
  have hh2 : ¬ 1 < H := by omega
  go_wp2_with fail
  all_goals
   go_ret;exact ⟨congrArg (fun z => Ending.returned (.int .i64 z)) HX.out,HB7.out⟩
theorem numbers_any (K : Sh.Cst) (k sd no nx : Int) (A : Option Addr) (n c g : Nat) (w : World) (hk : 0 ≤ k ∧ k < 64) (hs : 0 ≤ sd ∧ sd ≤ 1099511627776) (hno : 0 ≤ no ∧ no ≤ 4096) (hL : Laid w)
  (hg : Row w g 100 [.int .i64 k,.int .i64 sd,.int .i64 nx,.slice A n c]) :
  Calls Tryz.prog 45 #[.pointer (some ⟨g,0,none⟩),.int .i64 no] w fun r w' => r = .returned (.agg #[.int .i64 (nz K k sd no 0),.int .i64 (nz K k sd no 1)]) ∧ Below w.heap.size w w' := by
 obtain ⟨s,hsz⟩ : ∃ s,w.heap.size = s := ⟨_,rfl⟩;obtain ⟨w3,hw3⟩ : ∃ w3,((w.alloc (.cells #[.pointer (some ⟨g,0,none⟩)] 96)).alloc (.cells #[.int .i64 no] 3)).alloc (.cells #[.int .i64 0,.int .i64 0] 113) = w3 := ⟨_,rfl⟩;have hb3 : Below s w w3 := by rw [← hw3,← hsz];exact (((Below.refl _ w).alloc (Nat.le_refl _) _).alloc (by simp) _).alloc (by simp;omega) _
 have hr1 : Row w3 s 96 [.pointer (some ⟨g,0,none⟩)] := by rw [← hw3];exact ((Row.fresh' w _ _ hsz).alloc _).alloc _
 have hr2 : Row w3 (s + 1) 3 [.int .i64 no] := by rw [← hw3];exact (Row.fresh' _ _ _ (by simp [hsz])).alloc _
 have hr3 : Row w3 (s + 1 + 1) 113 [.int .i64 0,.int .i64 0] := by rw [← hw3];exact Row.fresh' _ _ _ (by simp [hsz])
 have HN : Hid (∀ wh W,0 ≤ wh ∧ wh ≤ 1 → Below s w W → Row W s 96 [.pointer (some ⟨g,0,none⟩)] → Row W (s + 1) 3 [.int .i64 no] → Calls Tryz.prog 101 #[.int .i64 wh,.pointer (some ⟨s,0,none⟩),.pointer (some ⟨s + 1,0,none⟩)] W fun r w' => r = .returned (.int .i64 (nz K k sd no wh)) ∧ Below W.heap.size W w') := fun wh W h1 h2 h3 h4 =>
  number1_any K k sd no wh nx A n c g s (s + 1) W hk hs hno h1 (hL.below h2 (by have := hL.size;omega)) h3 (hg.below h2 (by have := hg.lt;omega)) h4
 obtain ⟨X,hX⟩ : ∃ X,nz K k sd no 0 = X := ⟨_,rfl⟩;obtain ⟨Y,hY⟩ : ∃ Y,nz K k sd no 1 = Y := ⟨_,rfl⟩;have HX := Lib.hid (And.intro hX hY);rw [hX,hY];have HS := Lib.hid hsz;have HH := Lib.hid (And.intro hb3 (And.intro hr1 (And.intro hr2 hr3)));clear hg hL hX hY hb3 hr1 hr2 hr3;rw [hsz];clear hsz;go_enter Tryz.func45,Tryz.ntmps45
 go_wp2_with fail
 rw [HS.out];clear hw3;refine (HN.out 0 w3 (by decide) HH.out.1 HH.out.2.1 HH.out.2.2.1).mono ?_;rintro x w4 ⟨rfl,hb4⟩;rw [HX.out.1];have hlt := HH.out.2.2.2.lt;have HB4 : Hid (Below s w w4) := HH.out.1.trans (hb4.mono (by omega));have HR4 := Lib.hid (And.intro (HH.out.2.1.below hb4 (by omega)) (And.intro (HH.out.2.2.1.below hb4 (by omega)) (HH.out.2.2.2.below hb4 hlt)));clear hb4 hlt HH
 go_wp2_with fail
 refine (HN.out 1 w4 (by decide) HB4.out HR4.out.1 HR4.out.2.1).mono ?_;rintro x w5 ⟨rfl,hb5⟩;rw [HX.out.2];have hlt := HR4.out.2.2.lt;have HB5 : Hid (Below s w w5) := HB4.out.trans (hb5.mono (by omega));have hr5 := HR4.out.2.2.below hb5 hlt;have o0 := hr5.cell (i := 0) rfl;have o1 := hr5.cell (i := 1) rfl;have f0 := hr5.fz 0;have f1 := hr5.fz 1;have HR5 := Lib.hid hr5;clear hb5 hlt hr5
 go_wp2_with fail
 have hr9 := (HR5.out.put 0 (.int .i64 X)).put 1 (.int .i64 Y);refine bodyPost_ret (results_row (p := 4) rfl _ _ (s + 1 + 1) 113 _ (0,0) _ (by rfl) hr9 Tryz.underlying113 (by rfl) (by kernel_rfl)) rfl ?_;exact ⟨rfl,(HB5.out.setCell (p := ⟨s + 1 + 1,0,none⟩) (by show s ≤ s + 1 + 1;omega) _).setCell (p := ⟨s + 1 + 1,1,none⟩) (by show s ≤ s + 1 + 1;omega) _⟩
end Go.Proofs.YtifejdpffkeniaaGreatDoor
namespace Go.Proofs.YtifejdpffkeniaaGreatDoor
namespace Qr
def sm (f : Nat → Nat) : Nat → Nat
 | 0 => 0
 | k + 1 => sm f k + f k
theorem sm_congr {f g : Nat → Nat} {h : Nat} (H : ∀ k,k < h → f k = g k) : sm f h = sm g h := by
 induction h with
 | zero => rfl
 | succ h ih => rw [sm,sm,ih fun k hk => H k (by omega),H h (by omega)]
theorem sm_add (f g : Nat → Nat) (h : Nat) : sm (fun k => f k + g k) h = sm f h + sm g h := by
 induction h with
 | zero => rfl
 | succ h ih => simp only [sm,ih];omega
theorem sm_two {f g : Nat → Nat} {h : Nat} (H : ∀ k,k < h → f k % 2 = g k % 2) : sm f h % 2 = sm g h % 2 := by
 induction h with
 | zero => rfl
 | succ h ih =>
  have h1 := ih fun k hk => H k (by omega);have h2 := H h (by omega);simp only [sm];omega
theorem sm_swap (f : Nat → Nat → Nat) (M N : Nat) : sm (fun k => sm (fun j => f k j) M) N = sm (fun j => sm (fun k => f k j) N) M := by
 induction N with
 | zero =>
  have : ∀ M,sm (fun j => sm (fun k => f k j) 0) M = 0 := by
   intro M
   induction M with
   | zero => rfl
   | succ M ih => simp only [sm] at ih ⊢;omega
  rw [this];rfl
 | succ N ih => simp only [sm,ih,sm_add]
theorem sm_one (h : Nat) : sm (fun _ => 1) h = h := by
 induction h with
 | zero => rfl
 | succ h ih => simp only [sm,ih]
theorem sm_const (c h : Nat) : sm (fun _ => c) h = h * c := by
 induction h with
 | zero => simp [sm]
 | succ h ih => simp only [sm,ih,Nat.succ_mul]
theorem sm_ind (c M : Nat) : sm (fun j => if j < c then 1 else 0) M = min c M := by
 induction M with
 | zero => simp [sm]
 | succ M ih =>
  simp only [sm,ih]
  split <;> omega
theorem sm_list (f : Nat → Nat) (h : Nat) : sm f h = ((List.range h).map f).sum := by
 induction h with
 | zero => rfl
 | succ h ih => rw [sm,ih,List.range_succ,List.map_append,List.sum_append];simp
theorem perm_sum {l l' : List Nat} (h : l.Perm l') : l.sum = l'.sum := by
 induction h with
 | nil => rfl
 | cons x _ ih => simp [ih]
 | swap x y l => simp;omega
 | trans _ _ ih1 ih2 => rw [ih1,ih2]
theorem nodup_len : ∀ (h : Nat) (L : List Nat),L.Nodup → (∀ x ∈ L,x < h) → L.length ≤ h
 | 0,L,_,hl => by
  cases L with
  | nil => simp
  | cons a L => exact absurd (hl a (by simp)) (by omega)
 | h + 1,L,hd,hl => by
  by_cases hm : h ∈ L
  ·have h1 := nodup_len h (L.erase h) (hd.erase h) fun x hx => by
    have h2 := (hd.mem_erase_iff).1 hx;have := hl x h2.2;omega
   rw [List.length_erase_of_mem hm] at h1;omega
  ·have h1 := nodup_len h L hd fun x hx => by
    have h2 := hl x hx;have : x ≠ h := fun e => hm (e ▸ hx);omega
   omega
theorem perm_range : ∀ (h : Nat) (L : List Nat),L.Nodup → (∀ x ∈ L,x < h) → L.length = h → L.Perm (List.range h)
 | 0,L,_,_,hn => by rw [List.length_eq_zero_iff.1 hn];exact List.Perm.refl _
 | h + 1,L,hd,hl,hn => by
  by_cases hm : h ∈ L
  ·have h1 := perm_range h (L.erase h) (hd.erase h) (fun x hx => by
    have h2 := (hd.mem_erase_iff).1 hx;have := hl x h2.2
    omega) (by rw [List.length_erase_of_mem hm];omega)
   refine (List.perm_cons_erase hm).trans ?_;rw [List.range_succ];exact (List.Perm.cons h h1).trans (List.perm_append_comm (l₁ := [h]))
  ·have h1 := nodup_len h L hd fun x hx => by
    have h2 := hl x hx;have : x ≠ h := fun e => hm (e ▸ hx);omega
   omega
theorem sm_perm {h : Nat} {p : Nat → Nat} (hp : ∀ i,i < h → p i < h) (hi : ∀ i j,i < h → j < h → p i = p j → i = j) (f : Nat → Nat) : sm (fun k => f (p k)) h = sm f h := by
 have hL : ((List.range h).map p).Perm (List.range h) := by
  refine perm_range h _ ?_ ?_ (by simp)
  ·have h1 : (List.range h).Pairwise (· < ·) := List.pairwise_lt_range
   show List.Pairwise (· ≠ ·) _;rw [List.pairwise_map];refine h1.imp_of_mem fun {a b} ha hb hab e => ?_;have := hi a b (List.mem_range.1 ha) (List.mem_range.1 hb) e;omega
  ·intro x hx
   obtain ⟨i,hi',rfl⟩ := List.mem_map.1 hx;exact hp i (List.mem_range.1 hi')
 rw [sm_list,sm_list];have := perm_sum (hL.map f);rw [List.map_map] at this;exact this
def ng (n a k : Nat) : Nat := if n / 2 < a * (k + 1) % n then 1 else 0
def cnt (a n : Nat) : Nat := sm (ng n a) (n / 2)
def pl (n a k : Nat) : Nat := (if n / 2 < a * (k + 1) % n then n - a * (k + 1) % n else a * (k + 1) % n) - 1
theorem nz {n a k : Nat} (hc : Nat.Coprime a n) (hk : 0 < k) (hn : k < n) : a * k % n ≠ 0 := fun h => by
 have h1 : n ∣ a * k := Nat.dvd_of_mod_eq_zero h;have h2 : n ∣ k := (Nat.Coprime.symm hc).dvd_of_dvd_mul_left h1;have := Nat.le_of_dvd hk h2;omega
theorem pl_lt {n a i : Nat} (ho : n % 2 = 1) (hc : Nat.Coprime a n) (hi : i < n / 2) : pl n a i < n / 2 := by
 have h1 := nz hc (k := i + 1) (by omega) (by omega);have h2 := Nat.mod_lt (a * (i + 1)) (show 0 < n by omega);unfold pl
 split <;> omega
theorem pl_inj {n a i j : Nat} (ho : n % 2 = 1) (hc : Nat.Coprime a n) (hi : i < n / 2) (hj : j < n / 2) (h : pl n a i = pl n a j) : i = j := by
 have hi1 := nz hc (k := i + 1) (by omega) (by omega);have hj1 := nz hc (k := j + 1) (by omega) (by omega);have hi2 := Nat.mod_lt (a * (i + 1)) (show 0 < n by omega);have hj2 := Nat.mod_lt (a * (j + 1)) (show 0 < n by omega)
 have key : ∀ i j,i < n / 2 → j < n / 2 → a * (i + 1) % n = a * (j + 1) % n → ¬ i < j := fun i j hi hj he hlt => by
  have h1 := Nat.sub_mod_eq_zero_of_mod_eq he.symm;rw [← Nat.mul_sub,show j + 1 - (i + 1) = j - i by omega] at h1;exact nz hc (by omega) (by omega) h1
 have hs : a * (i + 1) % n + a * (j + 1) % n ≠ n := fun he => by
  have h1 : (a * (i + 1) + a * (j + 1)) % n = 0 := by rw [Nat.add_mod,he,Nat.mod_self]
  rw [← Nat.mul_add] at h1;exact nz hc (by omega) (by omega) h1
 unfold pl at h
 have he : a * (i + 1) % n = a * (j + 1) % n := by
  split at h <;> split at h <;> omega
 have h1 := key i j hi hj he;have h2 := key j i hj hi he.symm;omega
theorem ng_mul {n a b i : Nat} (ho : n % 2 = 1) (ha : Nat.Coprime a n) (hb : Nat.Coprime b n) (hi : i < n / 2) : ng n (a * b) i % 2 = (ng n a (pl n b i) + ng n b i) % 2 := by
 have h1 := nz hb (k := i + 1) (by omega) (by omega);have h2 := Nat.mod_lt (b * (i + 1)) (show 0 < n by omega);have h3 : a * b * (i + 1) % n = a * (b * (i + 1) % n) % n := by rw [Nat.mul_assoc,Nat.mul_mod,Nat.mul_mod a (b * (i + 1) % n),Nat.mod_mod]
 unfold ng pl;rw [h3];obtain ⟨r,hr⟩ : ∃ r,b * (i + 1) % n = r := ⟨_,rfl⟩;rw [hr] at h1 h2 ⊢
 by_cases hlt : n / 2 < r
 ·rw [if_pos hlt,if_pos hlt,show n - r - 1 + 1 = n - r by omega]
  have h4 := nz ha (k := n - r) (by omega) (by omega);have h5 := Nat.mod_lt (a * (n - r)) (show 0 < n by omega);have h6 := Nat.mod_lt (a * r) (show 0 < n by omega)
  have h7 : (a * r % n + a * (n - r) % n) % n = 0 := by
   rw [← Nat.add_mod,← Nat.mul_add,show r + (n - r) = n by omega,Nat.mul_mod_left]
  have h8 : a * r % n + a * (n - r) % n = n := by
   rcases Nat.lt_or_ge (a * r % n + a * (n - r) % n) n with h9 | h9
   ·rw [Nat.mod_eq_of_lt h9] at h7;omega
   ·rw [Nat.mod_eq_sub_mod h9,Nat.mod_eq_of_lt (by omega)] at h7;omega
  split <;> split <;> omega
 ·rw [if_neg hlt,if_neg hlt,show r - 1 + 1 = r by omega]
  rfl
theorem cnt_mul {n a b : Nat} (ho : n % 2 = 1) (ha : Nat.Coprime a n) (hb : Nat.Coprime b n) : cnt (a * b) n % 2 = (cnt a n + cnt b n) % 2 := by
 unfold cnt;rw [sm_two (g := fun i => ng n a (pl n b i) + ng n b i) fun k hk => ng_mul ho ha hb hk,sm_add,sm_perm (fun i hi => pl_lt ho hb hi) (fun i j hi hj h => pl_inj ho hb hi hj h)]
theorem cnt_mod (a n : Nat) : cnt (a % n) n = cnt a n := by
 unfold cnt;refine sm_congr fun k _ => ?_;unfold ng;rw [Nat.mod_mul_mod]
theorem cnt_one {n : Nat} (ho : n % 2 = 1) : cnt 1 n = 0 := by
 unfold cnt;rw [sm_congr (g := fun _ => 0) fun k hk => by unfold ng;rw [Nat.one_mul,Nat.mod_eq_of_lt (by omega),if_neg (by omega)],sm_const];omega
theorem cnt_two {n : Nat} (ho : n % 2 = 1) : cnt 2 n % 2 = if n % 8 = 3 ∨ n % 8 = 5 then 1 else 0 := by
 have h1 : cnt 2 n + sm (fun j => if j < n / 2 / 2 then 1 else 0) (n / 2) = n / 2 := by
  unfold cnt;rw [← sm_add];refine (sm_congr (g := fun _ => 1) fun k hk => ?_).trans (sm_one _);unfold ng;rw [Nat.mod_eq_of_lt (by omega)]
  split <;> split <;> omega
 rw [sm_ind] at h1
 split <;> omega
theorem cnt_eis {n a : Nat} (ho : n % 2 = 1) (hao : a % 2 = 1) (hc : Nat.Coprime a n) : cnt a n % 2 = sm (fun k => a * (k + 1) / n) (n / 2) % 2 := by
 have h1 : sm (fun k => a * (k + 1)) (n / 2) % 2 = sm (fun k => k + 1) (n / 2) % 2 := sm_two fun k _ => by rw [Nat.mul_mod,hao,Nat.one_mul,Nat.mod_mod]
 have h2 : sm (fun k => a * (k + 1)) (n / 2) % 2 = sm (fun k => a * (k + 1) / n + (ng n a k + (pl n a k + 1))) (n / 2) % 2 := by
  refine sm_two fun k hk => ?_;have h3 := nz hc (k := k + 1) (by omega) (by omega);have h4 := Nat.mod_lt (a * (k + 1)) (show 0 < n by omega);have h5 := Nat.div_add_mod (a * (k + 1)) n;obtain ⟨q,hq⟩ : ∃ q,a * (k + 1) / n = q := ⟨_,rfl⟩;obtain ⟨r,hr⟩ : ∃ r,a * (k + 1) % n = r := ⟨_,rfl⟩;unfold ng pl;rw [hq,hr] at h5;rw [hr] at h3 h4 ⊢;rw [hq,← h5];have h6 : n * q % 2 = q % 2 := by rw [Nat.mul_mod,ho,Nat.one_mul,Nat.mod_mod]
  obtain ⟨X,hX⟩ : ∃ X,n * q = X := ⟨_,rfl⟩;rw [hX] at h6 ⊢
  split <;> omega
 rw [sm_add,sm_add,sm_perm (p := pl n a) (f := fun k => k + 1) (fun i hi => pl_lt ho hc hi) (fun i j hi hj h => pl_inj ho hc hi hj h)] at h2;unfold cnt;omega
theorem half_mul (m n : Nat) (hm : m % 2 = 1) (hn : n % 2 = 1) {k : Nat} (hk : k < n / 2) : m * (k + 1) / n ≤ m / 2 := by
 refine Nat.le_of_lt_succ ((Nat.div_lt_iff_lt_mul (by omega)).2 ?_);obtain ⟨m',rfl⟩ : ∃ m',m = 2 * m' + 1 := ⟨m / 2,by omega⟩;obtain ⟨n',rfl⟩ : ∃ n',n = 2 * n' + 1 := ⟨n / 2,by omega⟩;rw [show (2 * m' + 1) / 2 = m' by omega];rw [show (2 * n' + 1) / 2 = n' by omega] at hk;have h1 : (2 * m' + 1) * (k + 1) ≤ (2 * m' + 1) * n' := Nat.mul_le_mul_left _ (by omega);have h2 : (2 * m' + 1) * n' = 2 * (m' * n') + n' := by rw [Nat.add_mul,Nat.mul_assoc,Nat.one_mul]
 have h3 : (m' + 1) * (2 * n' + 1) = 2 * (m' * n') + m' + 2 * n' + 1 := by
  rw [Nat.add_mul,Nat.mul_add,Nat.one_mul,Nat.mul_one,show m' * (2 * n') = 2 * (m' * n') by rw [Nat.mul_left_comm]];omega
 show _ < (m' + 1) * (2 * n' + 1);omega
theorem latt_row {m n : Nat} (hm : m % 2 = 1) (hn : n % 2 = 1) (hc : Nat.Coprime m n) {k : Nat} (hk : k < n / 2) : m * (k + 1) / n = sm (fun j => if n * (j + 1) < m * (k + 1) then 1 else 0) (m / 2) := by
 have h1 := nz hc (k := k + 1) (by omega) (by omega);have h2 := half_mul m n hm hn hk;have h5 := Nat.div_add_mod (m * (k + 1)) n;have h6 := Nat.mod_lt (m * (k + 1)) (show 0 < n by omega);rw [sm_congr (g := fun j => if j < m * (k + 1) / n then 1 else 0) fun j _ => ?_,sm_ind]
 ·omega
 ·obtain ⟨q,hq⟩ : ∃ q,m * (k + 1) / n = q := ⟨_,rfl⟩
  obtain ⟨t,ht⟩ : ∃ t,m * (k + 1) = t := ⟨_,rfl⟩;rw [hq,ht] at h5;rw [ht] at h1 h6;show (if n * (j + 1) < m * (k + 1) then 1 else 0) = if j < m * (k + 1) / n then 1 else 0;rw [hq,ht]
  by_cases hj : j < q
  ·have h7 : n * (j + 1) ≤ n * q := Nat.mul_le_mul_left _ (by omega)
   rw [if_pos hj,if_pos (by omega)]
  ·have h7 : n * (q + 1) ≤ n * (j + 1) := Nat.mul_le_mul_left _ (by omega)
   rw [Nat.mul_add,Nat.mul_one] at h7;rw [if_neg hj,if_neg (by omega)]
theorem latt {m n : Nat} (hm : m % 2 = 1) (hn : n % 2 = 1) (hc : Nat.Coprime m n) : sm (fun k => m * (k + 1) / n) (n / 2) + sm (fun j => n * (j + 1) / m) (m / 2) = (n / 2) * (m / 2) := by
 rw [sm_congr fun k hk => latt_row hm hn hc hk,sm_congr (f := fun j => n * (j + 1) / m) fun j hj => latt_row hn hm (Nat.Coprime.symm hc) hj,sm_swap (fun k j => if n * (j + 1) < m * (k + 1) then 1 else 0),← sm_add]
 have h1 : sm (fun k => sm (fun k_1 => if n * (k + 1) < m * (k_1 + 1) then 1 else 0) (n / 2) + sm (fun j => if m * (j + 1) < n * (k + 1) then 1 else 0) (n / 2)) (m / 2) = sm (fun _ => n / 2) (m / 2) := by
  refine sm_congr fun j hj => ?_;rw [← sm_add];refine (sm_congr (g := fun _ => 1) fun k hk => ?_).trans (sm_one _)
  have h2 : n * (j + 1) ≠ m * (k + 1) := fun e => by
   have h3 := nz hc (k := k + 1) (by omega) (by omega);rw [← e,Nat.mul_mod_right] at h3;exact h3 rfl
  split <;> split <;> omega
 rw [h1,sm_const,Nat.mul_comm]
theorem recip {m n : Nat} (hm : m % 2 = 1) (hn : n % 2 = 1) (hc : Nat.Coprime m n) : (cnt m n + cnt n m) % 2 = (n / 2) * (m / 2) % 2 := by
 have h1 := cnt_eis hn hm hc;have h2 := cnt_eis hm hn (Nat.Coprime.symm hc);have h3 := latt hm hn hc;omega
theorem recip4 {m n : Nat} (hm : m % 2 = 1) (hn : n % 2 = 1) (hc : Nat.Coprime m n) : cnt m n % 2 = (cnt n m + if m % 4 = 3 ∧ n % 4 = 3 then 1 else 0) % 2 := by
 have h1 := recip hm hn hc
 have h2 : (n / 2) * (m / 2) % 2 = if m % 4 = 3 ∧ n % 4 = 3 then 1 else 0 := by
  rw [Nat.mul_mod];have ha : n / 2 % 2 = 0 ∨ n / 2 % 2 = 1 := by omega
  have hb : m / 2 % 2 = 0 ∨ m / 2 % 2 = 1 := by omega
  rcases ha with ha | ha <;> rcases hb with hb | hb <;> rw [ha,hb] <;> split <;> omega
 rw [h2] at h1
 split at h1 <;> split <;> omega
end Qr
namespace Gm
def chk : Nat → Nat → Bool
 | 0,s => 2147483579 % (s + 2) != 0
 | n + 1,s => chk n s && chk n (s + 2 ^ n)
theorem chk_of : ∀ (n s : Nat),chk n s = true → ∀ d,s ≤ d → d < s + 2 ^ n → 2147483579 % (d + 2) ≠ 0
 | 0,s,h,d,h1,h2 => by
  have : d = s := by simp at h2;omega
  subst this
  simpa [chk] using h
 | n + 1,s,h,d,h1,h2 => by
  simp only [chk,Bool.and_eq_true] at h;have e : 2 ^ (n + 1) = 2 ^ n + 2 ^ n := by rw [Nat.pow_succ];omega
  by_cases c : d < s + 2 ^ n
  ·exact chk_of n s h.1 d h1 c
  ·exact chk_of n (s + 2 ^ n) h.2 d (by omega) (by omega)
theorem chk_true : chk 16 0 = true := by decide +kernel
theorem no_div (d : Nat) (h1 : 2 ≤ d) (h2 : d < 65538) : ¬ d ∣ 2147483579 := by
 intro h;have e : (2 : Nat) ^ 16 = 65536 := by decide
 have h0 := chk_of 16 0 chk_true (d - 2) (by omega) (by omega);rw [show d - 2 + 2 = d by omega] at h0;exact h0 (Nat.mod_eq_zero_of_dvd h)
theorem coprime (k : Nat) (h1 : 0 < k) (h2 : k < 2147483579) : Nat.Coprime k 2147483579 := by
 have hg1 : Nat.gcd k 2147483579 ∣ 2147483579 := Nat.gcd_dvd_right _ _;have hg2 : Nat.gcd k 2147483579 ≤ k := Nat.gcd_le_left _ h1;have hg0 : 0 < Nat.gcd k 2147483579 := Nat.gcd_pos_of_pos_left _ h1;show Nat.gcd k 2147483579 = 1;generalize Nat.gcd k 2147483579 = g at hg1 hg2 hg0;obtain ⟨c,hc⟩ := hg1;have hc0 : c ∣ 2147483579 := ⟨g,by rw [hc,Nat.mul_comm]⟩;have hg3 : g ∣ 2147483579 := ⟨c,hc⟩;apply Classical.byContradiction;intro hg;have c0 : c ≠ 0 := by intro h;subst h;simp at hc
 have c1 : c ≠ 1 := by intro h;subst h;omega
 by_cases hs : g < 65538
 ·exact no_div g (by omega) hs hg3
 ·by_cases hs2 : c < 65538
  ·exact no_div c (by omega) hs2 hc0
  ·have : 65538 * 65538 ≤ g * c := Nat.mul_le_mul (by omega) (by omega)
   omega
theorem four_pow {p q : Nat} (h : p = 2 * q + 1) (h1 : 1 < p) (hp : (p : Int) ∣ ((2 : Nat) : Int) ^ p - ((2 : Nat) : Int)) : 4 ^ q % p = 1 := by
 have h2 : (2 : Nat) ^ p = 2 * 4 ^ q := by rw [h,Nat.pow_succ,Nat.pow_mul,Nat.mul_comm]
 have h3 : ((2 : Nat) : Int) ^ p - ((2 : Nat) : Int) = ((2 * (4 ^ q - 1) : Nat) : Int) := by
  have h5 : 1 ≤ 4 ^ q := Nat.pow_pos (by omega);rw [← Int.natCast_pow,h2,Nat.mul_sub,Nat.mul_one,Int.ofNat_sub (by omega)]
 rw [h3] at hp;have h4 : p ∣ 2 * (4 ^ q - 1) := Int.natCast_dvd_natCast.1 hp
 have hc : Nat.Coprime p 2 := by
  show Nat.gcd p 2 = 1;rw [Nat.gcd_comm,Nat.gcd_rec,show p % 2 = 1 by omega]
  rfl
 have h6 : p ∣ 4 ^ q - 1 := hc.dvd_of_dvd_mul_left h4;obtain ⟨c,hc'⟩ := h6;have h7 : 1 ≤ 4 ^ q := Nat.pow_pos (by omega);have h8 : 4 ^ q = 1 + p * c := by omega
 rw [h8,Nat.add_mul_mod_self_left,Nat.mod_eq_of_lt h1]
def pw (k : Nat) : Nat := 4 ^ k % 2147483579
theorem pw_lt (k : Nat) : pw k < 2147483579 := Nat.mod_lt _ (by decide)
theorem pw_zero : pw 0 = 1 := by decide
theorem pw_one : pw 1 = 4 := by decide
theorem pw_mul (a b : Nat) : pw a * pw b % 2147483579 = pw (a + b) := by
 unfold pw;rw [← Nat.mul_mod,Nat.pow_add]
theorem pw_Q' (p q : Nat) (hp : p = 2147483579) (hq : q = 1073741789) : 4 ^ q % p = 1 :=
 four_pow (by omega) (by omega) (Fm.fermat_nat p (by omega) (by subst hp;exact coprime) 2)
theorem pw_mulQ' (q : Nat) (hq : q = 1073741789) (k : Nat) : pw (k * q) = 1 := by
 induction k with
 | zero => rw [Nat.zero_mul,pw_zero]
 | succ k ih =>
  have h1 : pw q = 1 := pw_Q' 2147483579 q rfl hq;rw [Nat.succ_mul,← pw_mul,ih,h1]
theorem pw_mulQ (k : Nat) : pw (k * 1073741789) = 1 := pw_mulQ' 1073741789 rfl k
theorem pw_mod (k : Nat) : pw (k % 1073741789) = pw k := by
 have h := pw_mul (k / 1073741789 * 1073741789) (k % 1073741789);rw [pw_mulQ,Nat.one_mul,Nat.mod_eq_of_lt (pw_lt _),Nat.mul_comm,Nat.div_add_mod] at h;exact h
theorem pw_congr {a b : Nat} (h : a % 1073741789 = b % 1073741789) : pw a = pw b := by rw [← pw_mod a,h,pw_mod b]
theorem pw_ne (k : Nat) : 0 < pw k := by
 have h := pw_mul k (k * 1073741789 - k);rw [show k + (k * 1073741789 - k) = k * 1073741789 by have := Nat.le_mul_of_pos_right k (show 0 < 1073741789 by decide);omega,pw_mulQ] at h
 rcases Nat.eq_zero_or_pos (pw k) with h1 | h1
 ·rw [h1,Nat.zero_mul,Nat.zero_mod] at h
  cases h
 ·exact h1
theorem cop_pow (k : Nat) : Nat.Coprime (4 ^ k) 2147483579 := Nat.Coprime.pow_left k (coprime 4 (by decide) (by decide))
theorem pw_even (k : Nat) : Qr.cnt (pw k) 2147483579 % 2 = 0 := by
 unfold pw;rw [Qr.cnt_mod]
 have h4 : Qr.cnt 4 2147483579 % 2 = 0 := by
  have h := Qr.cnt_mul (n := 2147483579) (a := 2) (b := 2) (by decide) (coprime 2 (by decide) (by decide)) (coprime 2 (by decide) (by decide));rw [show 2 * 2 = 4 from rfl] at h;omega
 induction k with
 | zero => rw [Nat.pow_zero,Qr.cnt_one (by decide)]
 | succ k ih =>
  rw [Nat.pow_succ];have h := Qr.cnt_mul (n := 2147483579) (a := 4 ^ k) (b := 4) (by decide) (cop_pow k) (coprime 4 (by decide) (by decide));omega
end Gm
end Go.Proofs.YtifejdpffkeniaaGreatDoor
namespace Go.Proofs.YtifejdpffkeniaaGreatDoor
open Go.RowKit
attribute [local go_sem] Oper.semAt_some
structure Vl (x n : Nat) (sq : Bool) : Prop where
 x0 : 0 < x
 n0 : 1 < n
 odd : n % 2 = 1
 cop : Nat.Coprime x n
 par : sq = decide (Qr.cnt x n % 2 = 0)
 xb : x < 2147483579
 nb : n ≤ 2147483579
theorem Vl.two {x n : Nat} {sq : Bool} (h : Vl x n sq) (hx : x % 2 = 0) : Vl (x / 2) n (if n % 8 = 3 ∨ n % 8 = 5 then !sq else sq) := by
 have h0 := h.x0
 have hc : Nat.Coprime 2 n := by
  show Nat.gcd 2 n = 1;rw [Nat.gcd_rec,h.odd]
  rfl
 have hcx : Nat.Coprime (x / 2) n := Nat.Coprime.coprime_dvd_left ⟨2,by omega⟩ h.cop;refine ⟨by omega,h.n0,h.odd,hcx,?_,by have := h.xb;omega,h.nb⟩;have h1 := Qr.cnt_mul h.odd hc hcx;rw [show 2 * (x / 2) = x by omega] at h1;have h2 := Qr.cnt_two h.odd;have h3 := h.par;subst h3
 split
 ·rename_i h4
  rw [if_pos h4] at h2
  by_cases h5 : Qr.cnt x n % 2 = 0
  ·rw [decide_eq_true h5,decide_eq_false (by omega)];rfl
  ·rw [decide_eq_false h5,decide_eq_true (by omega)];rfl
 ·rename_i h4
  rw [if_neg h4] at h2
  congr 1
  exact propext ⟨fun h => by omega,fun h => by omega⟩
theorem Vl.swap {x n : Nat} {sq : Bool} (h : Vl x n sq) (hx : x % 2 = 1) (h1 : 1 < x) : Vl (n % x) x (if x % 4 = 3 ∧ n % 4 = 3 then !sq else sq) := by
 have hc : Nat.Coprime (n % x) x := by
  have := h.cop;unfold Nat.Coprime at this ⊢;rw [← this,Nat.gcd_rec x n]
 have hlt := Nat.mod_lt n (show 0 < x by omega)
 have hpos : 0 < n % x := by
  rcases Nat.eq_zero_or_pos (n % x) with h0 | h0
  ·unfold Nat.Coprime at hc
   rw [h0,Nat.gcd_zero_left] at hc;omega
  ·exact h0
 refine ⟨hpos,h1,hx,hc,?_,by have := h.xb;omega,by have := h.xb;omega⟩;have h2 := Qr.recip4 hx h.odd h.cop;rw [← Qr.cnt_mod n x] at h2;have h3 := h.par;subst h3
 split
 ·rename_i h4
  rw [if_pos h4] at h2
  by_cases h5 : Qr.cnt x n % 2 = 0
  ·rw [decide_eq_true h5,decide_eq_false (by omega)];rfl
  ·rw [decide_eq_false h5,decide_eq_true (by omega)];rfl
 ·rename_i h4
  rw [if_neg h4] at h2
  congr 1
  exact propext ⟨fun h => by omega,fun h => by omega⟩
theorem Vl.one {n : Nat} {sq : Bool} (h : Vl 1 n sq) : sq = true := by rw [h.par,Qr.cnt_one h.odd];rfl
theorem Vl.start (k : Nat) : Vl (Gm.pw k) 2147483579 true :=
 ⟨Gm.pw_ne k,by omega,by omega,Gm.coprime _ (Gm.pw_ne k) (Gm.pw_lt k),by rw [Gm.pw_even];rfl,Gm.pw_lt k,by omega⟩
theorem valid_any (k : Nat) (w : World) : Calls Tryz.prog 62 #[.int .i64 (Gm.pw k : Int)] w fun r w' => r = .returned (.bool true) ∧ w = w' := by
 have hS := Vl.start k;have h1 := hS.x0;have h2 := hS.xb;obtain ⟨x,hx⟩ : ∃ x,Gm.pw k = x := ⟨_,rfl⟩;rw [hx] at hS h1 h2 ⊢;obtain ⟨X,hX⟩ : ∃ X : Int,(x : Int) = X := ⟨_,rfl⟩;have g1 : ¬ (X < 1) := by omega
 have g2 : ¬ (2147483579 ≤ X) := by omega
 rw [hX];have HS := Lib.hid (And.intro hS hX);clear hS hx h1 h2 hX;go_enter Tryz.func62,Tryz.ntmps62;go_wp2
 go_step3
 go_wp2
 go_step3
 go_wp2
 go_loopw [0,3,4] (fun X N sq wr => w = wr ∧ ∃ (x n : Nat) (b : Bool),Vl x n b ∧ X = .int .i64 (x : Int) ∧ N = .int .i64 (n : Int) ∧ sq = .bool b) (fun X _ _ _ => (intOf X).toNat)
 case atStart => exact ⟨rfl,x,2147483579,true,HS.out.1,by rw [HS.out.2],rfl,rfl⟩
 case round =>
  clear g1 g2 HS;obtain ⟨rfl,x,n,b,hv,rfl,rfl,rfl⟩ := hrel;obtain ⟨X,hX⟩ : ∃ X : Int,(x : Int) = X := ⟨_,rfl⟩;obtain ⟨N,hN⟩ : ∃ N : Int,(n : Int) = N := ⟨_,rfl⟩;have hx0 := hv.x0;have hxb := hv.xb;have hn0 := hv.n0;have hnb := hv.nb
  by_cases h1 : x = 1
  ·subst h1
   have hb := hv.one;subst hb;have HN := Lib.hid hN;rw [hN];clear hv hX hN hx0 hxb hn0 hnb;go_wp2;rw [Exit.noGoto_ret];go_ret;exact ⟨rfl,rfl⟩
  ·rw [hX,hN]
   have k0 : 1 < X := by omega
   have HV := Lib.hid (And.intro hv (And.intro hX hN));clear hv hX hN hx0 hxb hn0 hnb h1;go_wp2;clear k0
   go_loopw [0,4] (fun X' sq wr => w = wr ∧ ∃ (y : Nat) (b : Bool),Vl y n b ∧ y ≤ x ∧ 0 < y ∧ X' = .int .i64 (y : Int) ∧ sq = .bool b) (fun X' _ _ => (intOf X').toNat)
   case atStart => exact ⟨rfl,x,b,HV.out.1,Nat.le_refl _,HV.out.1.x0,by rw [HV.out.2.1],rfl⟩
   case round =>
    obtain ⟨rfl,y,b',hv,hyx,hy0,rfl,rfl⟩ := hrel;obtain ⟨Y,hY⟩ : ∃ Y : Int,(y : Int) = Y := ⟨_,rfl⟩;have hyb := hv.xb
    rcases Nat.mod_two_eq_zero_or_one y with he | he
    ·have hv2 := hv.two he
     have k1 : Y % 2 = 0 := by omega
     have k2 : 0 ≤ Y := by omega
     have k3 : Y < 2147483579 := by omega
     have hN8 : (N % 8 = 3 ∨ N % 8 = 5) ↔ (n % 8 = 3 ∨ n % 8 = 5) := by have := HV.out.2.2;omega
     have k4 : 0 ≤ N := by have := HV.out.2.2;omega
     have HV2 := Lib.hid (And.intro hv2 (And.intro hY (And.intro hyx hy0)));rw [hY];clear hv hv2 hY hyx hy0 hyb he
     by_cases h3 : N % 8 = 3
     ·have HC := Lib.hid (hN8.1 (.inl h3))
      clear hN8;go_wp2;refine ⟨⟨trivial,y / 2,_,HV2.out.1,by have := HV2.out.2.2.1;omega,by have := HV2.out.2.2.2;have := HV2.out.1.x0;omega,by congr 1;have := HV2.out.2.1;omega,by rw [if_pos HC.out]⟩,by have := HV2.out.2.1;have := HV2.out.2.2.2;simp only [intOf];omega⟩
     ·by_cases h5 : N % 8 = 5
      ·have HC := Lib.hid (hN8.1 (.inr h5))
       clear hN8;go_wp2;refine ⟨⟨trivial,y / 2,_,HV2.out.1,by have := HV2.out.2.2.1;omega,by have := HV2.out.2.2.2;have := HV2.out.1.x0;omega,by congr 1;have := HV2.out.2.1;omega,by rw [if_pos HC.out]⟩,by have := HV2.out.2.1;have := HV2.out.2.2.2;simp only [intOf];omega⟩
      ·have HC : Hid (¬ (n % 8 = 3 ∨ n % 8 = 5)) := fun h => by rcases hN8.2 h with h | h <;> contradiction
       clear hN8;go_wp2
       all_goals first | (rename_i hh;exfalso;simp [h3,h5] at hh;done) | skip
       refine ⟨⟨trivial,y / 2,_,HV2.out.1,by have := HV2.out.2.2.1;omega,by have := HV2.out.2.2.2;have := HV2.out.1.x0;omega,by congr 1;have := HV2.out.2.1;omega,by rw [if_neg HC.out]⟩,by have := HV2.out.2.1;have := HV2.out.2.2.2;simp only [intOf];omega⟩
    ·have k1 : Y % 2 = 1 := by omega
     have k2 : 0 ≤ Y := by omega
     have k3 : Y < 2147483579 := by omega
     have k4 : 0 ≤ N := by have := HV.out.2.2;omega
     by_cases h1 : y = 1
     ·subst h1
      have hb := hv.one;subst hb;have k5 : Y = 1 := by omega
      subst k5;rw [hY];clear hv hY hyx hy0 hyb he;go_wp2;rw [Exit.noGoto_ret];go_ret;exact ⟨rfl,rfl⟩
     ·have hv2 := hv.swap he (by omega)
      have k5 : 1 < Y := by omega
      have hN4 : (Y % 4 = 3 ↔ y % 4 = 3) ∧ (N % 4 = 3 ↔ n % 4 = 3) := by have := HV.out.2.2;omega
      have HV2 := Lib.hid (And.intro hv2 (And.intro hY (And.intro hyx (And.intro hy0 hN4))));rw [hY];clear hv hv2 hyx hy0 hyb he h1 hN4 hY
      by_cases h3 : Y % 4 = 3
      ·by_cases h4 : N % 4 = 3
       ·go_wp2
        refine ⟨⟨trivial,n % y,y,_,HV2.out.1,by rw [Int.natCast_emod,HV.out.2.2,HV2.out.2.1],by rw [HV2.out.2.1],by rw [if_pos ⟨HV2.out.2.2.2.2.1.1 h3,HV2.out.2.2.2.2.2.1 h4⟩]⟩,?_⟩;have q1 := HV2.out.2.1;have q2 := HV.out.2.1;have q3 := HV2.out.2.2.1;have q4 := Int.emod_lt_of_pos N (show 0 < Y by omega);have q5 := Int.emod_nonneg N (show Y ≠ 0 by omega);simp only [intOf];omega
       ·go_wp2
        refine ⟨⟨trivial,n % y,y,_,HV2.out.1,by rw [Int.natCast_emod,HV.out.2.2,HV2.out.2.1],by rw [HV2.out.2.1],by rw [if_neg (fun h => h4 (HV2.out.2.2.2.2.2.2 h.2))]⟩,?_⟩;have q1 := HV2.out.2.1;have q2 := HV.out.2.1;have q3 := HV2.out.2.2.1;have q4 := Int.emod_lt_of_pos N (show 0 < Y by omega);have q5 := Int.emod_nonneg N (show Y ≠ 0 by omega);simp only [intOf];omega
      ·go_wp2
       refine ⟨⟨trivial,n % y,y,_,HV2.out.1,by rw [Int.natCast_emod,HV.out.2.2,HV2.out.2.1],by rw [HV2.out.2.1],by rw [if_neg (fun h => h3 (HV2.out.2.2.2.2.1.2 h.1))]⟩,?_⟩;have q1 := HV2.out.2.1;have q2 := HV.out.2.1;have q3 := HV2.out.2.2.1;have q4 := Int.emod_lt_of_pos N (show 0 < Y by omega);have q5 := Int.emod_nonneg N (show Y ≠ 0 by omega);simp only [intOf];omega
end Go.Proofs.YtifejdpffkeniaaGreatDoor
namespace Go.Proofs.YtifejdpffkeniaaGreatDoor
open Go.RowKit
section
variable {F : Fence} {n : Nat} {P : Program} {w : World} {σ : Type}
def HandsB (F : Fence) (n : Nat) (P : Program) (gf : Nat) (lb : Array Value) (w0 : World) (I : σ → World → Prop) (T : σ → Array Value → σ → World → Prop) (mv : σ → σ) (Mv : σ → World → World → Prop) (s0 : σ) (S : σ → Prop) : Prop :=
 ∀ (l : Nat) (J Jx : σ → World → Prop) (W : World),Below w0.heap.size w0 W → (∀ s X,J s X → I s X) → AbidesFrom W.heap.size J → AbidesFrom W.heap.size Jx → (∀ s X Y,J s X → Mv s X Y → J (mv s) Y) →
  (∀ s vs s' X,J s X → T s vs s' X → YieldAt F (n - 1) P l vs X fun e X' => (e = .returned (.bool true) ∧ J s' X') ∨ (e = .returned (.bool false) ∧ Jx s' X')) →
  J s0 W → CallsIn F n P gf (#[.func (.yield l) #[] #[]] ++ lb) W fun e W' => (∃ v,e = .returned v) ∧ ((∃ s,S s ∧ J s W') ∨ (∃ s,Jx s W'))
theorem wpIn_range_handsB {g : Operand} {ps : Array Tmp} {assign body : Code} {Q : Exit → Act → World → Prop} {a : Act} (hro : F.round = none) (h1 : 1 ≤ n) {gf : Nat} {lb : Array Value} (hg : a.eval g = .func (.func gf) #[] lb) (hFg : F.fn gf)
  (eg : ∀ args w,(callFunc gf args).run P w = .ok (.enter gf args) w) (I : σ → World → Prop) (Ix : Code → σ → World → Prop) (T : σ → Array Value → σ → World → Prop) (mv : σ → σ) (Mv : σ → World → World → Prop) (hIm : ∀ s X Y,I s X → Mv s X Y → I (mv s) Y) (hMv : ∀ s X Y,Mv s X Y → KeepsFrom w.heap.size X Y) (s0 : σ) (S : σ → Prop) (w0 : World) (hb0 : Below w0.heap.size w0 w)
  (hseq : HandsB F (n - 1) P gf lb w0 I T mv Mv s0 S) (hI : OwnFrom w.heap.size I) (hIx : ∀ c,OwnFrom w.heap.size (Ix c)) (h0 : I s0 w) (hps : ∀ s vs s' W,T s vs s' W → vs.size = ps.size)
  (Ax : σ → Act → World → Prop) (hAx : ∀ s a',OwnFrom w.heap.size (fun (_ : Unit) W => Ax s a' W))
  (hassign : ∀ (l : Nat) (s : σ) (vs : Array Value) (s' : σ) (W : World) (K : Act → World → Prop),I s W → T s vs s' W → (∀ a' W',KeepsFrom w.heap.size W W' → Ax s' a' W' → K a' W') →
   assign.wpIn (F.inRound l) (n - 1 - 1) P (Exit.then K (fun _ _ _ => False)) { tmps := (ps.zip vs).foldl (fun t (p,v) => t.setIfInBounds p v) a.tmps,defers := [] } W)
  (hbody : ∀ (l : Nat) (s : σ) (a' : Act) (W : World),w.heap.size ≤ l → Ax s a' W → body.wpIn (F.inRound l) (n - 1 - 1) P (leftR w.heap.size I Ix s W) a' W)
  (hdone : ∀ (D : Nat) (s : σ) (W : World),w.heap.size ≤ D → S s → I s W → W.heap[D]? = some (.deferred (some [])) → Q .normal { a with defers := { target := .collected D,args := #[] } :: a.defers } W)
  (hstop : ∀ (D : Nat) (c : Code) (s : σ) (W : World),w.heap.size ≤ D → Ix c s W → W.heap[D]? = some (.deferred (some [])) → c.wpIn F n P Q { a with defers := { target := .collected D,args := #[] } :: a.defers } W) :
  (Code.rangeFunc g ps assign body).wpIn F n P Q a w := by
 refine wpIn_rangeFunc fun fn hfn => ?_;rw [hro];obtain ⟨B,hB⟩ : ∃ B,w.heap.size = B := ⟨_,rfl⟩;rw [hB] at hI hIx hAx hassign hbody hdone hstop hMv
 let rec_ (st : LoopState) (pe : Option Code) : Loop := { state := st,pending := pe,fn,tmps := a.tmps,params := ps,assign,body,defers := B }
 have key : ∀ X : World,X.heap[B + 1]? = some (.loop (rec_ .ready none)) → X.heap[B]? = some (.deferred (some [])) → ∀ Y,KeepsFrom B X Y → Y.heap[B + 1]? = some (.loop (rec_ .ready none)) ∧ Y.heap[B]? = some (.deferred (some [])) :=
  fun X h1 h2 Y hk => ⟨hk.same _ _ (by omega) h1 rfl,hk.same _ _ (Nat.le_refl _) h2 rfl⟩
 obtain ⟨W1,hW1⟩ : ∃ W1,(w.alloc (.deferred (some []))).alloc (.loop (rec_ .ready none)) = W1 := ⟨_,rfl⟩;have hs1 : W1.heap.size = B + 2 := by rw [← hW1];simp [hB]
 have hL1 : W1.heap[B + 1]? = some (.loop (rec_ .ready none)) := by
  rw [← hW1];have h := World.alloc_heap_new (w.alloc (.deferred (some []))) (.loop (rec_ .ready none))
  rwa [World.size_alloc,hB] at h
 have hK1 : W1.heap[B]? = some (.deferred (some [])) := by
  rw [← hW1,← hB];exact (Below.heap_alloc _ _ _ (by simp)).trans (World.alloc_heap_new w _)
 have hI1 : I s0 W1 := by rw [← hW1];exact hI.alloc _ (hI.alloc _ h0)
 have hb1 : Below w0.heap.size w0 W1 := by
  rw [← hW1];exact hb0.trans ((((Below.refl _ w).alloc (Nat.le_refl _) _).alloc (by simp) _).mono hb0.size)
 refine ⟨B + 1,[{ target := .collected B,args := #[] }],W1,{ target := .fn (.func gf) lb,args := #[.func (.yield (B + 1)) #[] #[]] },W1,gf,#[.func (.yield (B + 1)) #[] #[]] ++ lb,W1,?_,?_,?_,?_,fun _ => h1,?_⟩
 ·rw [← hW1]
  have h := run_enterLoop_outer (P := P) (w := w) fn a.tmps ps assign body;rw [hB] at h;exact h
 ·simp only [resolve,hg];simp [go_sem]
 ·intro f' hf';simp [Target.leads] at hf';subst hf';exact hFg
 ·simp [invoke,go_sem,eg]
 ·have hw2 : ∀ {X : World} {row : Option Nat},(∀ r,row = some r → W1.heap.size ≤ r ∧ ∃ o : Obj,X.heap[r]? = some o ∧ o.isWalk = true) → (∀ r,row = some r → B ≤ r ∧ ∃ o : Obj,X.heap[r]? = some o ∧ o.isCells = false) := fun hr r e => by
   obtain ⟨h1,o,ho,hw⟩ := hr r e;exact ⟨by omega,o,ho,Obj.not_cells_of_walk hw⟩
  refine (hseq (B + 1) (fun s X => I s X ∧ X.heap[B + 1]? = some (.loop (rec_ .ready none)) ∧ X.heap[B]? = some (.deferred (some []))) (fun s X => ∃ c,Ix c s X ∧ X.heap[B + 1]? = some (.loop (rec_ .done (some c))) ∧ X.heap[B]? = some (.deferred (some [])))
   W1 hb1 (fun s X h => h.1) ?_ ?_ ?_ ?_ ⟨hI1,hL1,hK1⟩).mono ?_
  ·rintro s X Y row ⟨h1,h2,h3⟩ hg' hr
   exact ⟨hI s X Y row h1 hg' (hw2 hr),(grownBy_keeps hg' (fun r e => (hr r e).2) h2 rfl).trans h2,(grownBy_keeps hg' (fun r e => (hr r e).2) h3 rfl).trans h3⟩
  ·rintro s X Y row ⟨c,h1,h2,h3⟩ hg' hr
   exact ⟨c,hIx c s X Y row h1 hg' (hw2 hr),(grownBy_keeps hg' (fun r e => (hr r e).2) h2 rfl).trans h2,(grownBy_keeps hg' (fun r e => (hr r e).2) h3 rfl).trans h3⟩
  ·rintro s X Y ⟨h1,h2,h3⟩ hm
   obtain ⟨h4,h5⟩ := key X h2 h3 Y (hMv s X Y hm);exact ⟨hIm s X Y h1 hm,h4,h5⟩
  ·rintro s vs s' X ⟨hi,hl,hk⟩ hT
   refine ⟨fn,_,assign,body,run_yield (P := P) hl (hps s vs s' X hT),roundIn_of_wpIn hfn (hassign _ s vs s' X _ hi hT ?_)⟩;intro a' X1 hk1 hax;obtain ⟨hl1,hd1⟩ := key X hl hk X1 hk1;have hlt : B + 1 < X1.heap.size := heap_lt hl1;refine ⟨_,run_beginRound hl1 rfl,?_⟩;have hl2 : (X1.putObj (B + 1) (.loop { rec_ .ready none with state := .busy })).heap[B + 1]? = some (.loop { rec_ .ready none with state := .busy }) := World.putObj_heap_same hlt;have hd2 : (X1.putObj (B + 1) (.loop { rec_ .ready none with state := .busy })).heap[B]? = some (.deferred (some [])) := (World.putObj_heap_other (by omega)).trans hd1;refine wpIn_mono (hbody _ s' a' _ (by omega) ((hAx s' a').putObj (s := ()) _ hax (by omega) hl1 rfl)) ?_;intro e a3 X3 hp
   have fin : ∀ jump : Option Code,KeepsFrom B (X1.putObj (B + 1) (.loop { rec_ .ready none with state := .busy })) X3 → X3.heap[B + 1]? = some (.loop { rec_ .ready none with state := .busy }) ∧
     (X3.putObj (B + 1) (.loop (rec_ (if jump.isNone then .ready else .done) jump))).heap[B + 1]? = some (.loop (rec_ (if jump.isNone then .ready else .done) jump)) ∧
     (X3.putObj (B + 1) (.loop (rec_ (if jump.isNone then .ready else .done) jump))).heap[B]? = some (.deferred (some [])) := fun jump hk3 => by
    have hl3 := hk3.same _ _ (by omega) hl2 rfl;exact ⟨hl3,World.putObj_heap_same (heap_lt hl3),(World.putObj_heap_other (by omega)).trans (hk3.same _ _ (Nat.le_refl _) hd2 rfl)⟩
   have out : ∀ c : Code,KeepsFrom B (X1.putObj (B + 1) (.loop { rec_ .ready none with state := .busy })) X3 → Ix c s' X3 → (∃ c',Ix c' s' (X3.putObj (B + 1) (.loop (rec_ .done (some c)))) ∧ (X3.putObj (B + 1) (.loop (rec_ .done (some c)))).heap[B + 1]? = some (.loop (rec_ .done (some c'))) ∧ (X3.putObj (B + 1) (.loop (rec_ .done (some c)))).heap[B]? = some (.deferred (some []))) := fun c hk3 hi3 => by
    obtain ⟨hl3,hl4,hd4⟩ := fin (some c) hk3;exact ⟨c,(hIx c).putObj _ hi3 (by omega) hl3 rfl,hl4,hd4⟩
   cases e with
   | normal =>
    obtain ⟨hl3,hl4,hd4⟩ := fin none hp.1;exact ⟨_,_,run_endRound (P := P) none hl3,.inl ⟨rfl,hI.putObj _ hp.2 (by omega) hl3 rfl,hl4,hd4⟩⟩
   | ret => exact ⟨_,_,run_endRound (P := P) (some .ret) (fin (some .ret) hp.1).1,.inr ⟨rfl,out _ hp.1 hp.2⟩⟩
   | exit id => exact ⟨_,_,run_endRound (P := P) (some (.exit id)) (fin (some (.exit id)) hp.1).1,.inr ⟨rfl,out _ hp.1 hp.2⟩⟩
   | goto t => exact hp.elim
   | panic ch => exact hp.elim
   | outgrown => exact hp.elim
  ·rintro e W2 ⟨⟨v,rfl⟩,(⟨s,hS,hi,hl,hk⟩ | ⟨s,c,hi,hl,hk⟩)⟩
   ·exact ⟨none,_,run_endLoop (P := P) hl (by intro h;cases h),hdone B s _ (Nat.le_refl _) hS (hI.putObj _ hi (by omega) hl rfl) ((World.putObj_heap_other (by omega)).trans hk)⟩
   ·exact ⟨some c,_,run_endLoop (P := P) hl (by intro h;cases h),hstop B c s _ (Nat.le_refl _) ((hIx c).putObj _ hi (by omega) hl rfl) ((World.putObj_heap_other (by omega)).trans hk)⟩
end
end Go.Proofs.YtifejdpffkeniaaGreatDoor
