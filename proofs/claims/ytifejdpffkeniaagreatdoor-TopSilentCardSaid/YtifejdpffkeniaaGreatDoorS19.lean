import Derived.StillTailTactics
import Derived.Test.YtifejdpffkeniaaGreatDoorS18
import Derived.Test.YtifejdpffkeniaaGreatDoorS12
set_option linter.unusedVariables false
set_option maxRecDepth 100000
set_option maxHeartbeats 40000000
namespace Go.Proofs.YtifejdpffkeniaaGreatDoor
open Go.RowKit
attribute [local go_sem] Oper.semAt_some
theorem rd_rowN {W : World} {g : Nat} {t : TypeId} {cs : List Value} (h : Row W g t cs) : Rd W (g + 1) 1 (some ⟨g,0,none⟩) cs.length cs :=
 ⟨by simp,fun _ => ⟨_,_,rfl,Nat.lt_succ_self _,fun j u hu => by rw [Nat.zero_add];exact h.cell hu⟩⟩
structure Pr where
 k : Int
 no : Int
 d : Nat
 f : Nat
instance : Inhabited Pr := ⟨⟨0,0,0,0⟩⟩
def Pr.cells (p : Pr) : List Value := [.int .i64 p.k,.int .i64 p.no,.int .i64 (Gm.pw p.d : Int),.int .i64 (Gm.pw p.f : Int)]
theorem Pr.cells_length (p : Pr) : p.cells.length = 4 := rfl
structure Pr.ok (p : Pr) : Prop where
 k0 : 0 ≤ p.k
 k1 : p.k < 64
 n0 : 0 ≤ p.no
 n1 : p.no < 4096
def prI (p : Pr) : List Int := [p.k,p.no,(Gm.pw p.d : Int),(Gm.pw p.f : Int)]
theorem prI_rng {p : Pr} (h : p.ok) : ∀ z ∈ prI p,-9223372036854775808 ≤ z ∧ z < 9223372036854775808 := by
 intro z hz;have := h.k0;have := h.k1;have := h.n0;have := h.n1;have := Gm.pw_lt p.d;have := Gm.pw_lt p.f;simp [prI] at hz
 rcases hz with rfl | rfl | rfl | rfl <;> omega
def prE (p : Pr) : List Int := encI (prI p)
def allE (ps : List Pr) : List Int := encL (ps.map prE)
theorem allE_len : ∀ {ps : List Pr},(∀ p ∈ ps,p.ok) → (ps.map prE).flatten.length ≤ 60 * ps.length
 | [],_ => by simp
 | p :: ps,h => by
  have h1 := allE_len (ps := ps) fun q hq => h q (by simp [hq]);have h2 := encI_len (prI_rng (h p (by simp))) (by show 4 ≤ 1000;decide);have h3 : (prI p).length = 4 := rfl;simp only [List.map_cons,List.flatten_cons,List.length_append,List.length_cons];unfold prE;unfold prE at h1;omega
theorem allE_len2 {ps : List Pr} (h : ∀ p ∈ ps,p.ok) (hl : ps.length ≤ 64) : (allE ps).length ≤ 4000 := by
 have := allE_len h;have := encL_len (ps.map prE) (by rw [List.length_map];omega);unfold allE;omega
def bndEs (c0 : Int) (tx : List Int) (ps : List Pr) (k : Int) : List (List Int) := [leafE (.int c0),leafE (.txt (toBA tx)),allE ps,leafE (.int k)]
def bnd (K : Sh.Cst) (c0 : Int) (tx : List Int) (ps : List Pr) (k : Int) : Int := Sh.hash K [98,105,110,100] (encL (bndEs c0 tx ps k))
def chlEs (pt c0 : Int) (tx : List Int) : List (List Int) := [leafE (.int pt),leafE (.int c0),leafE (.txt (toBA tx))]
def chl (K : Sh.Cst) (pt c0 : Int) (tx : List Int) : Int := Sh.hash K [115,105,103,110] (encL (chlEs pt c0 tx))
theorem byts_allE (ps : List Pr) : Byts (allE ps) := byts_encL fun e he => by
 obtain ⟨p,_,rfl⟩ := List.mem_map.1 he;exact encI_byts _
structure We where
 ky : Ky
 tx : List Int
 TA : Option Addr
 tc : Nat
 ps : List Pr
 PA : Option Addr
 pc : Nat
structure We.ok (e : We) (W : World) (B : Nat) : Prop where
 ky : e.ky.ok W B
 tx : Rd W B 1 e.TA e.tx.length (e.tx.map (Value.int .u8))
 tl : e.tx.length ≤ 2000
 ps : Rd W B 4 e.PA e.ps.length (e.ps.flatMap Pr.cells)
 pk : ∀ p ∈ e.ps,p.ok
 pi : (e.ps.map Pr.k).Pairwise (· < ·)
 p0 : 1 ≤ e.ps.length
 pl : e.ps.length ≤ 64
 la : Laid W
theorem We.ok.below {e : We} {W W' : World} {B : Nat} (h : e.ok W B) (hb : Below B W W') (hB : 2 ≤ B) : e.ok W' B := ⟨h.ky.below hb,h.tx.below hb,h.tl,h.ps.below hb,h.pk,h.pi,h.p0,h.pl,h.la.below hb hB⟩
theorem We.ok.more {e : We} {W : World} {B B' : Nat} (h : e.ok W B) (hB : B ≤ B') : e.ok W B' := ⟨h.ky.more hB,h.tx.more hB,h.tl,h.ps.more hB,h.pk,h.pi,h.p0,h.pl,h.la⟩
theorem We.ok.go {e : We} {w W : World} {s : Nat} (hs : w.heap.size = s) (h : e.ok w w.heap.size) (hb : Below s w W) : e.ok W W.heap.size := by
 rw [← hs] at hb;exact (h.below hb h.la.size).more hb.size
abbrev We.c0 (e : We) : Int := cm e.ky.xs 0
def We.cells (e : We) (wv : Value) (AA : Option Addr) (n ac : Nat) (pt ch : Int) : List Value :=
 [.int .i64 0,.slice e.ky.RA e.ky.P.length e.ky.rc,.slice e.ky.OA e.ky.P.length e.ky.oc,.slice e.ky.CA e.ky.N e.ky.cc,.slice e.TA e.tx.length e.tc,.slice e.PA e.ps.length e.pc,wv,.int .i64 3,.int .i64 0,.string ⟨#[]⟩,.slice AA n ac,.int .i64 pt,.int .i64 ch]
structure Wk (K : Sh.Cst) (e : We) (g : Nat) (wv : Value) (AA : Option Addr) (ac : Nat) (pt ch : Int) (W : World) (B : Nat) : Prop where
 row : Row W g 127 (e.cells wv AA e.ps.length ac pt ch)
 lt : g < B
 fc : FC W B (.lst AA e.ps.length ac) 2
 wc : WC W B (.lst AA e.ps.length ac) (allE e.ps)
theorem Wk.below {K : Sh.Cst} {e : We} {g : Nat} {wv : Value} {AA : Option Addr} {ac : Nat} {pt ch : Int} {W W' : World} {B : Nat} (h : Wk K e g wv AA ac pt ch W B) (hb : Below B W W') : Wk K e g wv AA ac pt ch W' B := ⟨h.row.below hb h.lt,h.lt,h.fc.below hb,h.wc.below hb⟩
theorem Wk.more {K : Sh.Cst} {e : We} {g : Nat} {wv : Value} {AA : Option Addr} {ac : Nat} {pt ch : Int} {W : World} {B B' : Nat} (h : Wk K e g wv AA ac pt ch W B) (hB : B ≤ B') : Wk K e g wv AA ac pt ch W B' := ⟨h.row,Nat.lt_of_lt_of_le h.lt hB,h.fc.more hB,h.wc.more hB⟩
theorem leaf_ok_int (z : Int) (h : -9223372036854775808 ≤ z ∧ z < 9223372036854775808) : leafOk (.int z) := h
theorem cm_rng (xs : List Int) (j : Nat) : 0 ≤ cm xs j ∧ cm xs j < 2147483579 := by
 have := Gm.pw_lt (xs.getD j 0).toNat;unfold cm;omega
theorem pbind_any (K : Sh.Cst) (e : We) (p : Pr) (g : Nat) (wv : Value) (AA : Option Addr) (ac : Nat) (pt ch : Int) (w : World) (h : e.ok w w.heap.size) (hw : Wk K e g wv AA ac pt ch w w.heap.size) (hp : p.ok) :
  Calls Tryz.prog 53 #[.pointer (some ⟨g,0,none⟩),.agg #[.int .i64 p.k,.int .i64 p.no,.int .i64 (Gm.pw p.d : Int),.int .i64 (Gm.pw p.f : Int)]] w fun r w' => r = .returned (.int .i64 (bnd K e.c0 e.tx e.ps p.k)) ∧ Below w.heap.size w w' := by
 obtain ⟨s,hs⟩ : ∃ s,w.heap.size = s := ⟨_,rfl⟩;have hc0 := cm_rng e.ky.xs 0
 have hHH : ∀ W b,Below s w W → Row W b 20 ([Av.int e.c0,.byt e.TA e.tx.length e.tc e.tx,.lst AA e.ps.length ac,.int p.k].map Av.cell) → Calls Tryz.prog 106 #[.string ⟨#[98,105,110,100]⟩,.slice (some ⟨b,0,none⟩) 4 4] W fun r w' => r = .returned (.int .i64 (bnd K e.c0 e.tx e.ps p.k)) ∧ Below W.heap.size W w' := fun W b hW hr => by
  rw [← hs] at hW;have hts : leafOk (.txt (toBA e.tx)) := by show (toBA e.tx).size ≤ 2000;rw [toBA_size];exact h.tl
  have hci : leafOk (.int e.c0) := leaf_ok_int _ (by unfold We.c0;omega);have hki : leafOk (.int p.k) := leaf_ok_int _ (by have := hp.k0;have := hp.k1;omega);have hfa := (hw.fc.below hW).more hW.size;have hwa := (hw.wc.below hW).more hW.size;refine phash_any K ⟨#[98,105,110,100]⟩ (some ⟨b,0,none⟩) 4 4 [Av.int e.c0,.byt e.TA e.tx.length e.tc e.tx,.lst AA e.ps.length ac,.int p.k] (bndEs e.c0 e.tx e.ps p.k) (fun k => if k = 2 then 2 else 0) W (by decide) rfl (by decide) (by decide) ((rd_rowN hr).more hr.lt) ?_ (h.la.below hW h.la.size) ?_ (fun k _ => by split <;> decide) ?_ rfl ?_ ?_
  ·intro a ha
   simp at ha
   rcases ha with rfl | rfl | rfl | rfl
   ·trivial
   ·exact (h.tx.below hW).more hW.size
   ·trivial
   ·trivial
  ·intro k x hx
   match k,hx with
   | 0,hx => cases hx;exact fc_int _ _ _
   | 1,hx => cases hx;exact fc_txt _ _ _
   | 2,hx => cases hx;exact hfa
   | 3,hx => cases hx;exact fc_int _ _ _
   | k + 4,hx => exact absurd hx (by simp)
  ·intro k x hx
   match k,hx with
   | 0,hx => cases hx;exact leaf_wc hci
   | 1,hx => cases hx;exact leaf_wc hts
   | 2,hx => cases hx;exact hwa
   | 3,hx => cases hx;exact leaf_wc hki
   | k + 4,hx => exact absurd hx (by simp)
  ·have h1 := leafE_len hts
   have h2 := leafE_len hci;have h3 := leafE_len hki;have h4 := allE_len2 h.pk h.pl;show (leafE _ ++ (leafE _ ++ (allE e.ps ++ (leafE _ ++ [])))).length ≤ 90000;simp only [List.length_append,List.length_nil];omega
  ·intro x hx
   simp [bndEs] at hx
   rcases hx with rfl | rfl | rfl | rfl
   ·exact byts_leaf _
   ·exact byts_leaf _
   ·exact byts_allE _
   ·exact byts_leaf _
 have HH := Lib.hid hHH;obtain ⟨_,b0,o0,eCA,_,hcc⟩ := i64at (k := 0) h.ky.com (by have := h.ky.n0;omega);have hN := h.ky.n0
 have HC : Hid (∀ W,Below s w W → W.cell? ⟨b0,o0,none⟩ = some (.int .i64 e.c0)) := fun W hW => by
  rw [← hs] at hW;have := hcc 0 (by omega) W hW;rw [cms_get _ (by omega)] at this;exact this
 have HB : Hid (Below s w (w.alloc (.cells #[.int .i64 p.k,.int .i64 p.no,.int .i64 (Gm.pw p.d : Int),.int .i64 (Gm.pw p.f : Int)] 56)) ∧ Row (w.alloc (.cells #[.int .i64 p.k,.int .i64 p.no,.int .i64 (Gm.pw p.d : Int),.int .i64 (Gm.pw p.f : Int)] 56)) s 56 p.cells ∧ Row (w.alloc (.cells #[.int .i64 p.k,.int .i64 p.no,.int .i64 (Gm.pw p.d : Int),.int .i64 (Gm.pw p.f : Int)] 56)) g 127 (e.cells wv AA e.ps.length ac pt ch)) := ⟨by rw [← hs];exact (Below.refl _ w).alloc (Nat.le_refl _) _,Row.fresh' _ _ _ hs,hw.row.alloc _⟩;generalize bnd K e.c0 e.tx e.ps p.k = R at HH ⊢;unfold We.cells at HB;rw [eCA] at HB;generalize e.c0 = c0 at HH HC;obtain ⟨⟨N,P,RA,rc,OA,oc,rs,xs,CA,cc⟩,tx,TA,tc,ps,PA,pc⟩ := e;obtain ⟨k,no,d,f⟩ := p;dsimp only at HH HB hN ⊢;generalize (Gm.pw d : Int) = D at HB ⊢;generalize (Gm.pw f : Int) = F at HB ⊢;generalize P.length = pn at HB;generalize tx.length = tn at HB HH;generalize ps.length = sn at HB HH;have HS := Lib.hid hs;clear hcc eCA hc0 h hw hp hs hHH;go_enter Tryz.func53,Tryz.ntmps53
 go_wp2_with fail
 rw [HS.out];generalize w.alloc (.cells #[.int .i64 k,.int .i64 no,.int .i64 D,.int .i64 F] 56) = w1 at HB ⊢;have p0 := HB.out.2.1.cell (i := 0) rfl;have g3 := HB.out.2.2.cell (i := 3) rfl;have g4 := HB.out.2.2.cell (i := 4) rfl;have g7 := HB.out.2.2.cell (i := 7) rfl;have g8 := HB.out.2.2.cell (i := 8) rfl;have g9 := HB.out.2.2.cell (i := 9) rfl;have g10 := HB.out.2.2.cell (i := 10) rfl;have hc := HC.out w1 HB.out.1;have hN1 : (0 : Int) < (N : Int) := by omega
 have hN2 : 0 < N := by omega
 have hN3 : decide (0 < N) = true := decide_eq_true hN2
 go_still_tail 21,(by kernel_rfl)
 change wpList _ _ _ _ _ w1.drew;have HB2 : Hid (Below s w w1.drew ∧ s < w1.drew.heap.size) := ⟨HB.out.1.drew,HB.out.2.1.lt⟩;clear p0 g3 g4 g7 g8 g9 g10 hc HB;generalize w1.drew = w2 at HB2 ⊢
 go_wp2_with fail
 refine (HH.out _ w2.heap.size (HB2.out.1.alloc (by have := HB2.out.2;omega) _) (Row.fresh w2 20 _)).mono ?_;rintro r w3 ⟨rfl,hb⟩
 have HF : Hid (Below w.heap.size w w3) := by
  show Below _ _ _;rw [HS.out];exact (HB2.out.1.alloc (by have := HB2.out.2;omega) _).trans (hb.mono (by have := HB2.out.2;simp;omega))
 clear hb;go_wp2;go_ret;exact ⟨rfl,HF.out⟩
def nze (K : Sh.Cst) (c0 : Int) (tx : List Int) (ps : List Pr) (p : Pr) : Nat := p.d + p.f * (bnd K c0 tx ps p.k % 1073741789).toNat
def pte (K : Sh.Cst) (c0 : Int) (tx : List Int) (ps : List Pr) : Nat → Nat
 | 0 => 0
 | j + 1 => pte K c0 tx ps j + nze K c0 tx ps (ps.getD j default)
theorem Row.load {W : World} {g : Nat} {t : TypeId} {cs : List Value} (h : Row W g t cs) (o : Nat) {ds : List Value} (hd : (cs.drop o).take ds.length = ds) : ∀ (j : Nat) (v : Value),ds[j]? = some v → W.cell? ((⟨g,o,none⟩ : Addr).add j) = some v := fun j v hv => by
 have hj := (List.getElem?_eq_some_iff.1 hv).1
 have h1 : cs[o + j]? = some v := by
  rw [← hd,List.getElem?_take,if_pos hj,List.getElem?_drop] at hv;exact hv
 have h2 := h.cell h1
 by_cases e : j = 0
 ·subst e
  exact h2
 ·simpa [Addr.add,e] using h2
theorem pr_at {w : World} {B n : Nat} {A : Option Addr} {l : List Pr} (hr : Rd w B 4 A n (l.flatMap Pr.cells)) (hn : l.length = n) {k : Nat} (hk : k < n) : ∃ b o,A = some ⟨b,o,none⟩ ∧ b < B ∧ ∀ j,j < n → ∀ i v,(l.getD j default).cells[i]? = some v → ∀ W,Below B w W → W.cell? ⟨b,o + j * 4 + i,none⟩ = some v := by
 obtain ⟨b,o,e,hb,hc⟩ := hr.2 (by omega);refine ⟨b,o,e,hb,fun j hj i v hv W hW => ?_⟩;have hi : i < 4 := by have := (List.getElem?_eq_some_iff.1 hv).1;rwa [Pr.cells_length] at this
 rw [Nat.add_assoc,hW.cell (p := ⟨b,o + (j * 4 + i),none⟩) hb];have hx : l[j]? = some (l.getD j default) := by rw [List.getD_eq_getElem?_getD,List.getElem?_eq_getElem (by omega)];rfl
 exact hc (j * 4 + i) v (by rw [flat_at Pr.cells 4 Pr.cells_length l j i _ hx hi,hv])
theorem nonce_any (K : Sh.Cst) (e : We) (p : Pr) (g : Nat) (wv : Value) (AA : Option Addr) (ac : Nat) (pt ch : Int) (w : World) (h : e.ok w w.heap.size) (hw : Wk K e g wv AA ac pt ch w w.heap.size) (hp : p.ok) :
  Calls Tryz.prog 105 #[.pointer (some ⟨g,0,none⟩),.agg #[.int .i64 p.k,.int .i64 p.no,.int .i64 (Gm.pw p.d : Int),.int .i64 (Gm.pw p.f : Int)]] w fun r w' => r = .returned (.int .i64 (Gm.pw (nze K e.c0 e.tx e.ps p) : Int)) ∧ Below w.heap.size w w' := by
 obtain ⟨s,hs⟩ : ∃ s,w.heap.size = s := ⟨_,rfl⟩
 have HB : Hid (∀ W,Below s w W → Calls Tryz.prog 53 #[.pointer (some ⟨g,0,none⟩),.agg #[.int .i64 p.k,.int .i64 p.no,.int .i64 (Gm.pw p.d : Int),.int .i64 (Gm.pw p.f : Int)]] W fun r w' => r = .returned (.int .i64 (bnd K e.c0 e.tx e.ps p.k)) ∧ Below W.heap.size W w') := fun W hW =>
  pbind_any K e p g wv AA ac pt ch W (h.go hs hW) (by rw [← hs] at hW;exact (hw.below hW).more hW.size) hp
 have HP : Hid (∀ W,Calls Tryz.prog 52 #[.int .i64 (Gm.pw p.f : Int),.int .i64 (bnd K e.c0 e.tx e.ps p.k)] W fun r w' => r = .returned (.int .i64 (Gm.pw (p.f * (bnd K e.c0 e.tx e.ps p.k % 1073741789).toNat) : Int)) ∧ Below W.heap.size W w') := fun W => by
  have hr := hash_rng K [98,105,110,100] (encL (bndEs e.c0 e.tx e.ps p.k));exact ppower_any p.f _ W hr.1 hr.2
 have HM : Hid (∀ W,Calls Tryz.prog 63 #[.int .i64 (Gm.pw p.d : Int),.int .i64 (Gm.pw (p.f * (bnd K e.c0 e.tx e.ps p.k % 1073741789).toNat) : Int)] W fun r w' => r = .returned (.tuple #[.int .i64 (Gm.pw (nze K e.c0 e.tx e.ps p) : Int),.int .i64 0]) ∧ W = w') := fun W => mul_gany _ _ W;have HR : Hid (Below s w (w.alloc (.cells #[.int .i64 p.k,.int .i64 p.no,.int .i64 (Gm.pw p.d : Int),.int .i64 (Gm.pw p.f : Int)] 56)) ∧ Row (w.alloc (.cells #[.int .i64 p.k,.int .i64 p.no,.int .i64 (Gm.pw p.d : Int),.int .i64 (Gm.pw p.f : Int)] 56)) s 56 p.cells) := ⟨by rw [← hs];exact (Below.refl _ w).alloc (Nat.le_refl _) _,Row.fresh' _ _ _ hs⟩;generalize (Gm.pw (nze K e.c0 e.tx e.ps p) : Int) = R at HM ⊢;generalize (Gm.pw (p.f * (bnd K e.c0 e.tx e.ps p.k % 1073741789).toNat) : Int) = Y at HP HM;generalize bnd K e.c0 e.tx e.ps p.k = X at HB HP;obtain ⟨k,no,d,f⟩ := p;dsimp only at HB HP HM HR ⊢;unfold Pr.cells at HR;dsimp only at HR;generalize (Gm.pw d : Int) = D at HB HM HR ⊢;generalize (Gm.pw f : Int) = F at HB HP HR ⊢;have HS := Lib.hid hs;clear h hw hp hs;go_enter Tryz.func105,Tryz.ntmps105
 go_wp2_with fail
 rw [HS.out];generalize w.alloc (.cells #[.int .i64 k,.int .i64 no,.int .i64 D,.int .i64 F] 56) = w1 at HR ⊢;have p0 := HR.out.2.cell (i := 0) rfl;have p1 := HR.out.2.cell (i := 1) rfl;have p2 := HR.out.2.cell (i := 2) rfl;have p3 := HR.out.2.cell (i := 3) rfl;have hC0 : Row w1.drew s 56 [.int .i64 k,.int .i64 no,.int .i64 D,.int .i64 F] := HR.out.2;have HB2 : Hid (Below s w w1.drew) := HR.out.1.drew;clear p0 p1 p2 p3 HR;rename_i Kz hKz;refine wp_region_treeCW (fun (i : Nat) (W : World) => Row W s 56 [.int .i64 k,.int .i64 no,.int .i64 D,.int .i64 F]) (.take 0 (.take 1 (.take 2 (.take 3 (.take 4 (.take 5 (.one 6 (.one 7 (.one 8 (.take 9 (.take 10 (.take 11 (.take 12 (.take 13 .done)))))))))))))) (by kernel_rfl) (by kernel_rfl) (by kernel_rfl) (by kernel_rfl) (by kernel_rfl) ?_;generalize w1.drew = w2 at HB2 hC0 ⊢
 iterate 5 (refine wpOTC_take rfl _ (by rfl) (fun _ => rfl) (by intro w' hS;have p0 := hS.cell (i := 0) rfl;have p1 := hS.cell (i := 1) rfl;have p2 := hS.cell (i := 2) rfl;have p3 := hS.cell (i := 3) rfl;go_simp;try with_reducible rfl) hC0 fun KK hKK => ?_;go_simp;refine hKK _ ?_;clear hKK KK)
 refine wpOTC_take rfl _ (by rfl) (fun _ => rfl) (fun w' hS => run_load_exec 56 (.tmp 3) rfl ⟨s,0,none⟩ (by rfl) [.int .i64 k,.int .i64 no,.int .i64 D,.int .i64 F] _ (hS.load 0 rfl) Tryz.underlying56 (by rfl) (by kernel_rfl)) hC0 fun KK hKK => ?_;go_simp;refine hKK _ ?_;clear hKK KK;refine wpOTC_one _ rfl (by rfl) rfl fun KK hKK => ?_;go_simp;refine ⟨trivial,(callsIn_wide.2 (HB.out w2 HB2.out)).mono ?_⟩;rintro r w3 ⟨rfl,hb⟩;have HB3 : Hid (Below s w w3) := HB2.out.trans (hb.mono (by have := HB2.out.size;have := HS.out;omega));have hC3 : Row w3 s 56 [.int .i64 k,.int .i64 no,.int .i64 D,.int .i64 F] := hC0.below hb hC0.lt;refine hKK _ _ (fun _ _ => hC3) ?_;clear hKK KK hb;refine wpOTC_one _ rfl (by rfl) rfl fun KK hKK => ?_;go_simp;refine ⟨trivial,(callsIn_wide.2 (HP.out w3)).mono ?_⟩;rintro r w4 ⟨rfl,hb⟩
 have HB4 : Hid (Below w.heap.size w w4) := by
  show Below _ _ _;rw [HS.out];exact HB3.out.trans (hb.mono (by have := HB3.out.size;have := HS.out;omega))
 have hC4 : Row w4 s 56 [.int .i64 k,.int .i64 no,.int .i64 D,.int .i64 F] := hC3.below hb hC3.lt;refine hKK _ _ (fun _ _ => hC4) ?_;clear hKK KK hb;refine wpOTC_one _ rfl (by rfl) rfl fun KK hKK => ?_;go_simp;refine ⟨trivial,(callsIn_wide.2 (HM.out w4)).mono ?_⟩;rintro r w5 ⟨rfl,rfl⟩;refine hKK _ _ (fun _ _ => hC4) ?_
 iterate 5 (clear hKK KK;refine wpOTC_take rfl _ (by rfl) (fun _ => rfl) (by intro w' hS;skip;go_simp;try with_reducible rfl) hC4 fun KK hKK => ?_;go_simp;refine hKK _ ?_)
 clear hKK KK;refine wpOTC_done ?_;show Kz _ _;refine hKz _ _ ?_;go_wp2;go_ret;exact ⟨rfl,HB4.out⟩
theorem productP_any (K : Sh.Cst) (e : We) (g : Nat) (wv : Value) (AA : Option Addr) (ac : Nat) (pt ch : Int) (w : World) (h : e.ok w w.heap.size) (hw : Wk K e g wv AA ac pt ch w w.heap.size) :
  Calls Tryz.prog 104 #[.slice e.PA e.ps.length e.pc,(.func (.func 105) #[.pointer (some ⟨g,0,none⟩)] #[])] w fun r w' => r = .returned (.int .i64 (Gm.pw (pte K e.c0 e.tx e.ps e.ps.length) : Int)) ∧ Below w.heap.size w w' := by
 obtain ⟨s,hs⟩ : ∃ s,w.heap.size = s := ⟨_,rfl⟩;obtain ⟨n,hn⟩ : ∃ n,e.ps.length = n := ⟨_,rfl⟩
 have HA : Hid (0 < n → ∃ b o,e.PA = some ⟨b,o,none⟩ ∧ ∀ j,j < n → ∀ W,Below s w W → ∀ i v,(e.ps.getD j default).cells[i]? = some v → W.cell? ⟨b,o + j * 4 + i,none⟩ = some v) := fun h0 => by
  obtain ⟨b,o,e1,_,hc⟩ := pr_at (k := 0) h.ps rfl (by omega);exact ⟨b,o,e1,fun j hj W hW i v hv => hc j (by omega) i v hv W (by rw [hs];exact hW)⟩
 have HC : Hid (∀ j,j < n → ∀ W,Below s w W → Calls Tryz.prog 105 #[.pointer (some ⟨g,0,none⟩),.agg (e.ps.getD j default).cells.toArray] W fun r w' => r = .returned (.int .i64 (Gm.pw (nze K e.c0 e.tx e.ps (e.ps.getD j default)) : Int)) ∧ Below W.heap.size W w') := fun j hj W hW =>
  nonce_any K e _ g wv AA ac pt ch W (h.go hs hW) (by rw [← hs] at hW;exact (hw.below hW).more hW.size) (h.pk _ (by rw [List.getD_eq_getElem?_getD,List.getElem?_eq_getElem (by omega)];exact List.getElem_mem _))
 have HM : Hid (∀ (j : Nat) W,Calls Tryz.prog 63 #[.int .i64 (Gm.pw (pte K e.c0 e.tx e.ps j) : Int),.int .i64 (Gm.pw (nze K e.c0 e.tx e.ps (e.ps.getD j default)) : Int)] W fun r w' => r = .returned (.tuple #[.int .i64 (Gm.pw (pte K e.c0 e.tx e.ps (j + 1)) : Int),.int .i64 0]) ∧ W = w') := fun j W => mul_gany _ _ W;have H0 : Hid ((1 : Int) = (Gm.pw (pte K e.c0 e.tx e.ps 0) : Int)) := by show (1 : Int) = ((Gm.pw 0 : Nat) : Int);rw [Gm.pw_zero];rfl
 have hl := h.pl;rw [hn] at hl ⊢;have HS := Lib.hid hs;generalize hPT : pte K e.c0 e.tx e.ps = PTE at HM H0 ⊢;generalize hNZ : nze K e.c0 e.tx e.ps = NZ at HM HC;obtain ⟨ky,tx,TA,tc,ps,PA,pc⟩ := e;dsimp only at HA HC HM ⊢;clear h hw hs hn hPT hNZ;rw [HS.out];go_enter Tryz.func104,Tryz.ntmps104
 go_wp2_with fail
 go_loopw [5,10] (fun t i wr => ∃ k : Nat,k ≤ n ∧ i = .int .i64 k ∧ t = .int .i64 (Gm.pw (PTE k) : Int) ∧ Below s w wr) (fun _ i _ => n - (intOf i).toNat)
 case atStart => exact ⟨0,Nat.zero_le _,rfl,by rw [← H0.out],by rw [← HS.out];exact Below.refl _ _⟩
 case round =>
  obtain ⟨k,hk,rfl,rfl,hb⟩ := hrel;have HB := Lib.hid hb;clear hb H0
  by_cases hlt : k < n
  ·have k1 : (k : Int) < (n : Int) := by omega
   have k0 : (0 : Int) ≤ (k : Int) := by omega
   obtain ⟨b,o,hA1,hcc⟩ := HA.out (by omega);subst hA1;have q0 := hcc k hlt wr HB.out 0 _ rfl;have q1 := hcc k hlt wr HB.out 1 _ rfl;have q2 := hcc k hlt wr HB.out 2 _ rfl;have q3 := hcc k hlt wr HB.out 3 _ rfl;have HCk := Lib.hid (HC.out k hlt);have HMk := Lib.hid (HM.out k);generalize (Gm.pw (NZ (ps.getD k default)) : Int) = Y at HCk HMk;generalize ps.getD k default = p at q0 q1 q2 q3 HCk;obtain ⟨pk,pno,pd,pf⟩ := p
   try dsimp only at q0 q1 q2 q3
   unfold Pr.cells at HCk
   try dsimp only at HCk
   rw [Nat.add_zero] at q0;generalize (Gm.pw pd : Int) = D at q2 HCk;generalize (Gm.pw pf : Int) = F at q3 HCk;generalize hE1 : (Gm.pw (PTE (k + 1)) : Int) = E1 at HMk;have HE1 := Lib.hid hE1;generalize (Gm.pw (PTE k) : Int) = E0 at HMk ⊢;clear hcc hE1
   go_wp2_with fail
   have hsz := HB.out.size;have hss := HS.out;have hbA : Below s w (wr.alloc (.cells #[.int .i64 pk,.int .i64 pno,.int .i64 D,.int .i64 F] 56)) := HB.out.alloc (by omega) _;refine (HCk.out _ hbA).mono ?_;rintro r w1 ⟨rfl,hb⟩;have HB1 : Hid (Below s w w1) := hbA.trans (hb.mono (by simp;omega));clear hb hbA hsz hss q0 q1 q2 q3
   go_wp2_with fail
   refine (HMk.out _).mono ?_;rintro r w2 ⟨rfl,rfl⟩
   go_wp2_with fail
   go_roundw
   case rel => exact ⟨k + 1,by omega,by go_num,by rw [HE1.out],HB1.out⟩
   case measure => simp [intOf];omega
  ·obtain rfl : k = n := by omega
   go_wp2;go_ret;exact ⟨rfl,HB.out⟩
theorem noI_any (fid : Nat) (hcf : ∀ args W,(callFunc fid args).run Tryz.prog W = .ok (.enter fid args) W) (A : Option Addr) (n c : Nat) (hn : n ≤ 4096) (p : Nat → Int) (I : Nat → World → Prop) (w : World) (h0 : I 0 w)
  (hA : 0 < n → ∃ b o,A = some ⟨b,o,none⟩ ∧ ∀ k,k < n → ∀ W,I k W → W.cell? ⟨b,o + k,none⟩ = some (.int .i64 (p k)))
  (hcall : ∀ k,k < n → ∀ W,I k W → Calls Tryz.prog fid #[.int .i64 (p k)] W fun r w' => r = .returned (.bool false) ∧ I (k + 1) w') :
  Calls Tryz.prog 126 #[.slice A n c,(.func (.func fid) #[] #[])] w fun r w' => r = .returned (.int .i64 (-1)) ∧ I n w' := by
 have HA := Lib.hid hA;have HC := Lib.hid hcall;have H0 := Lib.hid h0;clear hA hcall h0;go_enter Tryz.func126,Tryz.ntmps126;go_wp2
 go_loopw [8] (fun i wr => ∃ k : Nat,k ≤ n ∧ i = .int .i64 k ∧ I k wr) (fun i _ => n - (intOf i).toNat)
 case atStart => exact ⟨0,Nat.zero_le _,rfl,H0.out⟩
 case round =>
  clear H0;obtain ⟨k,hk,rfl,hi⟩ := hrel;have HI := Lib.hid hi;clear hi
  by_cases hlt : k < n
  ·have k1 : (k : Int) < (n : Int) := by omega
   have k0 : (0 : Int) ≤ (k : Int) := by omega
   obtain ⟨b,o,hA1,hcc⟩ := HA.out (by omega);subst hA1;have hcc := hcc k hlt wr HI.out;have hC := HC.out k hlt wr HI.out;obtain ⟨P0,hP0⟩ : ∃ P,p k = P := ⟨_,rfl⟩;rw [hP0] at hC hcc;have HC2 := Lib.hid hC;clear hC hP0 HA HC;obtain x0 := hcc
   go_wp2_with fail
   refine HC2.out.mono ?_;rintro x w1 ⟨rfl,hi1⟩;have HI1 := Lib.hid hi1;clear hi1;go_wp2;go_roundw
   case rel => exact ⟨k + 1,by omega,by go_num,HI1.out⟩
   case measure => simp [intOf];omega
  ·obtain rfl : k = n := by omega
   go_wp2;go_ret;exact ⟨rfl,HI.out⟩
theorem noC_any (fid : Nat) (hcf : ∀ args W,(callFunc fid args).run Tryz.prog W = .ok (.enter fid args) W) (A : Option Addr) (n c : Nat) (hn : n ≤ 4096) (p : Nat → Int) (I : Nat → World → Prop) (w : World) (h0 : I 0 w)
  (hA : 0 < n → ∃ b o,A = some ⟨b,o,none⟩ ∧ ∀ k,k < n → ∀ W,I k W → W.cell? ⟨b,o + k,none⟩ = some (.int .i64 (p k)))
  (hcall : ∀ k,k < n → ∀ W,I k W → Calls Tryz.prog fid #[.int .i64 (p k)] W fun r w' => r = .returned (.bool false) ∧ I (k + 1) w') :
  Calls Tryz.prog 79 #[.slice A n c,(.func (.func fid) #[] #[])] w fun r w' => r = .returned (.bool false) ∧ I n w' := by
 have HI := Lib.hid (noI_any fid hcf A n c hn p I w h0 hA hcall);clear hA hcall h0;go_enter Tryz.func79,Tryz.ntmps79
 go_wp2_with fail
 refine HI.out.mono ?_;rintro x w1 ⟨rfl,hi⟩;have HI1 := Lib.hid hi;clear hi;go_wp2;go_ret;exact ⟨rfl,HI1.out⟩
theorem pright1_any (e : Nat) (w : World) : Calls Tryz.prog 141 #[.int .i64 (Gm.pw e : Int)] w fun r w' => r = .returned (.bool false) ∧ w = w' := by
 have HV := Lib.hid (valid_any e w);generalize (Gm.pw e : Int) = X at HV ⊢;go_enter Tryz.func141,Tryz.ntmps141
 go_wp2_with fail
 refine HV.out.mono ?_;rintro r w1 ⟨rfl,rfl⟩;go_wp2;go_ret;exact ⟨rfl,rfl⟩
theorem find2_any (n : Int) (w : World) (h0 : 0 ≤ n) (h1 : n < 1073741789) : Calls Tryz.prog 109 #[.int .i64 n] w fun r w' => r = .returned (.bool false) ∧ w = w' := by
 have a0 : decide (n < 0) = false := decide_eq_false (by omega);have a1 : decide (1073741789 ≤ n) = false := decide_eq_false (by omega);go_enter Tryz.func109,Tryz.ntmps109;go_wp2;go_ret;exact ⟨rfl,rfl⟩
theorem pright_any (k : Ky) (w : World) (h : k.ok w w.heap.size) :
  Calls Tryz.prog 102 #[.agg #[.int .i64 0,.slice k.RA k.P.length k.rc,.slice k.OA k.P.length k.oc,.slice k.CA k.N k.cc]] w fun r w' => r = .returned (.bool true) ∧ Below w.heap.size w w' := by
 obtain ⟨s,hs⟩ : ∃ s,w.heap.size = s := ⟨_,rfl⟩
 have HCF : Hid (∀ W,Below s w W → Calls Tryz.prog 79 #[.slice k.CA k.N k.cc,.func (.func 141) #[] #[]] W fun r w' => r = .returned (.bool false) ∧ W = w') := fun W hW => by
  have h2 := h.go hs hW;refine noC_any 141 (fun _ _ => rfl) k.CA k.N k.cc (by have := h2.n1;omega) (fun j => cm k.xs j) (fun _ V => W = V) W rfl (fun h0 => ?_) (fun j hj V hV => ?_)
  ·obtain ⟨_,b,o,e1,_,hc⟩ := i64at h2.com h0
   refine ⟨b,o,e1,fun j hj V hV => ?_⟩;subst hV;rw [← cms_get k.xs hj];exact hc j hj _ (Below.refl _ _)
  ·subst hV
   exact pright1_any _ _
 have HRW : Hid (0 < k.P.length → ∃ b o A0 c0,k.RA = some ⟨b,o,none⟩ ∧ ∀ W,Below s w W → W.cell? ⟨b,o,none⟩ = some (.slice A0 k.N c0)) := fun hp => by
  obtain ⟨b,o,hRA,hb,hc⟩ := h.prg.rd.at (by rw [h.prg.len];exact hp);have hm := (getD_mem' (rs := k.rs) (k := 0) (by rw [h.prg.len];exact hp)).1;have hl := (h.prg.dat _ hm).len;refine ⟨b,o,(k.rs.getD 0 r0).A,(k.rs.getD 0 r0).c,hRA,fun W hW => ?_⟩;rw [← hs] at hW;have q0 := hc 0 (by rw [h.prg.len];exact hp) _ hW;rw [RI.cell_eq,hl,Nat.add_zero] at q0;exact q0
 have HB : Hid (Below s w (w.alloc (.cells #[.int .i64 0,.slice k.RA k.P.length k.rc,.slice k.OA k.P.length k.oc,.slice k.CA k.N k.cc] 45)) ∧ Row (w.alloc (.cells #[.int .i64 0,.slice k.RA k.P.length k.rc,.slice k.OA k.P.length k.oc,.slice k.CA k.N k.cc] 45)) s 45 (#[.int .i64 0,.slice k.RA k.P.length k.rc,.slice k.OA k.P.length k.oc,.slice k.CA k.N k.cc]).toList) := ⟨by rw [← hs];exact (Below.refl _ w).alloc (Nat.le_refl _) _,Row.fresh' _ _ _ hs⟩;have HN1 : Hid (k.P.length = 0 → k.N = 1) := fun e => h.e0 (List.length_eq_zero_iff.1 e);obtain ⟨N,P,RA,rc,OA,oc,rs,xs,CA,cc⟩ := k;have n1 : N ≤ 60 := h.n1;have HS := Lib.hid hs;dsimp only at HCF HRW HB HN1 ⊢;generalize P.length = n at HRW HB HN1 ⊢;clear h hs;rw [HS.out]
 by_cases hn : n = 0
 ·obtain rfl := HN1.out hn
  subst hn;clear HN1 HRW;have hN1 : ((1 : Nat) : Int) = 1 := rfl;have hN0 : ((0 : Nat) : Int) = 0 := rfl;go_enter Tryz.func102,Tryz.ntmps102
  go_wp2_with fail
  refine (HCF.out _ HB.out.1).mono ?_;rintro r w3 ⟨rfl,rfl⟩;go_wp2;go_ret;exact ⟨rfl,HB.out.1⟩
 ·obtain ⟨b,o,A0,c0,e,hc⟩ := HRW.out (by omega)
  subst e;have q0 := hc _ HB.out.1;have n2 : (0 : Int) < (n : Int) := by omega
  have n3 : 0 < n := by omega
  have n4 : decide (0 < n) = true := decide_eq_true n3;clear hc HN1 HRW;go_enter Tryz.func102,Tryz.ntmps102;rw [← HS.out] at HB HCF
  go_wp2_with fail
  refine (HCF.out _ HB.out.1).mono ?_;rintro r w3 ⟨rfl,rfl⟩;go_wp2;go_ret;rw [← HS.out];exact ⟨rfl,HB.out.1⟩
theorem find1_any (p : Pr) (kp : Int) (g : Nat) (w : World) (hg : Row w g 3 [.int .i64 kp]) :
  Calls Tryz.prog 108 #[.agg #[.int .i64 p.k,.int .i64 p.no,.int .i64 (Gm.pw p.d : Int),.int .i64 (Gm.pw p.f : Int)],.pointer (some ⟨g,0,none⟩)] w fun r w' => r = .returned (.bool (p.k == kp)) ∧ Below w.heap.size w w' := by
 have HB : Hid (Below w.heap.size w (w.alloc (.cells #[.int .i64 p.k,.int .i64 p.no,.int .i64 (Gm.pw p.d : Int),.int .i64 (Gm.pw p.f : Int)] 56))) := (Below.refl _ w).alloc (Nat.le_refl _) _;have q0 := hg.cell (i := 0) rfl;have l0 := hg.lt;go_enter Tryz.func108,Tryz.ntmps108;go_wp2;go_ret;exact ⟨rfl,HB.out⟩
theorem findix_any (ps : List Pr) (A : Option Addr) (n c i : Nat) (g : Nat) (w : World) (h : Rd w w.heap.size 4 A n (ps.flatMap Pr.cells)) (hl : ps.length = n) (hn : n ≤ 64) (hi : i < n) (hpi : (ps.map Pr.k).Pairwise (· < ·)) (hg : Row w g 3 [.int .i64 (ps.getD i default).k]) :
  Calls Tryz.prog 107 #[.slice A n c,.func (.func 108) #[] #[.pointer (some ⟨g,0,none⟩)]] w fun r w' => r = .returned (.int .i64 i) ∧ Below w.heap.size w w' := by
 obtain ⟨s,hs⟩ : ∃ s,w.heap.size = s := ⟨_,rfl⟩
 have HA : Hid (∃ b o,A = some ⟨b,o,none⟩ ∧ ∀ j,j < n → ∀ W,Below s w W → ∀ i v,(ps.getD j default).cells[i]? = some v → W.cell? ⟨b,o + j * 4 + i,none⟩ = some v) := by
  obtain ⟨b,o,e1,_,hc⟩ := pr_at (k := 0) h hl (by omega);exact ⟨b,o,e1,fun j hj W hW i v hv => hc j hj i v hv W (by rw [hs];exact hW)⟩
 have HNE : Hid (∀ j,j < i → ((ps.getD j default).k == (ps.getD i default).k) = false) := fun j hj => by
  have h1 := List.pairwise_iff_getElem.1 hpi j i (by simp;omega) (by simp;omega) hj;rw [List.getElem_map,List.getElem_map] at h1;rw [List.getD_eq_getElem?_getD,List.getD_eq_getElem?_getD,List.getElem?_eq_getElem (by omega),List.getElem?_eq_getElem (by omega)];simp only [Option.getD_some,beq_eq_false_iff_ne];omega
 have HC : Hid (∀ j,j < n → ∀ W,Below s w W → Calls Tryz.prog 108 #[.agg (ps.getD j default).cells.toArray,.pointer (some ⟨g,0,none⟩)] W fun r w' => r = .returned (.bool ((ps.getD j default).k == (ps.getD i default).k)) ∧ Below W.heap.size W w') := fun j hj W hW => find1_any _ _ g W (hg.below (by rw [hs];exact hW) hg.lt);have HS := Lib.hid hs;rw [hs];clear h hpi hg hs;go_enter Tryz.func107,Tryz.ntmps107
 go_wp2_with fail
 go_loopw [8] (fun t wr => ∃ k : Nat,k ≤ i ∧ t = .int .i64 k ∧ Below s w wr) (fun t _ => n - (intOf t).toNat)
 case atStart => exact ⟨0,Nat.zero_le _,rfl,by rw [← HS.out];exact Below.refl _ _⟩
 case round =>
  obtain ⟨k,hk,rfl,hb⟩ := hrel;have HB := Lib.hid hb;clear hb;have k1 : (k : Int) < (n : Int) := by omega
  have k0 : (0 : Int) ≤ (k : Int) := by omega
  obtain ⟨b,o,hA1,hcc⟩ := HA.out;subst hA1;have hkn : k < n := by omega
  have q0 := hcc k hkn wr HB.out 0 _ rfl;have q1 := hcc k hkn wr HB.out 1 _ rfl;have q2 := hcc k hkn wr HB.out 2 _ rfl;have q3 := hcc k hkn wr HB.out 3 _ rfl;rw [Nat.add_zero] at q0;have HCk := Lib.hid (HC.out k hkn wr HB.out)
  have HEQ : Hid (((ps.getD k default).k == (ps.getD i default).k) = decide (k = i)) := by
   show _ = _
   by_cases e : k = i
   ·subst e;simp
   ·rw [HNE.out k (by omega),decide_eq_false e]
  rw [HEQ.out] at HCk;unfold Pr.cells at HCk;generalize ps.getD k default = p at q0 q1 q2 q3 HCk;obtain ⟨pk,pno,pd,pf⟩ := p;dsimp only at HCk;generalize (Gm.pw pd : Int) = D at q2 HCk;generalize (Gm.pw pf : Int) = F at q3 HCk;clear hcc HA HNE HC
  by_cases e : k = i
  ·subst e
   rw [decide_eq_true rfl] at HCk
   go_wp2_with fail
   refine HCk.out.mono ?_;rintro r w1 ⟨rfl,hb⟩;have HB1 : Hid (Below s w w1) := HB.out.trans (hb.mono (by have := HB.out.size;have := HS.out;omega));clear hb;go_wp2;go_ret;exact ⟨rfl,HB1.out⟩
  ·rw [decide_eq_false e] at HCk
   go_wp2_with fail
   refine HCk.out.mono ?_;rintro r w1 ⟨rfl,hb⟩;have HB1 : Hid (Below s w w1) := HB.out.trans (hb.mono (by have := HB.out.size;have := HS.out;omega));clear hb;go_wp2;go_roundw
   case rel => exact ⟨k + 1,by omega,by go_num,HB1.out⟩
   case measure => simp [intOf];omega
theorem pfind_any (K : Sh.Cst) (e : We) (i : Nat) (g : Nat) (wv : Value) (AA : Option Addr) (ac : Nat) (pt ch : Int) (NA : Option Addr) (m nc : Nat) (L : List Int) (w : World) (h : e.ok w w.heap.size) (hw : Wk K e g wv AA ac pt ch w w.heap.size) (hi : i < e.ps.length) (hr : Rd w w.heap.size 1 NA m (ivs L)) (hm : m ≤ 4096) (hL : ∀ x ∈ L,0 ≤ x ∧ x < 1073741789) :
  Calls Tryz.prog 47 #[.pointer (some ⟨g,0,none⟩),.int .i64 (e.ps.getD i default).k,.slice NA m nc] w fun r w' => r = .returned (.tuple #[.agg #[.int .i64 (e.ps.getD i default).k,.int .i64 (e.ps.getD i default).no,.int .i64 (Gm.pw (e.ps.getD i default).d : Int),.int .i64 (Gm.pw (e.ps.getD i default).f : Int)],.int .i64 0]) ∧ Below w.heap.size w w' := by
 obtain ⟨s,hs⟩ : ∃ s,w.heap.size = s := ⟨_,rfl⟩
 have HIX : Hid (∀ W b,Below s w W → Row W b 3 [.int .i64 (e.ps.getD i default).k] → Calls Tryz.prog 107 #[.slice e.PA e.ps.length e.pc,.func (.func 108) #[] #[.pointer (some ⟨b,0,none⟩)]] W fun r w' => r = .returned (.int .i64 i) ∧ Below W.heap.size W w') := fun W b hW hb => by
  have h2 := h.go hs hW;exact findix_any e.ps e.PA _ e.pc i b W h2.ps rfl h2.pl hi h2.pi hb
 have HCF : Hid (∀ W,Below s w W → Calls Tryz.prog 79 #[.slice NA m nc,.func (.func 109) #[] #[]] W fun r w' => r = .returned (.bool false) ∧ W = w') := fun W hW => by
  have hl : L.length = m := by have := hr.1;simpa using this
  refine noC_any 109 (fun _ _ => rfl) NA m nc hm (fun j => L.getD j 0) (fun _ V => W = V) W rfl (fun h0 => ?_) (fun j hj V hV => ?_)
  ·obtain ⟨_,b,o,e1,_,hc⟩ := i64at hr h0
   refine ⟨b,o,e1,fun j hj V hV => ?_⟩;subst hV;exact hc j hj _ (by rw [hs];exact hW)
  ·subst hV
   have := hL (L.getD j 0) (by rw [List.getD_eq_getElem?_getD,List.getElem?_eq_getElem (by omega)];exact List.getElem_mem _);exact find2_any _ _ this.1 this.2
 have HPA : Hid (∃ b o,e.PA = some ⟨b,o,none⟩ ∧ ∀ W,Below s w W → ∀ t v,(e.ps.getD i default).cells[t]? = some v → W.cell? ⟨b,o + i * 4 + t,none⟩ = some v) := by
  obtain ⟨b,o,e1,_,hc⟩ := pr_at (k := i) h.ps rfl hi;exact ⟨b,o,e1,fun W hW t v hv => hc i hi t v hv W (by rw [hs];exact hW)⟩
 have hrow := hw.row;obtain ⟨z4,hz4⟩ : ∃ z : List Value,z = [.int .i64 0,.int .i64 0,.int .i64 0,.int .i64 0] := ⟨_,rfl⟩
 have HB : Hid (∀ W,W = (w.alloc (.cells #[.int .i64 (e.ps.getD i default).k] 3)).alloc (.cells #[.int .i64 0,.int .i64 0,.int .i64 0,.int .i64 0] 56) → Below s w W ∧ Row W s 3 [.int .i64 (e.ps.getD i default).k] ∧ Row W (s + 1) 56 [.int .i64 0,.int .i64 0,.int .i64 0,.int .i64 0] ∧ Row W g 127 (e.cells wv AA e.ps.length ac pt ch)) := fun W hW => by
  subst hW;exact ⟨by rw [← hs];exact ((Below.refl _ w).alloc (Nat.le_refl _) _).alloc (by simp) _,(Row.fresh' _ _ _ hs).alloc _,Row.fresh' _ _ _ (by simp [hs]),(hrow.alloc _).alloc _⟩
 have hin : (i : Int) < (e.ps.length : Int) := by omega
 have hi0 : (0 : Int) ≤ (i : Int) := by omega
 have hi1 : decide ((i : Int) < 0) = false := decide_eq_false (by omega);have hgl : g < w.heap.size := hw.lt;have g5 := hrow.cell (i := 5) rfl;obtain ⟨⟨N,P,RA,rc,OA,oc,rs,xs,CA,cc⟩,tx,TA,tc,ps,PA,pc⟩ := e;unfold We.cells at HB;dsimp only at HIX HPA HB hi hin g5 ⊢;unfold Pr.cells at HPA;generalize ps.getD i default = p at HIX HPA HB ⊢;obtain ⟨k,no,d,f⟩ := p;dsimp only at HIX HPA HB ⊢;generalize (Gm.pw d : Int) = D at HPA HB ⊢;generalize (Gm.pw f : Int) = F at HPA HB ⊢;generalize ps.length = n at HIX HB hi hin g5;have HS := Lib.hid hs;clear h hw hr hL hrow hz4 hs;rw [HS.out];go_enter Tryz.func47,Tryz.ntmps47
 go_wp2_with fail
 rw [HS.out];obtain ⟨w1,hw1⟩ : ∃ W,W = (w.alloc (.cells #[.int .i64 k] 3)).alloc (.cells #[.int .i64 0,.int .i64 0,.int .i64 0,.int .i64 0] 56) := ⟨_,rfl⟩;have HB1 := Lib.hid (HB.out w1 hw1);rw [← hw1];clear hw1 HB g5;refine (HIX.out w1 s HB1.out.1 HB1.out.2.1).mono ?_;rintro r w2 ⟨rfl,hb⟩;have hl1 := HB1.out.2.2.1.lt;have HB2 : Hid (Below s w w2 ∧ Row w2 (s + 1) 56 [.int .i64 0,.int .i64 0,.int .i64 0,.int .i64 0] ∧ Row w2 g 127 _) := ⟨HB1.out.1.trans (hb.mono (by omega)),HB1.out.2.2.1.below hb hl1,HB1.out.2.2.2.below hb HB1.out.2.2.2.lt⟩;clear hb HB1 hl1
 go_wp2_with fail
 refine (HCF.out w2 HB2.out.1).mono ?_;rintro r w3 ⟨rfl,rfl⟩;have g5 := HB2.out.2.2.cell (i := 5) rfl;obtain ⟨b,o,e1,hcc⟩ := HPA.out;subst e1;have q0 := hcc w2 HB2.out.1 0 _ rfl;have q1 := hcc w2 HB2.out.1 1 _ rfl;have q2 := hcc w2 HB2.out.1 2 _ rfl;have q3 := hcc w2 HB2.out.1 3 _ rfl;rw [Nat.add_zero] at q0;have x0 := HB2.out.2.1.cell (i := 0) rfl;have x1 := HB2.out.2.1.cell (i := 1) rfl;have x2 := HB2.out.2.1.cell (i := 2) rfl;have x3 := HB2.out.2.1.cell (i := 3) rfl;have y0 := HB2.out.2.1.fz 0;have y1 := HB2.out.2.1.fz 1;have y2 := HB2.out.2.1.fz 2;have y3 := HB2.out.2.1.fz 3;have hr9 := (((HB2.out.2.1.put 0 (.int .i64 k)).put 1 (.int .i64 no)).put 2 (.int .i64 D)).put 3 (.int .i64 F);have hb9 := (((HB2.out.1.setCell (p := ⟨s + 1,0,none⟩) (Nat.le_succ s) (.int .i64 k)).setCell (p := ⟨s + 1,1,none⟩) (Nat.le_succ s) (.int .i64 no)).setCell (p := ⟨s + 1,2,none⟩) (Nat.le_succ s) (.int .i64 D)).setCell (p := ⟨s + 1,3,none⟩) (Nat.le_succ s) (.int .i64 F);have H9 := Lib.hid (And.intro hr9 hb9);clear hcc hr9 hb9;go_wp2;exact bodyPost_ret (results_rt (p := 6) (q := 7) rfl _ _ (s + 1) 56 _ (0,0) _ (by rfl) H9.out.1 Tryz.underlying56 (by rfl) (by kernel_rfl)) rfl ⟨rfl,H9.out.2⟩
end Go.Proofs.YtifejdpffkeniaaGreatDoor
namespace Go.Proofs.YtifejdpffkeniaaGreatDoor
open Go.RowKit
def PrL (base : Nat) (W : World) (t : Tv) (p : Pr) (Y : Nat → Prop) : Prop :=
 ∃ A c,t = .lst A 4 c ∧ 4 ≤ c ∧ W.ownsRow base 107 4 (.slice A 4 c) 4 (tvCells ((prI p).map Tv.int)) ∧ ∀ b,(Value.slice A 4 c).ownBlock = some b → Y b
structure BG (e : We) (wv : Value) (pt ch : Int) (g s base : Nat) (w W : World) (kw ka : Nat) (WA : Option Addr) (wc : Nat) (AA : Option Addr) (ac : Nat) (ts : List Tv) : Prop where
 row : Row W g 127 (e.cells wv AA ka ac pt ch)
 own1 : W.ownsRow base 3 1 (.slice WA kw wc) kw (ivs ((e.ps.take kw).map Pr.k))
 own2 : W.ownsRow base 107 4 (.slice AA ka ac) ka (tvCells ts)
 el : ∀ j,j < ka → PrL base W (ts.getD j default) (e.ps.getD j default) fun b => (Value.slice WA kw wc).ownBlock ≠ some b ∧ (Value.slice AA ka ac).ownBlock ≠ some b
 tl : ts.length = ka
 dis : ∀ b,(Value.slice WA kw wc).ownBlock = some b → (Value.slice AA ka ac).ownBlock ≠ some b
 bel : Below s w W
 gb : g < base
 sg : s ≤ g
 ss : s ≤ w.heap.size
 sz : base ≤ W.heap.size
section
variable {e : We} {wv : Value} {pt ch : Int} {g s base : Nat} {w W : World} {kw ka : Nat} {WA : Option Addr} {wc : Nat} {AA : Option Addr} {ac : Nat} {ts : List Tv}
theorem PrL.tch {t : Tv} {p : Pr} {Y Y' : Nat → Prop} {ex : Nat → Prop} {W' : World} (h : PrL base W t p Y) (k : Tch ex W W') (hx : ∀ b,base ≤ b → b < W.heap.size → Y b → ¬ ex b ∧ Y' b) : PrL base W' t p Y' := by
 obtain ⟨A,c,e1,e2,e3,e4⟩ := h;exact ⟨A,c,e1,e2,own_at e3 fun b hb => k.block b (e3.lt b hb).2 (hx b (e3.lt b hb).1 (e3.lt b hb).2 (e4 b hb)).1,fun b hb => (hx b (e3.lt b hb).1 (e3.lt b hb).2 (e4 b hb)).2⟩
theorem BG.start (hr : Row W g 127 (e.cells wv none 0 0 pt ch)) (hb : Below s w W) (hgb : g < base) (hsg : s ≤ g) (hss : s ≤ w.heap.size) (hsz : base ≤ W.heap.size) : BG e wv pt ch g s base w W 0 0 none 0 none 0 [] :=
 ⟨hr,by show W.ownsRow base _ 1 _ 0 [];exact World.ownsRow_nil _ _ _ _,World.ownsRow_nil _ _ _ _,fun j hj => by omega,rfl,(fun b hb => by cases hb),hb,hgb,hsg,hss,hsz⟩
theorem BG.next {W' : World} (h : BG e wv pt ch g s base w W kw ka WA wc AA ac ts) (hb : Below W.heap.size W W') : BG e wv pt ch g s base w W' kw ka WA wc AA ac ts :=
 ⟨h.row.below hb h.row.lt,own_belowU h.own1 hb (fun b hb => (h.own1.lt b hb).2),own_belowU h.own2 hb (fun b hb => (h.own2.lt b hb).2),
  fun j hj => (h.el j hj).tch (Tch.of_bel (ex := fun _ => False) hb) fun b _ _ y => ⟨fun f => f,y⟩,h.tl,h.dis,h.bel.trans (hb.mono (by have := h.sz;have := h.gb;have := h.sg;omega)),h.gb,h.sg,h.ss,Nat.le_trans h.sz hb.size⟩
theorem BG.re {W' : World} {wv' : Value} {pt' ch' : Int} (h : BG e wv pt ch g s base w W kw ka WA wc AA ac ts) (hT : Tch (fun i => i = g) W W') (hr : Row W' g 127 (e.cells wv' AA ka ac pt' ch')) : BG e wv' pt' ch' g s base w W' kw ka WA wc AA ac ts := by
 have hgb := h.gb
 refine ⟨hr,own_at h.own1 fun b hb => hT.block b (h.own1.lt b hb).2 (fun e9 => by have := (h.own1.lt b hb).1;omega),own_at h.own2 fun b hb => hT.block b (h.own2.lt b hb).2 (fun e9 => by have := (h.own2.lt b hb).1;omega),
  fun j hj => (h.el j hj).tch hT fun b h1 _ y => ⟨fun e9 => by omega,y⟩,h.tl,h.dis,h.bel.trans (hT.below (by have := h.sz;have := h.sg;omega) fun i hi e9 => by have := h.sg;omega),h.gb,h.sg,h.ss,Nat.le_trans h.sz hT.size⟩
theorem BG.who {W' : World} {g9 c9 : Nat} (h : BG e wv pt ch g s base w W kw ka WA wc AA ac ts) (hT : Tch (fun i => (Value.slice WA kw wc).ownBlock = some i) W W')
  (ho : W'.ownsRow base 3 1 (.slice (some ⟨g9,0,none⟩) (kw + 1) c9) (kw + 1) (ivs ((e.ps.take (kw + 1)).map Pr.k)))
  (hor : (Value.slice WA kw wc).ownBlock = some g9 ∨ W.heap.size ≤ g9) : BG e wv pt ch g s base w W' (kw + 1) ka (some ⟨g9,0,none⟩) c9 AA ac ts := by
 have hne : ∀ b,b < W.heap.size → (Value.slice WA kw wc).ownBlock ≠ some b → g9 ≠ b := fun b hb hn e9 => by
  subst e9
  rcases hor with h1 | h1
  ·exact hn h1
  ·omega
 refine ⟨hT.row h.row (fun e9 => by have := (h.own1.lt g e9).1;have := h.gb;omega),ho,own_at h.own2 fun b hb => hT.block b (h.own2.lt b hb).2 (fun e9 => h.dis b e9 hb),fun j hj => (h.el j hj).tch hT fun b _ h2 y => ⟨y.1,fun e9 => hne b h2 y.1 (Option.some.inj e9),y.2⟩,h.tl,fun b hb e9 => ?_,?_,h.gb,h.sg,h.ss,Nat.le_trans h.sz hT.size⟩
 ·have hb9 : g9 = b := Option.some.inj hb
  exact hne b (h.own2.lt b e9).2 (fun e1 => h.dis b e1 e9) hb9
 ·exact h.bel.trans (hT.below (by have := h.sz;have := h.gb;have := h.sg;omega) fun i hi e9 => by have := (h.own1.lt i e9).1;have := h.gb;have := h.sg;omega)
theorem BG.all {W' : World} {g9 c9 : Nat} {A4 : Option Addr} {c4 : Nat} (h : BG e wv pt ch g s base w W kw ka WA wc AA ac ts) (hT : Tch (fun i => i = g ∨ (Value.slice AA ka ac).ownBlock = some i) W W')
  (hr : Row W' g 127 (e.cells wv (some ⟨g9,0,none⟩) (ka + 1) c9 pt ch))
  (ho : W'.ownsRow base 107 4 (.slice (some ⟨g9,0,none⟩) (ka + 1) c9) (ka + 1) (tvCells (ts ++ [.lst A4 4 c4])))
  (hor : (Value.slice AA ka ac).ownBlock = some g9 ∨ W.heap.size ≤ g9)
  (h4 : W'.ownsRow W.heap.size 107 4 (.slice A4 4 c4) 4 (tvCells ((prI (e.ps.getD ka default)).map Tv.int))) (hc4 : 4 ≤ c4) (hn4 : (Value.slice A4 4 c4).ownBlock ≠ some g9) :
  BG e wv pt ch g s base w W' kw (ka + 1) WA wc (some ⟨g9,0,none⟩) c9 (ts ++ [.lst A4 4 c4]) := by
 have hne : ∀ b,b < W.heap.size → (Value.slice AA ka ac).ownBlock ≠ some b → g9 ≠ b := fun b hb hn e9 => by
  subst e9
  rcases hor with h1 | h1
  ·exact hn h1
  ·omega
 have hgb := h.gb;have hsz := h.sz;have hsg := h.sg;have htl := h.tl;refine ⟨hr,own_at h.own1 fun b hb => hT.block b (h.own1.lt b hb).2 (fun e9 => ?_),ho,fun j hj => ?_,by simp [h.tl],fun b hb e9 => ?_,?_,h.gb,h.sg,h.ss,Nat.le_trans h.sz hT.size⟩
 ·rcases e9 with e9 | e9
  ·have := (h.own1.lt b hb).1;omega
  ·exact h.dis b hb e9
 ·by_cases e : j < ka
  ·have e1 : (ts ++ [Tv.lst A4 4 c4]).getD j default = ts.getD j default := by
    rw [List.getD_eq_getElem?_getD,List.getD_eq_getElem?_getD,List.getElem?_append_left (by omega)]
   rw [e1];refine (h.el j e).tch hT fun b h1 h2 y => ⟨fun e9 => ?_,y.1,fun e9 => hne b h2 y.2 (Option.some.inj e9)⟩
   rcases e9 with e9 | e9
   ·omega
   ·exact y.2 e9
  ·have e2 : j = ka := by omega
   subst e2
   have e1 : (ts ++ [Tv.lst A4 4 c4]).getD j default = .lst A4 4 c4 := by
    rw [List.getD_eq_getElem?_getD,List.getElem?_append_right (by omega),htl,Nat.sub_self];rfl
   rw [e1];refine ⟨A4,c4,rfl,hc4,own_mono hsz h4,fun b hb => ⟨fun e9 => ?_,fun e9 => hn4 (hb.trans e9.symm)⟩⟩;have := (h.own1.lt b e9).2;have := (h4.lt b hb).1;omega
 ·have hb9 : g9 = b := Option.some.inj e9
  exact hne b (h.own1.lt b hb).2 (fun e1 => h.dis b hb e1) hb9
 ·refine h.bel.trans (hT.below (by omega) fun i hi e9 => ?_)
  rcases e9 with e9 | e9
  ·omega
  ·have := (h.own2.lt i e9).1;omega
theorem mxd_one : ∀ n : Nat,mxd (fun _ => 1) (n + 1) = 1
 | 0 => rfl
 | n + 1 => by
  show max (mxd (fun _ => 1) (n + 1)) 1 = 1;rw [mxd_one n];rfl
theorem BG.wk (K : Sh.Cst) (h : BG e wv pt ch g s base w W e.ps.length e.ps.length WA wc AA ac ts) (hp : ∀ p ∈ e.ps,p.ok) (h0 : 1 ≤ e.ps.length) (hl : e.ps.length ≤ 64) : Wk K e g wv AA ac pt ch W W.heap.size := by
 have hr := Rd.of_own h.own2
 have hnc : e.ps.length ≤ ac := by
  rcases h.own2.2 with ⟨e1,e2⟩ | ⟨_,cap,cur,e1,_,_,h3,h4,_⟩
  ·omega
  ·injection e1 with _ _ e1;subst e1;exact h3
 have hx : ∀ k x,ts[k]? = some x → k < e.ps.length ∧ PrL base W x (e.ps.getD k default) fun b => (Value.slice WA e.ps.length wc).ownBlock ≠ some b ∧ (Value.slice AA e.ps.length ac).ownBlock ≠ some b := fun k x hx => by
  have hk := (List.getElem?_eq_some_iff.1 hx).1;have hk2 : k < e.ps.length := by have := h.tl;omega
  have h1 := h.el k hk2;rw [List.getD_eq_getElem?_getD,hx] at h1;exact ⟨hk2,h1⟩
 have hpk : ∀ k,k < e.ps.length → (e.ps.getD k default).ok := fun k hk => hp _ (by rw [List.getD_eq_getElem?_getD,List.getElem?_eq_getElem hk];exact List.getElem_mem _)
 have hf : FC W W.heap.size (.lst AA e.ps.length ac) (mxd (fun _ => 1) e.ps.length + 1) := by
  refine fc_list W _ AA _ ac ts (fun _ => 1) h.tl (by omega) (by omega) hr hnc (Nat.le_refl _) (fun k x hk => ?_) (fun _ _ => by decide);obtain ⟨hk2,A,c,rfl,e2,e3,_⟩ := hx k x hk;exact ints_fc rfl (by decide) (Rd.of_own e3) e2 (Nat.le_refl _) (fun h => absurd h (by decide)) (prI_rng (hpk k hk2))
 have hm : mxd (fun _ => 1) e.ps.length = 1 := by
  obtain ⟨n,hn⟩ : ∃ n,e.ps.length = n + 1 := ⟨e.ps.length - 1,by omega⟩;rw [hn];exact mxd_one n
 rw [hm] at hf;refine ⟨h.row,h.row.lt,hf,?_⟩;refine wc_list W _ AA _ ac ts (e.ps.map prE) h.tl (by simp) (by omega) (by have := allE_len hp;omega) hr hnc fun k x hk => ?_;obtain ⟨hk2,A,c,rfl,e2,e3,_⟩ := hx k x hk
 have e4 : (e.ps.map prE).getD k [] = encI (prI (e.ps.getD k default)) := by
  rw [List.getD_eq_getElem?_getD,List.getElem?_map,List.getD_eq_getElem?_getD,List.getElem?_eq_getElem hk2];rfl
 rw [e4];exact ints_wc rfl (by decide) (Rd.of_own e3) e2 (prI_rng (hpk k hk2))
end
theorem set4 {l : List Value} {n : Nat} (hl : l.length = n) (x0 x1 x2 x3 a b c d : Value) : ((((l ++ [x0,x1,x2,x3]).set n a).set (n + 1) b).set (n + 2) c).set (n + 3) d = l ++ [a,b,c,d] := by
 subst hl;simp
theorem own_setNe {w : World} {b : Nat} {t : TypeId} {sz : Nat} {v : Value} {n : Nat} {xs : List Value} (h : w.ownsRow b t sz v n xs) {p : Addr} (hp : ∀ q,v.ownBlock = some q → q ≠ p.block) (u : Value) : (w.setCell p u).ownsRow b t sz v n xs :=
 own_at h fun q hq => Below.heap_setCell w p u q (hp q hq)
section
variable {e : We} {wv : Value} {pt ch : Int} {g s base : Nat} {w : World} {kw ka : Nat} {WA : Option Addr} {wc : Nat} {AA : Option Addr} {ac : Nat} {ts : List Tv}
theorem BG.fin {wd wf w8 : World} {A4 : Option Addr} {c4 ga ca : Nat} (h : BG e wv pt ch g s base w wd kw ka WA wc AA ac ts) (hb : Below wd.heap.size wd wf)
  (ho4 : wf.ownsRow wd.heap.size 107 4 (.slice A4 4 c4) 4 (tvCells ((prI (e.ps.getD ka default)).map Tv.int))) (hc4 : 4 ≤ c4)
  (ho8 : w8.ownsRow base 107 4 (.slice (some ⟨ga,0,none⟩) (ka + 1) ca) (ka + 1) (tvCells ts ++ [.int .i64 0,.int .i64 0,.string ⟨#[]⟩,.slice none 0 0]))
  (hg8 : wf.grownBy w8 (Value.slice AA ka ac).ownBlock) (hor8 : (Value.slice (some ⟨ga,0,none⟩) (ka + 1) ca).ownBlock = (Value.slice AA ka ac).ownBlock ∨ (Value.slice (some ⟨ga,0,none⟩) (ka + 1) ca).ownBlock = some wf.heap.size) :
  BG e wv pt ch g s base w (((((w8.setCell ⟨ga,ka * 4,none⟩ (.int .i64 3)).setCell ⟨ga,ka * 4 + 1,none⟩ (.int .i64 0)).setCell ⟨ga,ka * 4 + 2,none⟩ (.string ⟨#[]⟩)).setCell ⟨ga,ka * 4 + 3,none⟩ (.slice A4 4 c4)).setCell ⟨g,10,none⟩ (.slice (some ⟨ga,0,none⟩) (ka + 1) ca)) kw (ka + 1) WA wc (some ⟨ga,0,none⟩) ca (ts ++ [.lst A4 4 c4]) ∧
  BG e wv pt ch g s base w (((((w8.setCell ⟨g,10,none⟩ (.slice (some ⟨ga,0,none⟩) (ka + 1) ca)).setCell ⟨ga,ka * 4,none⟩ (.int .i64 3)).setCell ⟨ga,ka * 4 + 1,none⟩ (.int .i64 0)).setCell ⟨ga,ka * 4 + 2,none⟩ (.string ⟨#[]⟩)).setCell ⟨ga,ka * 4 + 3,none⟩ (.slice A4 4 c4)) kw (ka + 1) WA wc (some ⟨ga,0,none⟩) ca (ts ++ [.lst A4 4 c4]) := by
 have hgb := h.gb;have hsz := h.sz;have hbs := hb.size;have hga : base ≤ ga := (ho8.lt ga rfl).1
 have hor : (Value.slice AA ka ac).ownBlock = some ga ∨ wf.heap.size = ga := by
  rcases hor8 with h1 | h1
  ·exact .inl h1.symm
  ·exact .inr (Option.some.inj h1).symm
 have hgx : wd.heap.size ≤ ga ∨ (ga = g ∨ (Value.slice AA ka ac).ownBlock = some ga) := by
  rcases hor with h1 | h1
  ·exact .inr (.inr h1)
  ·exact .inl (by omega)
 have hT : Tch (fun i => i = g ∨ (Value.slice AA ka ac).ownBlock = some i) wd w8 := ((Tch.refl _ wd).next hb).grown hg8 fun q hq => .inr (.inr hq)
 have hA : ∀ q,(Value.slice A4 4 c4).ownBlock = some q → q ≠ ga ∧ q ≠ g ∧ (Value.slice AA ka ac).ownBlock ≠ some q := fun q hq => by
  have h1 := ho4.lt q hq;refine ⟨fun e9 => ?_,by omega,fun e9 => by have := (h.own2.lt q e9).2;omega⟩
  rcases hor with h2 | h2
  ·have := (h.own2.lt ga h2).2;omega
  ·omega
 have ho48 : w8.ownsRow wd.heap.size 107 4 (.slice A4 4 c4) 4 (tvCells ((prI (e.ps.getD ka default)).map Tv.int)) := own_at ho4 fun q hq => hg8.block q (ho4.lt q hq).2 (fun e9 => (hA q hq).2.2 e9.symm);have hr8 : Row w8 g 127 (e.cells wv AA ka ac pt ch) := (h.row.below hb h.row.lt).grown hg8 (fun e9 => by have := (h.own2.lt g e9.symm).1;omega);have hne : g ≠ ga := by omega
 have hor2 : (Value.slice AA ka ac).ownBlock = some ga ∨ wd.heap.size ≤ ga := by
  rcases hor with h1 | h1
  ·exact .inl h1
  ·exact .inr (by omega)
 have hn4 : (Value.slice A4 4 c4).ownBlock ≠ some ga := fun e9 => (hA ga e9).1 rfl
 have hl4 : (tvCells ts).length = ka * 4 := by
  have := h.own2.1
  simpa using this
 have hx4 := set4 hl4 (.int .i64 0) (.int .i64 0) (.string ⟨#[]⟩) (.slice none 0 0) (.int .i64 3) (.int .i64 0) (.string ⟨#[]⟩) (.slice A4 4 c4)
 have hx5 : tvCells ts ++ [Value.int .i64 3,.int .i64 0,.string ⟨#[]⟩,.slice A4 4 c4] = tvCells (ts ++ [.lst A4 4 c4]) := by
  unfold tvCells;rw [List.flatMap_append];rfl
 rw [hx5] at hx4
 have h4s : ∀ {W : World} (p : Addr) (u : Value),(p.block = ga ∨ p.block = g) → W.ownsRow wd.heap.size 107 4 (.slice A4 4 c4) 4 (tvCells ((prI (e.ps.getD ka default)).map Tv.int)) → (W.setCell p u).ownsRow wd.heap.size 107 4 (.slice A4 4 c4) 4 (tvCells ((prI (e.ps.getD ka default)).map Tv.int)) := fun p u hp ho => own_setNe ho (fun q hq e9 => by
  have := hA q hq
  rcases hp with h1 | h1
  ·exact this.1 (e9.trans h1)
  ·exact this.2.1 (e9.trans h1)) u
 constructor
 ·have o1 := ((((ho8.stored (ka * 4) (.int .i64 3)).1.stored (ka * 4 + 1) (.int .i64 0)).1.stored (ka * 4 + 2) (.string ⟨#[]⟩)).1.stored (ka * 4 + 3) (.slice A4 4 c4)).1
  rw [hx4] at o1
  exact h.all (((((hT.set (p := ⟨ga,ka * 4,none⟩) hgx _).set (p := ⟨ga,ka * 4 + 1,none⟩) hgx _).set (p := ⟨ga,ka * 4 + 2,none⟩) hgx _).set (p := ⟨ga,ka * 4 + 3,none⟩) hgx _).set (p := ⟨g,10,none⟩) (.inr (.inl rfl)) _)
   (((((hr8.away (p := ⟨ga,ka * 4,none⟩) hne _).away (p := ⟨ga,ka * 4 + 1,none⟩) hne _).away (p := ⟨ga,ka * 4 + 2,none⟩) hne _).away (p := ⟨ga,ka * 4 + 3,none⟩) hne _).put 10 _)
   (own_setC o1 (p := ⟨g,10,none⟩) hgb _) hor2
   (h4s ⟨g,10,none⟩ _ (.inr rfl) (h4s ⟨ga,ka * 4 + 3,none⟩ _ (.inl rfl) (h4s ⟨ga,ka * 4 + 2,none⟩ _ (.inl rfl) (h4s ⟨ga,ka * 4 + 1,none⟩ _ (.inl rfl) (h4s ⟨ga,ka * 4,none⟩ _ (.inl rfl) ho48))))) hc4 hn4
 ·have o0 := own_setC ho8 (p := ⟨g,10,none⟩) hgb (.slice (some ⟨ga,0,none⟩) (ka + 1) ca)
  have o1 := ((((o0.stored (ka * 4) (.int .i64 3)).1.stored (ka * 4 + 1) (.int .i64 0)).1.stored (ka * 4 + 2) (.string ⟨#[]⟩)).1.stored (ka * 4 + 3) (.slice A4 4 c4)).1;rw [hx4] at o1
  exact h.all (((((hT.set (p := ⟨g,10,none⟩) (.inr (.inl rfl)) _).set (p := ⟨ga,ka * 4,none⟩) hgx _).set (p := ⟨ga,ka * 4 + 1,none⟩) hgx _).set (p := ⟨ga,ka * 4 + 2,none⟩) hgx _).set (p := ⟨ga,ka * 4 + 3,none⟩) hgx _)
   (((((hr8.put 10 _).away (p := ⟨ga,ka * 4,none⟩) hne _).away (p := ⟨ga,ka * 4 + 1,none⟩) hne _).away (p := ⟨ga,ka * 4 + 2,none⟩) hne _).away (p := ⟨ga,ka * 4 + 3,none⟩) hne _)
   o1 hor2
   (h4s ⟨ga,ka * 4 + 3,none⟩ _ (.inl rfl) (h4s ⟨ga,ka * 4 + 2,none⟩ _ (.inl rfl) (h4s ⟨ga,ka * 4 + 1,none⟩ _ (.inl rfl) (h4s ⟨ga,ka * 4,none⟩ _ (.inl rfl) (h4s ⟨g,10,none⟩ _ (.inr rfl) ho48))))) hc4 hn4
end
end Go.Proofs.YtifejdpffkeniaaGreatDoor
