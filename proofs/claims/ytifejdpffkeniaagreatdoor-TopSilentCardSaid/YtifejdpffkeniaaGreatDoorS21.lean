import Derived.Test.YtifejdpffkeniaaGreatDoorS20
set_option linter.unusedVariables false
set_option maxRecDepth 100000
set_option maxHeartbeats 40000000
namespace Go.Proofs.YtifejdpffkeniaaGreatDoor
open Go.RowKit
attribute [local go_sem] Oper.semAt_some
theorem Row.idem {w : World} {g : Nat} {t : TypeId} {cs : List Value} (h : Row w g t cs) {i : Nat} {v : Value} (hv : cs[i]? = some v) : w.setCell ⟨g,i,none⟩ v = w := by
 have h1 : w.heap[g]? = some (.cells cs.toArray t (0,0)) := h
 have h3 : cs.toArray.setIfInBounds i v = cs.toArray := by
  refine Array.ext_getElem? fun k => ?_;rw [Array.getElem?_setIfInBounds]
  by_cases e : i = k
  ·subst e
   obtain ⟨hi,_⟩ := List.getElem?_eq_some_iff.1 hv;simp [hi];exact ((List.getElem?_eq_some_iff.1 hv).2).symm
  ·rw [if_neg e]
 have hp : (w.setCell ⟨g,i,none⟩ v).heap = w.heap := by
  refine Array.ext_getElem? fun k => ?_
  by_cases e : k = g
  ·subst e
   rw [heap_setCell_same w k i cs.toArray t v h1,h3,h1]
  ·exact heap_setCell_other w ⟨g,i,none⟩ k v e
 cases w
 simp only [World.setCell,World.mk.injEq,and_true] at hp ⊢;exact hp
def wsum (us : List Int) (f : Nat → Int) (l : List Nat) : Int := l.foldl (fun a i => Fm.ad a (Fm.ml (us.getD i 0) (f i))) 0
theorem wsum_snoc (us : List Int) (f : Nat → Int) (l : List Nat) (i : Nat) : wsum us f (l ++ [i]) = Fm.ad (wsum us f l) (Fm.ml (us.getD i 0) (f i)) := by
 unfold wsum;rw [List.foldl_append];rfl
def shL (e : We) (kp : Int) (q : Nat) : List Value := (sel e.ky.P [kp] q).flatMap fun i : Nat => [.int .i64 (i : Int),.int .i64 (shr e.ky.ds e.ky.xs i)]
def mkz (K : Sh.Cst) (e : We) (us : List Int) (p : Pr) : Int :=
 Fm.ad (Fm.ad (p.d : Int) (Fm.ml (p.f : Int) (bnd K e.c0 e.tx e.ps p.k))) (Fm.ml (chl K (Gm.pw (pte K e.c0 e.tx e.ps e.ps.length) : Int) e.c0 e.tx) (wsum us (shr e.ky.ds e.ky.xs) (sel e.ky.P [p.k] e.ky.P.length)))
structure MK (K : Sh.Cst) (e : We) (s g zb b16 b17 : Nat) (us : List Int) (AA : Option Addr) (ac : Nat) (pt ch : Int) (SA : Option Addr) (m sc : Nat) (p : Pr) (w W : World) (B : Nat) : Prop where
 bel : Below s w W
 r7 : Row W s 45 [.int .i64 0,.slice e.ky.RA e.ky.P.length e.ky.rc,.slice e.ky.OA e.ky.P.length e.ky.oc,.slice e.ky.CA e.ky.N e.ky.cc]
 r11 : Row W (s + 1) 39 [.slice SA m sc]
 r14 : Row W (s + 2) 3 [.int .i64 0]
 r15 : Row W (s + 3) 33 [.int .i64 0]
 r16 : Row W b16 115 [.pointer (some ⟨g,0,none⟩)]
 r17 : Row W b17 56 p.cells
 wk : Wk K e g (.slice (some ⟨zb,0,none⟩) e.ky.P.length e.ky.P.length) AA ac pt ch W B
 rz : Row W zb 3 (ivs us)
 l3 : s + 3 < B
 l16 : b16 < B
 l17 : b17 < B
 lz : zb < B
 lB : B ≤ W.heap.size
section
variable {K : Sh.Cst} {e : We} {s g zb b16 b17 : Nat} {us : List Int} {AA : Option Addr} {ac : Nat} {pt ch : Int} {SA : Option Addr} {m sc : Nat} {p : Pr} {w W : World} {B : Nat}
theorem MK.next {W' : World} (h : MK K e s g zb b16 b17 us AA ac pt ch SA m sc p w W B) (hb : Below B W W') : MK K e s g zb b16 b17 us AA ac pt ch SA m sc p w W' B := by
 have h3 := h.l3;exact ⟨h.bel.trans (hb.mono (by omega)),h.r7.below hb (by omega),h.r11.below hb (by omega),h.r14.below hb (by omega),h.r15.below hb (by omega),h.r16.below hb h.l16,h.r17.below hb h.l17,h.wk.below hb,h.rz.below hb h.lz,h.l3,h.l16,h.l17,h.lz,Nat.le_trans h.lB hb.size⟩
end
theorem sh_at {w : World} {B : Nat} {e : We} {kp : Int} {n : Nat} {A : Option Addr} (hr : Rd w B 2 A (sel e.ky.P [kp] n).length (shL e kp n)) {j : Nat} (hj : j < (sel e.ky.P [kp] n).length) : ∃ b o,A = some ⟨b,o,none⟩ ∧ b < B ∧ ∀ j,j < (sel e.ky.P [kp] n).length → ∀ W,Below B w W → W.cell? ⟨b,o + j * 2,none⟩ = some (.int .i64 (((sel e.ky.P [kp] n).getD j 0 : Nat) : Int)) ∧ W.cell? ⟨b,o + j * 2 + 1,none⟩ = some (.int .i64 (shr e.ky.ds e.ky.xs ((sel e.ky.P [kp] n).getD j 0))) := by
 obtain ⟨b,o,e1,hb,hc⟩ := hr.2 (by omega);refine ⟨b,o,e1,hb,fun j hj W hW => ?_⟩;have hx : (sel e.ky.P [kp] n)[j]? = some ((sel e.ky.P [kp] n).getD j 0) := by rw [List.getD_eq_getElem?_getD,List.getElem?_eq_getElem hj];rfl
 have hf := fun i hi => flat_at (fun i : Nat => [Value.int .i64 (i : Int),.int .i64 (shr e.ky.ds e.ky.xs i)]) 2 (fun _ => rfl) (sel e.ky.P [kp] n) j i _ hx hi;refine ⟨?_,?_⟩
 ·rw [hW.cell (p := ⟨b,o + j * 2,none⟩) hb]
  exact hc (j * 2) _ (hf 0 (by decide))
 ·rw [Nat.add_assoc,hW.cell (p := ⟨b,o + (j * 2 + 1),none⟩) hb]
  exact hc (j * 2 + 1) _ (hf 1 (by decide))
theorem results_cc {P : Program} {fn : Func} {p q : Tmp} {ty tz : TypeId} (h : fn.results = #[.cell p ty,.cell q tz]) (tmps : Array Value) (w : World) (g1 g2 : Nat) (v1 v2 : Value)
  (hp : tmps.getD p undef = .pointer (some ⟨g1,0,none⟩)) (hq : tmps.getD q undef = .pointer (some ⟨g2,0,none⟩)) (hc1 : w.cell? ⟨g1,0,none⟩ = some v1) (hc2 : w.cell? ⟨g2,0,none⟩ = some v2) (ha1 : (isAgg ty).run P w = .ok false w) (ha2 : (isAgg tz).run P w = .ok false w) : (results fn tmps).run P w = .ok (.tuple #[v1,v2]) w := by
 have hp' : tmps[p]?.getD undef = .pointer (some ⟨g1,0,none⟩) := by simpa using hp
 have hq' : tmps[q]?.getD undef = .pointer (some ⟨g2,0,none⟩) := by simpa using hq
 simp [results,h,hp',hq',asAddr,loadVar,ha1,ha2,hc1,hc2]
theorem two_at {w : World} {b o : Nat} {u v : Value} (h0 : w.cell? ⟨b,o,none⟩ = some u) (h1 : w.cell? ⟨b,o + 1,none⟩ = some v) : ∀ (j : Nat) (x : Value),[u,v][j]? = some x → w.cell? ((⟨b,o,none⟩ : Addr).add j) = some x
 | 0,x,hx => by cases hx;exact h0
 | 1,x,hx => by cases hx;exact h1
 | j + 2,x,hx => by simp at hx
theorem sel_get {P L : List Int} {q r : Nat} (hq : q ≤ r) (hno : ∀ j,q ≤ j → j < r → ¬ P.getD j 0 ∈ L) (hr : P.getD r 0 ∈ L) : ∀ {n : Nat},r < n → (sel P L n).getD (sel P L q).length 0 = r ∧ (sel P L q).length < (sel P L n).length
 | 0,h => by omega
 | n + 1,h => by
  by_cases e : r = n
  ·subst e
   rw [sel_step hq hno hr]
   constructor
   ·rw [List.getD_eq_getElem?_getD,List.getElem?_append_right (Nat.le_refl _),Nat.sub_self];rfl
   ·simp
  ·obtain ⟨h1,h2⟩ := sel_get hq hno hr (n := n) (by omega)
   have h3 : ∃ t,sel P L (n + 1) = sel P L n ++ t := by
    unfold sel;rw [List.range_succ,List.filter_append];exact ⟨_,rfl⟩
   obtain ⟨t,ht⟩ := h3;rw [ht];refine ⟨?_,by simp;omega⟩;rw [List.getD_eq_getElem?_getD,List.getElem?_append_left h2,← List.getD_eq_getElem?_getD];exact h1
theorem pmake_any (K : Sh.Cst) (e : We) (us : List Int) (i : Nat) (SA : Option Addr) (sc : Nat) (w : World) (h : e.ok w w.heap.size) (hacc : AccR e.ky.N e.ky.ds e.ky.P (e.ps.map Pr.k) true us) (h0 : 0 < e.ky.P.length) (hi : i < e.ps.length)
  (hd : (e.ps.getD i default).d < 1073741789) (hf : (e.ps.getD i default).f < 1073741789) (hul : us.length = e.ky.P.length)
  (hs : Rd w w.heap.size 2 SA (sel e.ky.P [(e.ps.getD i default).k] e.ky.P.length).length (shL e (e.ps.getD i default).k e.ky.P.length)) :
  Calls Tryz.prog 12 #[.agg #[.int .i64 0,.slice e.ky.RA e.ky.P.length e.ky.rc,.slice e.ky.OA e.ky.P.length e.ky.oc,.slice e.ky.CA e.ky.N e.ky.cc],.slice e.TA e.tx.length e.tc,.slice e.PA e.ps.length e.pc,.int .i64 (e.ps.getD i default).k,.slice SA (sel e.ky.P [(e.ps.getD i default).k] e.ky.P.length).length sc,.int .i64 ((e.ps.getD i default).d : Int),.int .i64 ((e.ps.getD i default).f : Int)] w fun r w' =>
   r = .returned (.tuple #[.int .i64 (mkz K e us (e.ps.getD i default)),.int .i64 0]) ∧ Below w.heap.size w w' := by
 obtain ⟨s,hsz⟩ : ∃ s,w.heap.size = s := ⟨_,rfl⟩;obtain ⟨m,hm⟩ : ∃ m,(sel e.ky.P [(e.ps.getD i default).k] e.ky.P.length).length = m := ⟨_,rfl⟩;obtain ⟨w0,hw0⟩ : ∃ w0,(((w.alloc (.cells #[.int .i64 0,.slice e.ky.RA e.ky.P.length e.ky.rc,.slice e.ky.OA e.ky.P.length e.ky.oc,.slice e.ky.CA e.ky.N e.ky.cc] 45)).alloc (.cells #[.slice SA m sc] 39)).alloc (.cells #[.int .i64 0] 3)).alloc (.cells #[.int .i64 0] 33) = w0 := ⟨_,rfl⟩
 have hb0 : Below s w w0 ∧ Row w0 s 45 [.int .i64 0,.slice e.ky.RA e.ky.P.length e.ky.rc,.slice e.ky.OA e.ky.P.length e.ky.oc,.slice e.ky.CA e.ky.N e.ky.cc] ∧ Row w0 (s + 1) 39 [.slice SA m sc] ∧ Row w0 (s + 2) 3 [.int .i64 0] ∧ Row w0 (s + 3) 33 [.int .i64 0] ∧ w0.heap.size = s + 4 := by
  subst hw0;refine ⟨?_,(((Row.fresh' _ _ _ hsz).alloc _).alloc _).alloc _,((Row.fresh' _ _ _ (by simp [hsz])).alloc _).alloc _,(Row.fresh' _ _ _ (by simp [hsz])).alloc _,Row.fresh' _ _ _ (by simp [hsz]),by simp [hsz]⟩;rw [← hsz];exact ((((Below.refl _ w).alloc (Nat.le_refl _) _).alloc (by simp) _).alloc (by simp;omega) _).alloc (by simp;omega) _
 have HBE : Hid (Calls Tryz.prog 46 #[.agg #[.int .i64 0,.slice e.ky.RA e.ky.P.length e.ky.rc,.slice e.ky.OA e.ky.P.length e.ky.oc,.slice e.ky.CA e.ky.N e.ky.cc],.slice e.TA e.tx.length e.tc,.slice e.PA e.ps.length e.pc] w0 (BegQ K e us w0)) := begin_any K e us w0 (h.go hsz hb0.1) hacc
 have HFI : Hid (∀ W B g wv AA ac pt ch b,Below s w W → Wk K e g wv AA ac pt ch W B → B ≤ W.heap.size → Row W b 3 [.int .i64 ((e.ps.getD i default).d : Int),.int .i64 ((e.ps.getD i default).f : Int)] → Calls Tryz.prog 47 #[.pointer (some ⟨g,0,none⟩),.int .i64 (e.ps.getD i default).k,.slice (some ⟨b,0,none⟩) 2 2] W fun r w' => r = .returned (.tuple #[.agg (e.ps.getD i default).cells.toArray,.int .i64 0]) ∧ Below W.heap.size W w') := fun W B g wv AA ac pt ch b hW hwk hB hb => by
  refine pfind_any K e i g wv AA ac pt ch _ 2 2 [((e.ps.getD i default).d : Int),((e.ps.getD i default).f : Int)] W (h.go hsz hW) (hwk.more hB) hi ((rd_rowN hb).more hb.lt) (by decide) ?_;intro x hx
  rcases List.mem_cons.1 hx with rfl | hx
  ·omega
  ·rw [List.mem_singleton.1 hx];omega
 obtain ⟨n,hn⟩ : ∃ n,e.ky.P.length = n := ⟨_,rfl⟩
 have HSH : Hid (∀ q r,q ≤ r → r < n → (∀ j,q ≤ j → j < r → ¬ e.ky.P.getD j 0 ∈ [(e.ps.getD i default).k]) → e.ky.P.getD r 0 ∈ [(e.ps.getD i default).k] → (sel e.ky.P [(e.ps.getD i default).k] q).length < m ∧ sel e.ky.P [(e.ps.getD i default).k] (r + 1) = sel e.ky.P [(e.ps.getD i default).k] q ++ [r] ∧ ∃ sb so,SA = some ⟨sb,so,none⟩ ∧ ∀ V,Below s w V → V.cell? ⟨sb,so + (sel e.ky.P [(e.ps.getD i default).k] q).length * 2,none⟩ = some (.int .i64 (r : Int)) ∧ V.cell? ⟨sb,so + (sel e.ky.P [(e.ps.getD i default).k] q).length * 2 + 1,none⟩ = some (.int .i64 (shr e.ky.ds e.ky.xs r))) := fun q r hq hr hno hin => by
  obtain ⟨g1,g2⟩ := sel_get hq hno hin (n := e.ky.P.length) (by omega);obtain ⟨sb,so,e1,_,hc⟩ := sh_at hs (j := (sel e.ky.P [(e.ps.getD i default).k] q).length) g2;refine ⟨by omega,sel_step hq hno hin,sb,so,e1,fun V hV => ?_⟩;have h2 := hc _ g2 V (by rw [hsz];exact hV);rw [g1] at h2;exact h2
 have HFT : Hid (∀ V r,Below s w V → r < n → Calls Tryz.prog 49 #[.agg #[.slice e.ky.RA e.ky.P.length e.ky.rc,.slice e.ky.OA e.ky.P.length e.ky.oc],.slice e.ky.CA e.ky.N e.ky.cc,.agg #[.int .i64 (r : Int),.int .i64 (shr e.ky.ds e.ky.xs r)]] V fun r w' => r = .returned (.tuple #[.bool true,.int .i64 0]) ∧ Below V.heap.size V w') := fun V r hV hr => by
  exact fits_any e.ky r V (h.go hsz hV).ky (by omega)
 have HPW : Hid (∀ V (x : Nat),x < 1073741789 → Calls Tryz.prog 52 #[.int .i64 4,.int .i64 (x : Int)] V fun r w' => r = .returned (.int .i64 (Gm.pw x : Int)) ∧ Below V.heap.size V w') := fun V x hx => by
  have h2 := ppower_four (x : Int) V (by omega) (by omega)
  rwa [Int.toNat_natCast] at h2
 have HBI : Hid (∀ W B g wv AA ac pt ch,Below s w W → Wk K e g wv AA ac pt ch W B → B ≤ W.heap.size → Calls Tryz.prog 53 #[.pointer (some ⟨g,0,none⟩),.agg (e.ps.getD i default).cells.toArray] W fun r w' => r = .returned (.int .i64 (bnd K e.c0 e.tx e.ps (e.ps.getD i default).k)) ∧ Below W.heap.size W w') := fun W B g wv AA ac pt ch hW hwk hB =>
  pbind_any K e (e.ps.getD i default) g wv AA ac pt ch W (h.go hsz hW) (hwk.more hB) (h.pk _ (by rw [List.getD_eq_getElem?_getD,List.getElem?_eq_getElem hi];exact List.getElem_mem _))
 have HDF0 := Lib.hid (And.intro hd hf);have HOW : Hid (∀ V,Below s w V → Rd V s 1 e.ky.OA e.ky.P.length (ivs e.ky.P)) := fun V hV => by rw [← hsz] at hV ⊢;exact h.ky.prg.own.below hV
 have HN60 : Hid (n ≤ 60 ∧ 0 < n) := ⟨by rw [← hn];exact h.ky.len,by rw [← hn];exact h0⟩
 have HUS : Hid (∀ r,r < n → (ivs us)[r]? = some (.int .i64 (us.getD r 0))) := fun r hr => by
  rw [List.getElem?_map,List.getD_eq_getElem?_getD,List.getElem?_eq_getElem (by omega)];rfl
 have HB0 := Lib.hid hb0;have HW0 := Lib.hid hw0;have HS := Lib.hid hsz;have HALL := Lib.hid (And.intro h (And.intro hacc (And.intro h0 (And.intro hi (And.intro hd (And.intro hf (And.intro hul hs)))))));rw [hm];obtain ⟨p,hp⟩ : ∃ p,e.ps.getD i default = p := ⟨_,rfl⟩;rw [hp] at HFI HSH HBI HDF0 ⊢;have HDF := HDF0;clear HDF0;have HNN := Lib.hid hn;have HP := Lib.hid hp;rw [hp] at hm;have HM := Lib.hid hm;have hpc : p.cells.toArray = #[.int .i64 p.k,.int .i64 p.no,.int .i64 (Gm.pw p.d : Int),.int .i64 (Gm.pw p.f : Int)] := rfl;rw [hpc] at HFI HBI;clear h hacc h0 hi hd hf hul hs hb0 hw0 hsz hm hp hpc hn;refine (callsIn_wide (n := 9)).1 ?_;refine callsIn_of_wp_marks Tryz.func12 rfl trivial ?_ rfl;simp only [Tryz.ntmps12,List.size_toArray,List.length_cons,List.length_nil,Nat.reduceAdd,Nat.reduceSub,Array.replicate_succ,Array.replicate_zero,List.push_toArray,List.append_toArray,List.nil_append,List.cons_append]
 gi_wp2_with fail
 rw [HW0.out,HS.out];refine ⟨trivial,(callsIn_wide.2 HBE.out).mono ?_⟩;rintro r w1 ⟨⟨g,zb,AA,ac,rfl,hwk,hz⟩,hb1⟩;rw [HB0.out.2.2.2.2.2] at hb1;have r7 := HB0.out.2.1.below hb1 (by omega);have r11 := HB0.out.2.2.1.below hb1 (by omega);have r14 := HB0.out.2.2.2.1.below hb1 (by omega);have r15 := HB0.out.2.2.2.2.1.below hb1 (by omega);have hbw := HB0.out.1.trans (hb1.mono (show s ≤ s + 4 by omega));obtain ⟨b16,hb16⟩ : ∃ b,w1.heap.size = b := ⟨_,rfl⟩;have hs1 : s + 4 ≤ b16 := by rw [← hb16];have := hb1.size;rw [HB0.out.2.2.2.2.2] at this;exact this
 have H1 := Lib.hid (And.intro r7 (And.intro r11 (And.intro r14 (And.intro r15 (And.intro hbw (And.intro hwk (And.intro hz hb16)))))));have c15 := r15.cell (i := 0) rfl;have f15 := r15.fz 0;have h315 : s + 3 < b16 := by omega
 generalize hPTV : (Gm.pw (pte K e.c0 e.tx e.ps e.ps.length) : Int) = PTV at H1;generalize hCHV : chl K PTV e.c0 e.tx = CHV at H1;have HPTV := Lib.hid hPTV;have HCHV := Lib.hid hCHV;have hid := r15.idem (i := 0) rfl;clear r7 r11 r14 r15 hbw hwk hz hb1 hPTV hCHV
 gi_wp2_with fail
 obtain ⟨w2,hw2⟩ : ∃ w2,w1.alloc (.cells #[.pointer (some ⟨g,0,none⟩)] 115) = w2 := ⟨_,rfl⟩;have hb2 : Below b16 w1 w2 := by rw [← hw2,← hb16];exact (Below.refl _ _).alloc (Nat.le_refl _) _
 have r16 : Row w2 b16 115 [.pointer (some ⟨g,0,none⟩)] := by rw [← hw2];exact Row.fresh' _ _ _ hb16
 have hs2 : w2.heap.size = b16 + 1 := by rw [← hw2,World.size_alloc,hb16]
 rw [hw2];have hwk2 := H1.out.2.2.2.2.2.1;rw [hb16] at hwk2;have hwk2 := hwk2.below hb2;have hbw2 := H1.out.2.2.2.2.1.trans (hb2.mono (show s ≤ b16 by omega));have hbw3 : Below s w (w2.alloc (.cells #[.int .i64 (p.d : Int),.int .i64 (p.f : Int)] 3)) := hbw2.alloc (by omega) _;have hb3 : Below (b16 + 1) w2 (w2.alloc (.cells #[.int .i64 (p.d : Int),.int .i64 (p.f : Int)] 3)) := (Below.refl _ _).alloc (by omega) _;refine ⟨trivial,(callsIn_wide.2 (HFI.out _ b16 g _ AA ac _ _ (b16 + 1) hbw3 (hwk2.below (hb3.mono (Nat.le_succ _))) (by simp;omega) (Row.fresh' _ _ _ hs2))).mono ?_⟩;rintro r w4 ⟨rfl,hb4⟩;have hb24 : Below (b16 + 1) w2 w4 := hb3.trans (hb4.mono (by simp;omega));obtain ⟨b17,hb17⟩ : ∃ b,w4.heap.size = b := ⟨_,rfl⟩;have hs17 : b16 + 1 ≤ b17 := by rw [← hb17];have := hb24.size;omega
 have r15 := (H1.out.2.2.2.1.below (hb2.mono (show s + 4 ≤ b16 by omega)) (by omega)).below hb24 (by omega);have hid4 := r15.idem (i := 0) rfl;have c15 := r15.cell (i := 0) rfl;have f15 := r15.fz 0;have c16 := (r16.below hb24 (by omega)).cell (i := 0) rfl;have h317 : s + 3 < b17 := by omega
 have h1617 : b16 < b17 := by omega
 have h1618 : b16 < b17 + 1 := by omega
 have h1619 : b16 < b17 + 1 + 1 := by omega
 gi_wp2_with fail
 have hk5 := H1.out.1.below hb2 (by omega);obtain ⟨w5,hw5⟩ : ∃ w5,((((w4.alloc (.cells #[.int .i64 p.k,.int .i64 p.no,.int .i64 (Gm.pw p.d : Int),.int .i64 (Gm.pw p.f : Int)] 56)).alloc (.cells #[.int .i64 0] 3)).alloc (.cells #[.int .i64 0] 3)).alloc (.cells #[.pointer (some ⟨g,0,none⟩)] 115)).alloc (.cells #[.int .i64 p.k] 3) = w5 := ⟨_,rfl⟩
 have hb5 : Below b17 w4 w5 := by
  rw [← hw5,← hb17];exact (((((Below.refl _ w4).alloc (Nat.le_refl _) _).alloc (by simp) _).alloc (by simp;omega) _).alloc (by simp;omega) _).alloc (by simp;omega) _
 have hs5 : w5.heap.size = b17 + 1 + 1 + 1 + 1 + 1 := by rw [← hw5];simp [hb17]
 have hm5 : MK K e s g zb b16 b17 us AA ac PTV CHV SA m sc p w w5 (b17 + 1) := by
  have hb15 : Below b16 w1 w5 := hb2.trans ((hb24.mono (Nat.le_succ _)).trans (hb5.mono (by omega)));have hl4 := H1.out.2.2.2.2.2.1.lt;have hlz := H1.out.2.2.2.2.2.2.1.lt;rw [hb16] at hlz hl4;refine ⟨H1.out.2.2.2.2.1.trans (hb15.mono (by omega)),H1.out.1.below hb15 (by omega),H1.out.2.1.below hb15 (by omega),H1.out.2.2.1.below hb15 (by omega),H1.out.2.2.2.1.below hb15 (by omega),(r16.below hb24 (by omega)).below hb5 (by omega),?_,?_,H1.out.2.2.2.2.2.2.1.below hb15 (by omega),by omega,by omega,by omega,by omega,by omega⟩
  ·rw [← hw5]
   exact ((((Row.fresh' w4 56 p.cells hb17).alloc _).alloc _).alloc _).alloc _
  ·have h1 := H1.out.2.2.2.2.2.1
   rw [hb16] at h1;exact (h1.below hb15).more (by omega)
 have h18 : Row w5 (b17 + 1) 3 [.int .i64 0] := by rw [← hw5];exact (((Row.fresh' _ _ _ (by simp [hb17])).alloc _).alloc _).alloc _
 have h19 : Row w5 (b17 + 1 + 1) 3 [.int .i64 0] := by rw [← hw5];exact ((Row.fresh' _ _ _ (by simp [hb17])).alloc _).alloc _
 have hsp : Row w5 (b17 + 1 + 1 + 1) 115 [.pointer (some ⟨g,0,none⟩)] := by rw [← hw5];exact (Row.fresh' _ _ _ (by simp [hb17])).alloc _
 have hsk : Row w5 (b17 + 1 + 1 + 1 + 1) 3 [.int .i64 p.k] := by rw [← hw5];exact Row.fresh' _ _ _ (by simp [hb17])
 have H5 := Lib.hid (And.intro hm5 (And.intro h18 (And.intro h19 (And.intro hsp (And.intro hsk hs5)))));have HBS := Lib.hid (And.intro hs1 hs17);refine ⟨trivial,(callsIn_wide.2 (rows_any _ _ _)).mono ?_⟩;rintro r w6 ⟨rfl,hw6⟩;have hw6' : w6 = w5 := by rw [← hw5];exact hw6.symm
 subst hw6';rw [show (((w4.alloc (.cells #[.int .i64 p.k,.int .i64 p.no,.int .i64 (Gm.pw p.d : Int),.int .i64 (Gm.pw p.f : Int)] 56)).alloc (.cells #[.int .i64 0] 3)).alloc (.cells #[.int .i64 0] 3)).heap.size = b17 + 1 + 1 + 1 by simp [hb17]];clear hm5 h18 h19 hsp hsk hs5 hw5 hw6 hb5 hk5 hid4 c16 c15 f15 r15 hb24 hb4 hbw3 hbw2 hb3 hwk2 hb2 hw2 r16 hs2 H1 h317 h1617 h1618 h1619 hs17 hb17 hs1 h315 hid hb16;generalize w6 = w5 at H5 ⊢
 gi_wp2_with fail
 have hmB := H5.out.1
 refine wpIn_range_hands (F := Fence.wide) (σ := Nat) rfl (by omega) (gf := 110) (lb := #[.pointer (some ⟨b17 + 1 + 1 + 1,0,none⟩),.pointer (some ⟨b17 + 1 + 1 + 1 + 1,0,none⟩)]) (by rfl) trivial (enters_of Tryz.func110 (by kernel_rfl) rfl)
  (fun (q : Nat) V => q ≤ n ∧ Tch (fun x => x = b17 + 1 ∨ x = b17 + 1 + 1) w5 V ∧ Row V (b17 + 1) 3 [.int .i64 (wsum us (shr e.ky.ds e.ky.xs) (sel e.ky.P [p.k] q))] ∧ Row V (b17 + 1 + 1) 3 [.int .i64 ((sel e.ky.P [p.k] q).length : Int)]) (fun _ (_ : Nat) W => False)
  (fun (q : Nat) vs q' _ => RwT e.ky.P p.k q vs q') 0 (OwnS e.ky.P [p.k]) w5 (Below.refl _ _) ?hsq
  ?oi (fun _ _ _ _ _ h _ _ => h) ⟨Nat.zero_le _,Tch.refl _ _,H5.out.2.1,H5.out.2.2.1⟩ (fun _ _ _ _ h => by obtain ⟨i,_,_,_,_,_,e⟩ := h;rw [e];rfl)
  (fun (q : Nat) a' V => (∃ q0 r : Nat,q = r + 1 ∧ q0 ≤ r ∧ r < n ∧ (∀ j,q0 ≤ j → j < r → ¬ e.ky.P.getD j 0 ∈ [p.k]) ∧ e.ky.P.getD r 0 ∈ [p.k] ∧ a'.tmps.getD 20 undef = .int .i64 (r : Int) ∧ Tch (fun x => x = b17 + 1 ∨ x = b17 + 1 + 1) w5 V ∧ Row V (b17 + 1) 3 [.int .i64 (wsum us (shr e.ky.ds e.ky.xs) (sel e.ky.P [p.k] q0))] ∧ Row V (b17 + 1 + 1) 3 [.int .i64 ((sel e.ky.P [p.k] q0).length : Int)]) ∧ a'.tmps.size = 129 ∧ a'.tmps.getD 7 undef = .pointer (some ⟨s,0,none⟩) ∧ a'.tmps.getD 11 undef = .pointer (some ⟨s + 1,0,none⟩) ∧ a'.tmps.getD 16 undef = .pointer (some ⟨b16,0,none⟩) ∧ a'.tmps.getD 18 undef = .pointer (some ⟨b17 + 1,0,none⟩) ∧ a'.tmps.getD 19 undef = .pointer (some ⟨b17 + 1 + 1,0,none⟩) ∧ a'.defers = []) ?oa ?assign ?body ?done ?stop
 case hsq =>
  refine rows1_hands e p.k g (b17 + 1 + 1 + 1) (b17 + 1 + 1 + 1 + 1) s (.slice (some ⟨zb,0,none⟩) e.ky.P.length e.ky.P.length) AA e.ps.length ac PTV CHV (by rw [HNN.out];exact HN60.out.2) (by rw [HNN.out];have := HN60.out.1;omega) w5 _ ?_;rintro q V ⟨_,hT,_,_⟩;have hl := H5.out.1.wk.lt;refine ⟨hT.row H5.out.2.2.2.1 (by omega),hT.row H5.out.2.2.2.2.1 (by omega),hT.row H5.out.1.wk.row (by omega),HOW.out V (H5.out.1.bel.trans (hT.below ?_ ?_))⟩
  ·have := H5.out.2.2.2.2.2;have := H5.out.1.l3;omega
  ·intro x hx;have := H5.out.1.l3;omega
 case oi =>
  rintro q V V' row ⟨h9,h1,h2,h3⟩ hg hr;exact ⟨h9,h1.grown hg (fun x e => .inl (hr x e).1),h2.grown hg (fun e => by have := (hr _ e.symm).1;have := H5.out.2.2.2.2.2;omega),h3.grown hg (fun e => by have := (hr _ e.symm).1;have := H5.out.2.2.2.2.2;omega)⟩
 case oa =>
  rintro q a' _ V V' row ⟨⟨q0,r,p1,p2,p3,p4,p5,p6,h1,h2,h3⟩,p7⟩ hg hr;exact ⟨⟨q0,r,p1,p2,p3,p4,p5,p6,h1.grown hg (fun x e => .inl (hr x e).1),h2.grown hg (fun e => by have := (hr _ e.symm).1;have := H5.out.2.2.2.2.2;omega),h3.grown hg (fun e => by have := (hr _ e.symm).1;have := H5.out.2.2.2.2.2;omega)⟩,p7⟩
 case assign =>
  rintro l q vs q' V K hI ⟨r,h1,h2,h3,h4,rfl,rfl⟩ hK;have HK := Lib.hid hK;rw [show ∀ (a : Value),(#[48] : Array Tmp).zip #[a] = #[(48,a)] from fun a => by simp];clear hK;gi_wp2;exact HK.out _ _ (KeepsFrom.refl _ _) ⟨⟨q,r,rfl,h1,by rw [← HNN.out];exact h2,h3,h4,by rfl,hI.2⟩,by rfl,by rfl,by rfl,by rfl,by rfl,by rfl,by rfl⟩
 case body =>
  rintro l q a' V hl ⟨⟨q0,r,rfl,hq0,hrn,hno,hin,e20,hT,h18,h19⟩,h129,e7,e11,e16,e18,e19,hdf⟩;obtain ⟨T2,ds2⟩ := a';dsimp only at h129 e7 e11 e16 e18 e19 e20 hdf;subst hdf;obtain ⟨v3,hT3,hv⟩ := arr_fun T2 129 h129;have e' : ((List.range 129).map v3).toArray = #[v3 0,v3 1,v3 2,v3 3,v3 4,v3 5,v3 6,v3 7,v3 8,v3 9,v3 10,v3 11,v3 12,v3 13,v3 14,v3 15,v3 16,v3 17,v3 18,v3 19,v3 20,v3 21,v3 22,v3 23,v3 24,v3 25,v3 26,v3 27,v3 28,v3 29,v3 30,v3 31,v3 32,v3 33,v3 34,v3 35,v3 36,v3 37,v3 38,v3 39,v3 40,v3 41,v3 42,v3 43,v3 44,v3 45,v3 46,v3 47,v3 48,v3 49,v3 50,v3 51,v3 52,v3 53,v3 54,v3 55,v3 56,v3 57,v3 58,v3 59,v3 60,v3 61,v3 62,v3 63,v3 64,v3 65,v3 66,v3 67,v3 68,v3 69,v3 70,v3 71,v3 72,v3 73,v3 74,v3 75,v3 76,v3 77,v3 78,v3 79,v3 80,v3 81,v3 82,v3 83,v3 84,v3 85,v3 86,v3 87,v3 88,v3 89,v3 90,v3 91,v3 92,v3 93,v3 94,v3 95,v3 96,v3 97,v3 98,v3 99,v3 100,v3 101,v3 102,v3 103,v3 104,v3 105,v3 106,v3 107,v3 108,v3 109,v3 110,v3 111,v3 112,v3 113,v3 114,v3 115,v3 116,v3 117,v3 118,v3 119,v3 120,v3 121,v3 122,v3 123,v3 124,v3 125,v3 126,v3 127,v3 128] := rfl;rw [show v3 7 = _ from (hv 7).symm.trans e7,show v3 11 = _ from (hv 11).symm.trans e11,show v3 16 = _ from (hv 16).symm.trans e16,show v3 18 = _ from (hv 18).symm.trans e18,show v3 19 = _ from (hv 19).symm.trans e19,show v3 20 = _ from (hv 20).symm.trans e20] at e';rw [hT3,e'];clear hT3 hv e' e7 e11 e16 e18 e19 e20 h129;obtain ⟨hjm,hsel,sb,so,eSA,hsc⟩ := HSH.out q0 r hq0 hrn hno hin;subst eSA;have hbV : Below (b17 + 1) w5 V := hT.below (by have := H5.out.2.2.2.2.2;omega) (by rintro x hx (e9 | e9) <;> omega);have hmV := hmB.next hbV;have HV := Lib.hid (And.intro hmV (And.intro hT (And.intro h18 h19)));obtain ⟨j,hj⟩ : ∃ j,(sel e.ky.P [p.k] q0).length = j := ⟨_,rfl⟩;rw [hj] at hjm hsc h19 HV;have HSL := Lib.hid (And.intro hsel (And.intro hj (And.intro hq0 (And.intro hno hin))));obtain ⟨s0,s1⟩ := hsc V hmV.bel;have HSC := Lib.hid hsc;have c19 := h19.cell (i := 0) rfl;have c11 := hmV.r11.cell (i := 0) rfl;have hjm1 : (j : Int) < (m : Int) := by omega
  have hj0 : (0 : Int) ≤ (j : Int) := by omega
  have hne : ((j : Int) == (m : Int)) = false := by rw [beq_eq_false_iff_ne];omega
  clear hsel hno hin hT h18 h19 hbV hmV hsc hj
  gi_wp2_with fail
  obtain ⟨WS,hWS⟩ : ∃ x,wsum us (shr e.ky.ds e.ky.xs) (sel e.ky.P [p.k] q0) = x := ⟨_,rfl⟩;rw [hWS] at HV;have HWS := Lib.hid hWS;have hus := HUS.out r hrn;obtain ⟨UR,hUR⟩ : ∃ x,us.getD r 0 = x := ⟨_,rfl⟩;rw [hUR] at hus;have HUR := Lib.hid hus;have HUV := Lib.hid hUR;have hr0 : (0 : Int) ≤ (r : Int) := by omega
  have hrP : (r : Int) < (e.ky.P.length : Int) := by rw [HNN.out];omega
  have HRN := Lib.hid hrn;clear hus hUR hWS hne;rename_i Kz hKz;refine wpIn_region_treeC (fun (i : Nat) (W : World) => MK K e s g zb b16 b17 us AA ac PTV CHV (some ⟨sb,so,none⟩) m sc p w W (b17 + 1) ∧ Row W (b17 + 1) 3 [.int .i64 WS] ∧ Row W (b17 + 1 + 1) 3 [.int .i64 (j : Int)]) (.take 0 (.take 1 (.take 2 (.take 3 (.take 4 (.take 5 (.take 6 (.take 7 (.one 8 (.take 9 (.take 10 (.take 11 (.take 12 (.take 13 .done)))))))))))))) (by kernel_rfl) (by kernel_rfl) (by kernel_rfl) (by kernel_rfl) (by kernel_rfl) ?_;have hC1 : MK K e s g zb b16 b17 us AA ac PTV CHV (some ⟨sb,so,none⟩) m sc p w V.drew (b17 + 1) ∧ Row V.drew (b17 + 1) 3 [.int .i64 WS] ∧ Row V.drew (b17 + 1 + 1) 3 [.int .i64 (j : Int)] := ⟨HV.out.1.next (Below.refl _ V).drew,HV.out.2.2.1,HV.out.2.2.2⟩;have hT1 : Tch (fun x => x = b17 + 1 ∨ x = b17 + 1 + 1) V V.drew := (Tch.refl _ V).drew;have HVR := Lib.hid (And.intro HV.out.2.1 (And.intro HV.out.2.2.1 HV.out.2.2.2));clear c19 c11 s0 s1 HV;generalize V.drew = V1 at hC1 hT1 ⊢;refine wpOTC_take rfl _ (by rfl) (fun _ => rfl) (by intro w' hS;have c3 := hS.1.r7.cell (i := 3) rfl;have c11 := hS.1.r11.cell (i := 0) rfl;have c19 := hS.2.2.cell (i := 0) rfl;obtain ⟨s0,s1⟩ := HSC.out w' hS.1.bel;have c18 := hS.2.1.cell (i := 0) rfl;have c16 := hS.1.r16.cell (i := 0) rfl;have c6 := hS.1.wk.row.cell (i := 6) rfl;have cz := hS.1.rz.cell HUR.out;go_simp;try with_reducible rfl) hC1 fun KK hKK => ?_;go_simp;refine hKK _ ?_;clear hKK KK;refine wpOTC_take rfl _ (by rfl) (fun _ => rfl) (fun w' hS => run_load_exec 25 (.tmp 63) rfl ⟨s,1,none⟩ (by rfl) [.slice e.ky.RA e.ky.P.length e.ky.rc,.slice e.ky.OA e.ky.P.length e.ky.oc] _ (hS.1.r7.load 1 rfl) Tryz.underlying25 (by rfl) (by kernel_rfl)) hC1 fun KK hKK => ?_
  iterate 5 (go_simp;refine hKK _ ?_;clear hKK KK;refine wpOTC_take rfl _ (by rfl) (fun _ => rfl) (by intro w' hS;have c3 := hS.1.r7.cell (i := 3) rfl;have c11 := hS.1.r11.cell (i := 0) rfl;have c19 := hS.2.2.cell (i := 0) rfl;obtain ⟨s0,s1⟩ := HSC.out w' hS.1.bel;have c18 := hS.2.1.cell (i := 0) rfl;have c16 := hS.1.r16.cell (i := 0) rfl;have c6 := hS.1.wk.row.cell (i := 6) rfl;have cz := hS.1.rz.cell HUR.out;go_simp;try with_reducible rfl) hC1 fun KK hKK => ?_)
  go_simp;refine hKK _ ?_;clear hKK KK;refine wpOTC_take rfl _ (by rfl) (fun _ => rfl) (fun w' hS => run_load_exec 63 (.tmp 69) rfl ⟨sb,so + j * 2,none⟩ (by rfl) [.int .i64 (r : Int),.int .i64 (shr e.ky.ds e.ky.xs r)] _ (two_at (HSC.out w' hS.1.bel).1 (HSC.out w' hS.1.bel).2) Tryz.underlying63 (by rfl) (by kernel_rfl)) hC1 fun KK hKK => ?_;go_simp;refine hKK _ ?_;clear hKK KK;refine wpOTC_one _ rfl (by rfl) rfl fun KK hKK => ?_;go_simp;refine ⟨trivial,(CallsIn.inRound l (callsIn_wide.2 (HFT.out V1 r hC1.1.bel HRN.out))).mono ?_⟩;rintro r9 V2 ⟨rfl,hb⟩;have hC2 : MK K e s g zb b16 b17 us AA ac PTV CHV (some ⟨sb,so,none⟩) m sc p w V2 (b17 + 1) ∧ Row V2 (b17 + 1) 3 [.int .i64 WS] ∧ Row V2 (b17 + 1 + 1) 3 [.int .i64 (j : Int)] := ⟨hC1.1.next (hb.mono hC1.1.lB),hC1.2.1.below hb hC1.2.1.lt,hC1.2.2.below hb hC1.2.2.lt⟩;have hT2 : Tch (fun x => x = b17 + 1 ∨ x = b17 + 1 + 1) V V2 := hT1.next hb;refine hKK _ _ (fun _ _ => hC2) ?_;clear hKK KK hb hC1 hT1
  iterate 5 (refine wpOTC_take rfl _ (by rfl) (fun _ => rfl) (by intro w' hS;skip;go_simp;try with_reducible rfl) hC2 fun KK hKK => ?_;go_simp;refine hKK _ ?_;clear hKK KK)
  refine wpOTC_done ?_;show Kz _ _;refine hKz _ _ ?_;clear hKz Kz;have H2 := Lib.hid (And.intro hC2 hT2);clear hC2 hT2
  gi_wp2_with fail
  rename_i Kz hKz;refine wpIn_region_treeC (fun (i : Nat) (W : World) => MK K e s g zb b16 b17 us AA ac PTV CHV (some ⟨sb,so,none⟩) m sc p w W (b17 + 1) ∧ Row W (b17 + 1) 3 [.int .i64 WS] ∧ Row W (b17 + 1 + 1) 3 [.int .i64 (j : Int)]) (.take 0 (.take 1 (.take 2 (.take 3 (.take 4 (.take 5 (.take 6 (.take 7 (.take 8 (.take 9 (.take 10 (.take 11 (.take 12 (.one 13 (.one 14 (.one 15 .done)))))))))))))))) (by kernel_rfl) (by kernel_rfl) (by kernel_rfl) (by kernel_rfl) (by kernel_rfl) ?_;have hC3 : MK K e s g zb b16 b17 us AA ac PTV CHV (some ⟨sb,so,none⟩) m sc p w V2.drew (b17 + 1) ∧ Row V2.drew (b17 + 1) 3 [.int .i64 WS] ∧ Row V2.drew (b17 + 1 + 1) 3 [.int .i64 (j : Int)] := ⟨H2.out.1.1.next (Below.refl _ V2).drew,H2.out.1.2.1,H2.out.1.2.2⟩;have hT3 : Tch (fun x => x = b17 + 1 ∨ x = b17 + 1 + 1) V V2.drew := H2.out.2.drew;clear H2;generalize V2.drew = V3 at hC3 hT3 ⊢
  iterate 13 (refine wpOTC_take rfl _ (by rfl) (fun _ => rfl) (by intro w' hS;have c3 := hS.1.r7.cell (i := 3) rfl;have c11 := hS.1.r11.cell (i := 0) rfl;have c19 := hS.2.2.cell (i := 0) rfl;obtain ⟨s0,s1⟩ := HSC.out w' hS.1.bel;have c18 := hS.2.1.cell (i := 0) rfl;have c16 := hS.1.r16.cell (i := 0) rfl;have c6 := hS.1.wk.row.cell (i := 6) rfl;have cz := hS.1.rz.cell HUR.out;go_simp;try with_reducible rfl) hC3 fun KK hKK => ?_;go_simp;refine hKK _ ?_;clear hKK KK)
  refine wpOTC_one _ rfl (by rfl) rfl fun KK hKK => ?_;go_simp;refine ⟨trivial,(CallsIn.inRound l (callsIn_wide.2 (mul_any _ _ _))).mono ?_⟩;rintro r9 w9 ⟨rfl,rfl⟩;refine hKK _ _ (fun _ _ => hC3) ?_;clear hKK KK;refine wpOTC_one _ rfl (by rfl) rfl fun KK hKK => ?_;go_simp;refine ⟨trivial,(CallsIn.inRound l (callsIn_wide.2 (add_any _ _ _))).mono ?_⟩;rintro r9 V4 ⟨rfl,hw9⟩;have hb : Below V3.heap.size V3 V4 := by rw [← hw9];exact (Below.refl _ _).alloc (Nat.le_refl _) _
  have hC4 : MK K e s g zb b16 b17 us AA ac PTV CHV (some ⟨sb,so,none⟩) m sc p w V4 (b17 + 1) ∧ Row V4 (b17 + 1) 3 [.int .i64 WS] ∧ Row V4 (b17 + 1 + 1) 3 [.int .i64 (j : Int)] := ⟨hC3.1.next (hb.mono hC3.1.lB),hC3.2.1.below hb hC3.2.1.lt,hC3.2.2.below hb hC3.2.2.lt⟩;have hT4 : Tch (fun x => x = b17 + 1 ∨ x = b17 + 1 + 1) V V4 := hT3.next hb;refine hKK _ _ (fun _ _ => hC4) ?_;clear hKK KK hb hC3 hT3 hw9;refine wpOTC_one [] rfl (by rfl) (by kernel_rfl) fun KK hKK => ?_;have c18 := hC4.2.1.cell (i := 0) rfl;have f18 := hC4.2.1.fz 0;go_simp;refine hKK _ _ (by intro e9 he;simp at he) ?_;clear hKK KK c18 f18;refine wpOTC_done ?_;show Kz _ _;refine hKz _ _ ?_;clear hKz Kz;have h18 : Row (V4.setCell ⟨b17 + 1,0,none⟩ (.int .i64 (Fm.ad WS (Fm.ml UR (shr e.ky.ds e.ky.xs r))))) (b17 + 1) 3 [.int .i64 (Fm.ad WS (Fm.ml UR (shr e.ky.ds e.ky.xs r)))] := hC4.2.1.put 0 _;have h19 := hC4.2.2.away (p := ⟨b17 + 1,0,none⟩) (by show b17 + 1 + 1 ≠ b17 + 1;omega) (.int .i64 (Fm.ad WS (Fm.ml UR (shr e.ky.ds e.ky.xs r))));have hT5 := hT4.set (p := ⟨b17 + 1,0,none⟩) (.inr (.inl rfl)) (.int .i64 (Fm.ad WS (Fm.ml UR (shr e.ky.ds e.ky.xs r))));have H5' := Lib.hid (And.intro h18 (And.intro h19 hT5));have c19 := h19.cell (i := 0) rfl;have f19 := h19.fz 0;clear h18 h19 hT5 hC4 hT4;generalize V4.setCell ⟨b17 + 1,0,none⟩ (.int .i64 (Fm.ad WS (Fm.ml UR (shr e.ky.ds e.ky.xs r)))) = V5 at H5' c19 f19 ⊢
  gi_wp2_with fail
  have hj60 : j < 60 := by have := sel_le e.ky.P [p.k] q0;have := HSL.out.2.1;have := HN60.out.1;omega
  have hwr : wrap64 ((j : Int) + 1) = ((j + 1 : Nat) : Int) := by simp only [wrap64];omega
  rw [hwr];have hT6 := H5'.out.2.2.set (p := ⟨b17 + 1 + 1,0,none⟩) (.inr (.inr rfl)) (.int .i64 ((j + 1 : Nat) : Int));refine ⟨hT6.keepsFrom ?_,HRN.out,HVR.out.1.trans hT6,?_,?_⟩
  ·rintro x (rfl | rfl) o9 ho
   ·exact HVR.out.2.1.isc ho
   ·exact HVR.out.2.2.isc ho
  ·have e9 : wsum us (shr e.ky.ds e.ky.xs) (sel e.ky.P [p.k] (r + 1)) = Fm.ad WS (Fm.ml UR (shr e.ky.ds e.ky.xs r)) := by rw [HSL.out.1,wsum_snoc,HWS.out,HUV.out]
   rw [e9];exact H5'.out.1.away (p := ⟨b17 + 1 + 1,0,none⟩) (by show b17 + 1 ≠ b17 + 1 + 1;omega) _
  ·have e9 : (sel e.ky.P [p.k] (r + 1)).length = j + 1 := by rw [HSL.out.1,List.length_append,HSL.out.2.1];rfl
   rw [e9];exact H5'.out.2.1.put 0 _
 case done =>
  rintro D q V hD hOS ⟨hq,hT,h18,h19⟩ hd;have e9 : sel e.ky.P [p.k] q = sel e.ky.P [p.k] e.ky.P.length := (sel_skip (by rw [HNN.out];exact hq) fun j h1 h2 => hOS j h1 h2).symm;rw [e9] at h18 h19;rw [HM.out] at h19;clear e9 hOS hq;obtain ⟨WS,hWS⟩ : ∃ x,wsum us (shr e.ky.ds e.ky.xs) (sel e.ky.P [p.k] e.ky.P.length) = x := ⟨_,rfl⟩;rw [hWS] at h18;have HWS := Lib.hid hWS;clear hWS;have hbV : Below (b17 + 1) w5 V := hT.below (by have := H5.out.2.2.2.2.2;omega) (by rintro x hx (e9 | e9) <;> omega);have hmV := hmB.next hbV;have HV := Lib.hid (And.intro hmV (And.intro h18 (And.intro h19 (And.intro hT (And.intro hD hd)))));have c19 := h19.cell (i := 0) rfl;have c11 := hmV.r11.cell (i := 0) rfl;clear hT h18 h19 hbV hmV hd
  gi_wp2_with fail
  rename_i Kz hKz;refine wpIn_region_treeC (fun (i : Nat) (W : World) => MK K e s g zb b16 b17 us AA ac PTV CHV SA m sc p w W (b17 + 1) ∧ Row W (b17 + 1) 3 [.int .i64 WS]) (.take 0 (.take 2 (.take 3 (.one 1 (.take 4 (.take 5 (.take 6 (.take 8 (.take 9 (.one 7 (.take 10 (.take 11 (.take 12 .done))))))))))))) (by kernel_rfl) (by kernel_rfl) (by kernel_rfl) (by kernel_rfl) (by kernel_rfl) ?_;have hC1 : MK K e s g zb b16 b17 us AA ac PTV CHV SA m sc p w V.drew (b17 + 1) ∧ Row V.drew (b17 + 1) 3 [.int .i64 WS] := ⟨HV.out.1.next (Below.refl _ V).drew,HV.out.2.1⟩;have hT1 : Tch (fun x => x = s + 2 ∨ x = s + 3) V V.drew := (Tch.refl _ V).drew;clear c19 c11;generalize V.drew = V1 at hC1 hT1 ⊢
  iterate 3 (refine wpOTC_take rfl _ (by rfl) (fun _ => rfl) (by intro w' hS;have c2 := hS.1.r17.cell (i := 2) rfl;have c3 := hS.1.r17.cell (i := 3) rfl;have c16 := hS.1.r16.cell (i := 0) rfl;have c18 := hS.2.cell (i := 0) rfl;have c12 := hS.1.wk.row.cell (i := 12) rfl;go_simp;try with_reducible rfl) hC1 fun KK hKK => ?_;go_simp;refine hKK _ ?_;clear hKK KK)
  refine wpOTC_one _ rfl (by rfl) rfl fun KK hKK => ?_;go_simp;refine ⟨trivial,(callsIn_wide.2 (HPW.out V1 p.d HDF.out.1)).mono ?_⟩;rintro r9 V2 ⟨rfl,hb⟩;have hC2 : MK K e s g zb b16 b17 us AA ac PTV CHV SA m sc p w V2 (b17 + 1) ∧ Row V2 (b17 + 1) 3 [.int .i64 WS] := ⟨hC1.1.next (hb.mono hC1.1.lB),hC1.2.below hb hC1.2.lt⟩;have hT2 : Tch (fun x => x = s + 2 ∨ x = s + 3) V V2 := hT1.next hb;refine hKK _ _ (fun _ _ => hC2) ?_;clear hKK KK hb hC1 hT1
  iterate 5 (refine wpOTC_take rfl _ (by rfl) (fun _ => rfl) (by intro w' hS;have c2 := hS.1.r17.cell (i := 2) rfl;have c3 := hS.1.r17.cell (i := 3) rfl;have c16 := hS.1.r16.cell (i := 0) rfl;have c18 := hS.2.cell (i := 0) rfl;have c12 := hS.1.wk.row.cell (i := 12) rfl;go_simp;try with_reducible rfl) hC2 fun KK hKK => ?_;go_simp;refine hKK _ ?_;clear hKK KK)
  refine wpOTC_one _ rfl (by rfl) rfl fun KK hKK => ?_;go_simp;refine ⟨trivial,(callsIn_wide.2 (HPW.out V2 p.f HDF.out.2)).mono ?_⟩;rintro r9 V3 ⟨rfl,hb⟩;have hC3 : MK K e s g zb b16 b17 us AA ac PTV CHV SA m sc p w V3 (b17 + 1) ∧ Row V3 (b17 + 1) 3 [.int .i64 WS] := ⟨hC2.1.next (hb.mono hC2.1.lB),hC2.2.below hb hC2.2.lt⟩;have hT3 : Tch (fun x => x = s + 2 ∨ x = s + 3) V V3 := hT2.next hb;refine hKK _ _ (fun _ _ => hC3) ?_;clear hKK KK hb hC2 hT2
  iterate 3 (refine wpOTC_take rfl _ (by rfl) (fun _ => rfl) (by intro w' hS;skip;go_simp;try with_reducible rfl) hC3 fun KK hKK => ?_;go_simp;refine hKK _ ?_;clear hKK KK)
  refine wpOTC_done ?_;show Kz _ _;refine hKz _ _ ?_;clear hKz Kz;have H3 := Lib.hid (And.intro hC3 hT3);clear hC3 hT3
  gi_wp2_with fail
  rename_i Kz hKz;refine wpIn_region_treeC (fun (i : Nat) (W : World) => MK K e s g zb b16 b17 us AA ac PTV CHV SA m sc p w W (b17 + 1) ∧ Row W (b17 + 1) 3 [.int .i64 WS]) (.take 0 (.take 1 (.take 2 (.take 3 (.take 7 (.take 8 (.take 9 (.take 10 (.take 11 (.one 4 (.one 5 (.one 6 (.one 12 (.one 13 (.one 14 (.one 15 .done)))))))))))))))) (by kernel_rfl) (by kernel_rfl) (by kernel_rfl) (by kernel_rfl) (by kernel_rfl) ?_;have hC4 : MK K e s g zb b16 b17 us AA ac PTV CHV SA m sc p w V3.drew (b17 + 1) ∧ Row V3.drew (b17 + 1) 3 [.int .i64 WS] := ⟨H3.out.1.1.next (Below.refl _ V3).drew,H3.out.1.2⟩;have hT4 : Tch (fun x => x = s + 2 ∨ x = s + 3) V V3.drew := H3.out.2.drew;clear H3;generalize V3.drew = V4 at hC4 hT4 ⊢
  iterate 3 (refine wpOTC_take rfl _ (by rfl) (fun _ => rfl) (by intro w' hS;have c2 := hS.1.r17.cell (i := 2) rfl;have c3 := hS.1.r17.cell (i := 3) rfl;have c16 := hS.1.r16.cell (i := 0) rfl;have c18 := hS.2.cell (i := 0) rfl;have c12 := hS.1.wk.row.cell (i := 12) rfl;go_simp;try with_reducible rfl) hC4 fun KK hKK => ?_;go_simp;refine hKK _ ?_;clear hKK KK)
  refine wpOTC_take rfl _ (by rfl) (fun _ => rfl) (fun w' hS => run_load_exec 56 (.tmp 17) rfl ⟨b17,0,none⟩ (by rfl) p.cells _ (hS.1.r17.load 0 rfl) Tryz.underlying56 (by rfl) (by kernel_rfl)) hC4 fun KK hKK => ?_
  iterate 5 (go_simp;refine hKK _ ?_;clear hKK KK;refine wpOTC_take rfl _ (by rfl) (fun _ => rfl) (by intro w' hS;have c2 := hS.1.r17.cell (i := 2) rfl;have c3 := hS.1.r17.cell (i := 3) rfl;have c16 := hS.1.r16.cell (i := 0) rfl;have c18 := hS.2.cell (i := 0) rfl;have c12 := hS.1.wk.row.cell (i := 12) rfl;go_simp;try with_reducible rfl) hC4 fun KK hKK => ?_)
  go_simp;refine hKK _ ?_;clear hKK KK;refine wpOTC_one _ rfl (by rfl) rfl fun KK hKK => ?_;go_simp;refine ⟨trivial,(callsIn_wide.2 (HBI.out V4 _ g _ AA ac _ _ hC4.1.bel hC4.1.wk hC4.1.lB)).mono ?_⟩;rintro r9 V5 ⟨rfl,hb⟩;have hC5 : MK K e s g zb b16 b17 us AA ac PTV CHV SA m sc p w V5 (b17 + 1) ∧ Row V5 (b17 + 1) 3 [.int .i64 WS] := ⟨hC4.1.next (hb.mono hC4.1.lB),hC4.2.below hb hC4.2.lt⟩;have hT5 : Tch (fun x => x = s + 2 ∨ x = s + 3) V V5 := hT4.next hb;refine hKK _ _ (fun _ _ => hC5) ?_;clear hKK KK hb hC4 hT4;refine wpOTC_one _ rfl (by rfl) rfl fun KK hKK => ?_;go_simp;refine ⟨trivial,(callsIn_wide.2 (mul_any _ _ _)).mono ?_⟩;rintro r9 w9 ⟨rfl,rfl⟩;refine hKK _ _ (fun _ _ => hC5) ?_;clear hKK KK;refine wpOTC_one _ rfl (by rfl) rfl fun KK hKK => ?_;go_simp;refine ⟨trivial,(callsIn_wide.2 (add_any _ _ _)).mono ?_⟩;rintro r9 V6 ⟨rfl,hw9⟩;have hb : Below V5.heap.size V5 V6 := by rw [← hw9];exact (Below.refl _ _).alloc (Nat.le_refl _) _
  have hC6 : MK K e s g zb b16 b17 us AA ac PTV CHV SA m sc p w V6 (b17 + 1) ∧ Row V6 (b17 + 1) 3 [.int .i64 WS] := ⟨hC5.1.next (hb.mono hC5.1.lB),hC5.2.below hb hC5.2.lt⟩;have hT6 : Tch (fun x => x = s + 2 ∨ x = s + 3) V V6 := hT5.next hb;refine hKK _ _ (fun _ _ => hC6) ?_;clear hKK KK hb hC5 hT5 hw9;refine wpOTC_one _ rfl (by rfl) rfl fun KK hKK => ?_;go_simp;refine ⟨trivial,(callsIn_wide.2 (mul_any _ _ _)).mono ?_⟩;rintro r9 w9 ⟨rfl,rfl⟩;refine hKK _ _ (fun _ _ => hC6) ?_;clear hKK KK;refine wpOTC_one _ rfl (by rfl) rfl fun KK hKK => ?_;go_simp;refine ⟨trivial,(callsIn_wide.2 (add_any _ _ _)).mono ?_⟩;rintro r9 V7 ⟨rfl,hw9⟩;have hb : Below V6.heap.size V6 V7 := by rw [← hw9];exact (Below.refl _ _).alloc (Nat.le_refl _) _
  have hC7 : MK K e s g zb b16 b17 us AA ac PTV CHV SA m sc p w V7 (b17 + 1) ∧ Row V7 (b17 + 1) 3 [.int .i64 WS] := ⟨hC6.1.next (hb.mono hC6.1.lB),hC6.2.below hb hC6.2.lt⟩;have hT7 : Tch (fun x => x = s + 2 ∨ x = s + 3) V V7 := hT6.next hb;refine hKK _ _ (fun _ _ => hC7) ?_;clear hKK KK hb hC6 hT6 hw9;refine wpOTC_one [] rfl (by rfl) (by kernel_rfl) fun KK hKK => ?_;have c14 := hC7.1.r14.cell (i := 0) rfl;have f14 := hC7.1.r14.fz 0;go_simp;refine hKK _ _ (by intro e9 he;simp at he) ?_;clear hKK KK c14 f14;refine wpOTC_one [] rfl (by rfl) (by kernel_rfl) fun KK hKK => ?_;have r14 : Row (V7.setCell ⟨s + 2,0,none⟩ (.int .i64 (Fm.ad (Fm.ad (p.d : Int) (Fm.ml (p.f : Int) (bnd K e.c0 e.tx e.ps p.k))) (Fm.ml CHV WS)))) (s + 2) 3 [.int .i64 (Fm.ad (Fm.ad (p.d : Int) (Fm.ml (p.f : Int) (bnd K e.c0 e.tx e.ps p.k))) (Fm.ml CHV WS))] := hC7.1.r14.put 0 _;have r15 : Row (V7.setCell ⟨s + 2,0,none⟩ (.int .i64 (Fm.ad (Fm.ad (p.d : Int) (Fm.ml (p.f : Int) (bnd K e.c0 e.tx e.ps p.k))) (Fm.ml CHV WS)))) (s + 3) 33 [.int .i64 0] := hC7.1.r15.away (p := ⟨s + 2,0,none⟩) (by show s + 3 ≠ s + 2;omega) _;have c15 := r15.cell (i := 0) rfl;have f15 := r15.fz 0;go_simp;refine hKK _ _ (by intro e9 he;simp at he) ?_;clear hKK KK c15 f15;refine wpOTC_done ?_;show Kz _ _;refine hKz _ _ ?_;clear hKz Kz;have r14b := r14.away (p := ⟨s + 3,0,none⟩) (by show s + 2 ≠ s + 3;omega) (.int .i64 0);have r15b : Row _ (s + 3) 33 [.int .i64 0] := r15.put 0 (.int .i64 0);have hT9 := (hT7.set (p := ⟨s + 2,0,none⟩) (.inr (.inl rfl)) (.int .i64 (Fm.ad (Fm.ad (p.d : Int) (Fm.ml (p.f : Int) (bnd K e.c0 e.tx e.ps p.k))) (Fm.ml CHV WS)))).set (p := ⟨s + 3,0,none⟩) (.inr (.inr rfl)) (.int .i64 0);have hb9 : Below s w ((V7.setCell ⟨s + 2,0,none⟩ (.int .i64 (Fm.ad (Fm.ad (p.d : Int) (Fm.ml (p.f : Int) (bnd K e.c0 e.tx e.ps p.k))) (Fm.ml CHV WS)))).setCell ⟨s + 3,0,none⟩ (.int .i64 0)) := (hC7.1.bel.setCell (p := ⟨s + 2,0,none⟩) (by show s ≤ s + 2;omega) _).setCell (p := ⟨s + 3,0,none⟩) (by show s ≤ s + 3;omega) _;have H9 := Lib.hid (And.intro r14b (And.intro r15b (And.intro hT9 hb9)))
  have HMK : Hid (mkz K e us p = (Fm.ad (Fm.ad (p.d : Int) (Fm.ml (p.f : Int) (bnd K e.c0 e.tx e.ps p.k))) (Fm.ml CHV WS))) := by
   show mkz K e us p = (Fm.ad (Fm.ad (p.d : Int) (Fm.ml (p.f : Int) (bnd K e.c0 e.tx e.ps p.k))) (Fm.ml CHV WS));unfold mkz;rw [HPTV.out,HCHV.out,HWS.out]
  clear r14 r15 r14b r15b hT9 hb9 hC7 hT7;generalize (Fm.ad (Fm.ad (p.d : Int) (Fm.ml (p.f : Int) (bnd K e.c0 e.tx e.ps p.k))) (Fm.ml CHV WS)) = RS at H9 HMK ⊢;generalize ((V7.setCell ⟨s + 2,0,none⟩ (.int .i64 RS)).setCell ⟨s + 3,0,none⟩ (.int .i64 0)) = V9 at H9 ⊢
  gi_wp2_with fail
  have hD := HV.out.2.2.2.2.1;have hs5 := H5.out.2.2.2.2.2;have hl3 := H5.out.1.l3;have hm9 : Marks (b17 + 1) V.heap.size [{ target := .collected D,args := #[] }] V := (Marks.nil (b17 + 1) (b17 + 1) V).cons (by omega) (by omega) (heap_lt HV.out.2.2.2.2.2) HV.out.2.2.2.2.2;refine leaves_marks (C := V.heap.size) _ _ (hm9.tch H9.out.2.2.1 (by intro k hk e9;omega) (Nat.le_refl _)) fun w' hb' => ?_;refine ⟨_,results_cc rfl _ _ (s + 2) (s + 3) (.int .i64 RS) (.int .i64 0) (by rfl) (by rfl) ((hb'.cell (p := ⟨s + 2,0,none⟩) (by show s + 2 < b17 + 1;omega)).trans (H9.out.1.cell (i := 0) rfl)) ((hb'.cell (p := ⟨s + 3,0,none⟩) (by show s + 3 < b17 + 1;omega)).trans (H9.out.2.1.cell (i := 0) rfl)) (by kernel_rfl) (by kernel_rfl),by rw [HMK.out] <;> rfl,?_⟩;rw [HS.out];exact H9.out.2.2.2.trans (hb'.mono (by omega))
 case stop =>
  rintro D c q W hD h hd;exact h.elim
theorem results_t4 {P : Program} {fn : Func} {p q r t : Tmp} (h : fn.results = #[.tmp p,.tmp q,.tmp r,.tmp t]) (tmps : Array Value) (w : World) :
  (results fn tmps).run P w = .ok (.tuple #[tmps.getD p undef,tmps.getD q undef,tmps.getD r undef,tmps.getD t undef]) w := by
 simp [results,h]
def ptv (K : Sh.Cst) (e : We) : Int := (Gm.pw (pte K e.c0 e.tx e.ps e.ps.length) : Int)
def chv (K : Sh.Cst) (e : We) : Int := chl K (ptv K e) e.c0 e.tx
theorem pbindall_any (K : Sh.Cst) (e : We) (us : List Int) (w : World) (h : e.ok w w.heap.size) (hacc : AccR e.ky.N e.ky.ds e.ky.P (e.ps.map Pr.k) true us) :
  Calls Tryz.prog 118 #[.agg #[.int .i64 0,.slice e.ky.RA e.ky.P.length e.ky.rc,.slice e.ky.OA e.ky.P.length e.ky.oc,.slice e.ky.CA e.ky.N e.ky.cc],.slice e.TA e.tx.length e.tc,.slice e.PA e.ps.length e.pc] w fun r w' =>
   (∃ v,r = .returned (.tuple #[v,.int .i64 (ptv K e),.int .i64 (chv K e),.int .i64 0])) ∧ Below w.heap.size w w' := by
 obtain ⟨s,hs⟩ : ∃ s,w.heap.size = s := ⟨_,rfl⟩;obtain ⟨w0,hw0⟩ : ∃ w0,w.alloc (.cells #[.int .i64 0,.slice e.ky.RA e.ky.P.length e.ky.rc,.slice e.ky.OA e.ky.P.length e.ky.oc,.slice e.ky.CA e.ky.N e.ky.cc] 45) = w0 := ⟨_,rfl⟩;have hb0 : Below s w w0 := by rw [← hw0,← hs];exact (Below.refl _ w).alloc (Nat.le_refl _) _
 have HBE : Hid (Calls Tryz.prog 46 #[.agg #[.int .i64 0,.slice e.ky.RA e.ky.P.length e.ky.rc,.slice e.ky.OA e.ky.P.length e.ky.oc,.slice e.ky.CA e.ky.N e.ky.cc],.slice e.TA e.tx.length e.tc,.slice e.PA e.ps.length e.pc] w0 (BegQ K e us w0)) := begin_any K e us w0 (h.go hs hb0) hacc
 have HBI : Hid (∀ W B g wv AA ac pt ch j,Below s w W → Wk K e g wv AA ac pt ch W B → B ≤ W.heap.size → j < e.ps.length → Calls Tryz.prog 53 #[.pointer (some ⟨g,0,none⟩),.agg (e.ps.getD j default).cells.toArray] W fun r w' => r = .returned (.int .i64 (bnd K e.c0 e.tx e.ps (e.ps.getD j default).k)) ∧ Below W.heap.size W w') := fun W B g wv AA ac pt ch j hW hwk hB hj =>
  pbind_any K e (e.ps.getD j default) g wv AA ac pt ch W (h.go hs hW) (hwk.more hB) (h.pk _ (by rw [List.getD_eq_getElem?_getD,List.getElem?_eq_getElem hj];exact List.getElem_mem _))
 have HPA : Hid (∃ b o,e.PA = some ⟨b,o,none⟩ ∧ ∀ j,j < e.ps.length → ∀ W,Below s w W → ∀ t v,(e.ps.getD j default).cells[t]? = some v → W.cell? ⟨b,o + j * 4 + t,none⟩ = some v) := by
  obtain ⟨b,o,e1,_,hc⟩ := pr_at (k := 0) h.ps rfl h.p0;exact ⟨b,o,e1,fun j hj W hW t v hv => hc j hj t v hv W (by rw [hs];exact hW)⟩
 have hpl := h.pl;have hs0 : w0.heap.size = s + 1 := by rw [← hw0,World.size_alloc,hs]
 have HB0 := Lib.hid (And.intro hb0 hs0);have HW0 := Lib.hid hw0;have HS := Lib.hid hs;clear h hacc hb0 hw0 hs hs0;go_enter Tryz.func118,Tryz.ntmps118
 go_wp2_with fail
 rw [HW0.out,HS.out];refine HBE.out.mono ?_;rintro r w1 ⟨⟨g,zb,AA,ac,rfl,hwk,hz⟩,hb1⟩;rw [HB0.out.2] at hb1;have hbw := HB0.out.1.trans (hb1.mono (Nat.le_succ s));have hs1 : s + 1 ≤ w1.heap.size := by have := hb1.size;rw [HB0.out.2] at this;exact this
 have HW1 := Lib.hid (And.intro hwk (And.intro hbw hs1));generalize hPT : (Gm.pw (pte K e.c0 e.tx e.ps e.ps.length) : Int) = PTV at HW1;generalize hCH : chl K PTV e.c0 e.tx = CHV at HW1
 have HPC : Hid (ptv K e = PTV ∧ chv K e = CHV) := by
  have e1 : ptv K e = PTV := hPT;exact ⟨e1,by unfold chv;rw [e1];exact hCH⟩
 clear hwk hz hb1 hbw hs1 hPT hCH
 go_wp2_with fail
 go_loopw [6,25] (fun l i wr => ∃ (k : Nat) (A : Option Addr) (c : Nat) (D : List Value),k ≤ e.ps.length ∧ i = .int .i64 k ∧ l = .slice A k c ∧ One w1 w1.heap.size wr 3 1 (.slice A k c) k D) (fun _ i _ => e.ps.length - (intOf i).toNat)
 case atStart => exact ⟨0,none,0,[],Nat.zero_le _,rfl,rfl,One.start _ _ _⟩
 case round =>
  obtain ⟨k,A,c,D,hk,rfl,rfl,T⟩ := hrel;have HT := Lib.hid T;have HBR : Hid (Below s w wr) := HW1.out.2.1.trans (T.bel.mono (by have := HW1.out.2.2;omega));clear T
  by_cases hlt : k < e.ps.length
  ·have k1 : (k : Int) < (e.ps.length : Int) := by omega
   have k0 : (0 : Int) ≤ (k : Int) := by omega
   obtain ⟨b,o,hA1,hcc⟩ := HPA.out;rw [hA1];have q0 := hcc k hlt wr HBR.out 0 _ rfl;have q1 := hcc k hlt wr HBR.out 1 _ rfl;have q2 := hcc k hlt wr HBR.out 2 _ rfl;have q3 := hcc k hlt wr HBR.out 3 _ rfl;rw [Nat.add_zero] at q0;have HC := Lib.hid (fun W hW hwk hB => HBI.out W w1.heap.size g (.slice (some ⟨zb,0,none⟩) e.ky.P.length e.ky.P.length) AA ac PTV CHV k hW hwk hB hlt);unfold Pr.cells at HC;generalize e.ps.getD k default = p at q0 q1 q2 q3 HC;obtain ⟨pk,pno,pd,pf⟩ := p;dsimp only at HC;generalize (Gm.pw pd : Int) = PD at q2 HC;generalize (Gm.pw pf : Int) = PF at q3 HC;clear hcc
   go_wp2_with fail
   have T2 := HT.out.alloc (.cells #[.int .i64 pk,.int .i64 pno,.int .i64 PD,.int .i64 PF] 56);have hb2 := HBR.out.alloc (by have := HBR.out.size;have := HS.out;omega) (.cells #[.int .i64 pk,.int .i64 pno,.int .i64 PD,.int .i64 PF] 56);refine (HC.out _ hb2 (HW1.out.1.below T2.bel) T2.bel.size).mono ?_;rintro r w3 ⟨rfl,hb⟩;have HT7 := Lib.hid (T2.below hb);clear hb q0 q1 q2 q3 HT T2 hb2 HC;generalize bnd K e.c0 e.tx e.ps pk = V
   go_wp2_with (at_builtin;refine wpList_append_rd _ rfl (.tmp 29) (.tmp 33) 23 rfl w1.heap.size 3 _ (.int .i64 0) 1 8 Tryz.underlying23 rfl rfl rfl rfl rfl (by decide) (.slice A k c) k D (by rfl) (HT7.out.own.alloc _) (w3.heap.size + 1) (some ⟨w3.heap.size,0,none⟩) 1 1 [.int .i64 V] (by rfl) (rd_newU w3 3 (.int .i64 V)) (by intro u hu;simp at hu;rw [hu];rfl) (by unfold maxLen;omega) (by omega) (by have := HT7.out.size;simp;omega) ?_;intro v8 w8 hown8 hg8 _)
   have T8 := (HT7.out.alloc (.cells #[.int .i64 V] 3)).grew hown8 hg8;obtain ⟨g8,c8,hv8,hu1,hu2⟩ := hown8.form (by omega);clear hu1 hu2;subst hv8;have HT8 := Lib.hid T8;clear T8 hown8 hg8
   go_wp2_with fail
   go_roundw
   case rel => exact ⟨k + 1,_,_,_,by omega,by go_num,rfl,HT8.out⟩
   case measure => simp [intOf];omega
  ·obtain ⟨KN,hKN⟩ : ∃ x,e.ps.length = x := ⟨_,rfl⟩
   have hkn : k = KN := by omega
   subst hkn;rw [hKN];clear hlt
   go_wp2_with fail
   rename_i Kz hKz;refine wp_region_treeCW (fun (i : Nat) (W : World) => Wk K e g (.slice (some ⟨zb,0,none⟩) e.ky.P.length e.ky.P.length) AA ac PTV CHV W w1.heap.size) (.take 0 (.take 1 (.take 2 (.take 3 (.take 4 (.take 5 (.take 6 (.take 7 (.take 8 (.take 9 (.take 10 (.take 11 (.take 12 .done))))))))))))) (by kernel_rfl) (by kernel_rfl) (by kernel_rfl) (by kernel_rfl) (by kernel_rfl) ?_;have hC := HW1.out.1.below (HT.out.bel.trans (Below.refl _ wr).drew);have HBR2 : Hid (Below s w wr.drew) := HBR.out.drew;generalize wr.drew = w9 at hC HBR2 ⊢
   iterate 13 (refine wpOTC_take rfl _ (by rfl) (fun _ => rfl) (by intro w' hS;have c11 := hS.row.cell (i := 11) rfl;have c12 := hS.row.cell (i := 12) rfl;go_simp;try with_reducible rfl) hC fun KK hKK => ?_;go_simp;refine hKK _ ?_;clear hKK KK)
   refine wpOTC_done ?_;show Kz _ _;refine hKz _ _ ?_;go_wp2;refine bodyPost_ret (results_t4 rfl _ _) rfl ⟨⟨.slice A k c,?_⟩,by rw [HS.out];exact HBR2.out⟩;rw [HPC.out.1,HPC.out.2]
   rfl
end Go.Proofs.YtifejdpffkeniaaGreatDoor
