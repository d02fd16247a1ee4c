import Derived.Test.YtifejdpffkeniaaGreatDoorS19
import Derived.Test.YtifejdpffkeniaaGreatDoorS16
set_option linter.unusedVariables false
set_option maxRecDepth 100000
set_option maxHeartbeats 40000000
namespace Go.Proofs.YtifejdpffkeniaaGreatDoor
open Go.RowKit
attribute [local go_sem] Oper.semAt_some
theorem rd_row4 {W : World} {g : Nat} {t : TypeId} {cs : List Value} (h : Row W g t cs) (hl : cs.length = 1 * 4 := by rfl) : Rd W (g + 1) 4 (some ⟨g,0,none⟩) 1 cs :=
 ⟨hl,fun _ => ⟨_,_,rfl,Nat.lt_succ_self _,fun j u hu => by rw [Nat.zero_add];exact h.cell hu⟩⟩
theorem cell_lt {w : World} {a : Addr} {v : Value} (h : w.cell? a = some v) : a.block < w.heap.size := by
 rcases Nat.lt_or_ge a.block w.heap.size with h1 | h1
 ·exact h1
 ·have h2 : w.heap[a.block]? = none := Array.getElem?_eq_none_iff.2 h1
  simp [World.cell?,h2] at h
def BegQ (K : Sh.Cst) (e : We) (us : List Int) (w : World) (r : Ending) (w' : World) : Prop :=
 (∃ g zb AA ac,r = .returned (.tuple #[.pointer (some ⟨g,0,none⟩),.int .i64 0]) ∧ Wk K e g (.slice (some ⟨zb,0,none⟩) e.ky.P.length e.ky.P.length) AA ac (Gm.pw (pte K e.c0 e.tx e.ps e.ps.length) : Int) (chl K (Gm.pw (pte K e.c0 e.tx e.ps e.ps.length) : Int) e.c0 e.tx) w' w'.heap.size ∧ Row w' zb 3 (ivs us)) ∧ Below w.heap.size w w'
theorem chl_any (K : Sh.Cst) (e : We) (pt : Int) (W : World) (b : Nat) (h : e.ok W W.heap.size) (hpt : 0 ≤ pt ∧ pt < 2147483579) (hr : Row W b 20 ([Av.int pt,.int e.c0,.byt e.TA e.tx.length e.tc e.tx].map Av.cell)) :
  Calls Tryz.prog 106 #[.string ⟨#[115,105,103,110]⟩,.slice (some ⟨b,0,none⟩) 3 3] W fun r w' => r = .returned (.int .i64 (chl K pt e.c0 e.tx)) ∧ Below W.heap.size W w' := by
 have hc0 := cm_rng e.ky.xs 0;have hts : leafOk (.txt (toBA e.tx)) := by show (toBA e.tx).size ≤ 2000;rw [toBA_size];exact h.tl
 have hci : leafOk (.int e.c0) := leaf_ok_int _ (by unfold We.c0;omega);have hki : leafOk (.int pt) := leaf_ok_int _ (by omega);refine phash_any K ⟨#[115,105,103,110]⟩ (some ⟨b,0,none⟩) 3 3 [Av.int pt,.int e.c0,.byt e.TA e.tx.length e.tc e.tx] (chlEs pt e.c0 e.tx) (fun _ => 0) W (by decide) rfl (by decide) (by decide) ((rd_rowN hr).more hr.lt) ?_ h.la ?_ (fun k _ => by decide) ?_ rfl ?_ ?_
 ·intro a ha
  simp at ha
  rcases ha with rfl | rfl | rfl
  ·trivial
  ·trivial
  ·exact h.tx
 ·intro k x hx
  match k,hx with
  | 0,hx => cases hx;exact fc_int _ _ _
  | 1,hx => cases hx;exact fc_int _ _ _
  | 2,hx => cases hx;exact fc_txt _ _ _
  | k + 3,hx => exact absurd hx (by simp)
 ·intro k x hx
  match k,hx with
  | 0,hx => cases hx;exact leaf_wc hki
  | 1,hx => cases hx;exact leaf_wc hci
  | 2,hx => cases hx;exact leaf_wc hts
  | k + 3,hx => exact absurd hx (by simp)
 ·have h1 := leafE_len hts
  have h2 := leafE_len hci;have h3 := leafE_len hki;show (leafE _ ++ (leafE _ ++ (leafE _ ++ []))).length ≤ 90000;simp only [List.length_append,List.length_nil];omega
 ·intro x hx
  simp [chlEs] at hx
  rcases hx with rfl | rfl | rfl
  ·exact byts_leaf _
  ·exact byts_leaf _
  ·exact byts_leaf _
theorem begin_any (K : Sh.Cst) (e : We) (us : List Int) (w : World) (h : e.ok w w.heap.size) (hacc : AccR e.ky.N e.ky.ds e.ky.P (e.ps.map Pr.k) true us) :
  Calls Tryz.prog 46 #[.agg #[.int .i64 0,.slice e.ky.RA e.ky.P.length e.ky.rc,.slice e.ky.OA e.ky.P.length e.ky.oc,.slice e.ky.CA e.ky.N e.ky.cc],.slice e.TA e.tx.length e.tc,.slice e.PA e.ps.length e.pc] w (BegQ K e us w) := by
 obtain ⟨s,hs⟩ : ∃ s,w.heap.size = s := ⟨_,rfl⟩;obtain ⟨w0,hw0⟩ : ∃ w0,w.alloc (.cells #[.int .i64 0,.slice e.ky.RA e.ky.P.length e.ky.rc,.slice e.ky.OA e.ky.P.length e.ky.oc,.slice e.ky.CA e.ky.N e.ky.cc] 45) = w0 := ⟨_,rfl⟩;have hs0 : w0.heap.size = s + 1 := by rw [← hw0,World.size_alloc,hs]
 have hb00 : Below s w w0 := by rw [← hw0,← hs];exact (Below.refl _ w).alloc (Nat.le_refl _) _
 have hr00 : Row w0 s 45 (#[.int .i64 0,.slice e.ky.RA e.ky.P.length e.ky.rc,.slice e.ky.OA e.ky.P.length e.ky.oc,.slice e.ky.CA e.ky.N e.ky.cc]).toList := by rw [← hw0];exact Row.fresh' _ _ _ hs
 have HW : Hid (∀ W,Below (s + 1) w0 W → Below s w W ∧ Row W s 45 (#[.int .i64 0,.slice e.ky.RA e.ky.P.length e.ky.rc,.slice e.ky.OA e.ky.P.length e.ky.oc,.slice e.ky.CA e.ky.N e.ky.cc]).toList ∧ s + 1 ≤ W.heap.size) := fun W hW => ⟨hb00.trans (hW.mono (Nat.le_succ s)),hr00.below hW (Nat.lt_succ_self s),by have := hW.size;omega⟩
 have HCK : Hid (∀ W,Below (s + 1) w0 W → Calls Tryz.prog 26 #[.agg #[.slice e.ky.RA e.ky.P.length e.ky.rc,.slice e.ky.OA e.ky.P.length e.ky.oc]] W fun r w' => r = .returned (.int .i64 0) ∧ Below W.heap.size W w') := fun W hW => by
  have h2 := (h.go hs (HW.out W hW).1).ky;exact check01_any _ _ _ _ _ _ _ W h2.prg h2.own h2.n0 (by have := h2.n1;omega) (by have := h2.len;omega)
 have HRI : Hid (∀ W,Below (s + 1) w0 W → Calls Tryz.prog 102 #[.agg #[.int .i64 0,.slice e.ky.RA e.ky.P.length e.ky.rc,.slice e.ky.OA e.ky.P.length e.ky.oc,.slice e.ky.CA e.ky.N e.ky.cc]] W fun r w' => r = .returned (.bool true) ∧ Below W.heap.size W w') := fun W hW => pright_any e.ky W (h.go hs (HW.out W hW).1).ky
 have HLI : Hid (∀ W,Calls Tryz.prog 103 #[.slice none 0 0] W fun r w' => r = .returned (.agg #[.int .i64 3,.int .i64 0,.string ⟨#[]⟩,.slice none 0 0]) ∧ Below W.heap.size W w') := fun W => by
  refine (plist_any none 0 0 [] W rfl ⟨rfl,fun h => absurd h (Nat.lt_irrefl 0)⟩ (by simp) (by decide)).mono ?_;rintro r w' ⟨⟨A,c,rfl,_,_,_,h0⟩,hb⟩;obtain ⟨rfl,rfl⟩ := h0 rfl;exact ⟨rfl,hb⟩
 have HVA : Hid (∀ (d : Nat) W,Calls Tryz.prog 62 #[.int .i64 (Gm.pw d : Int)] W fun r w' => r = .returned (.bool true) ∧ W = w') := fun d W => valid_any d W;obtain ⟨n,hn⟩ : ∃ n,e.ps.length = n := ⟨_,rfl⟩;have hPP : Ppl (e.ps.map Pr.k) := ⟨h.pi,fun p hp => by obtain ⟨q,hq,rfl⟩ := List.mem_map.1 hp;exact (h.pk q hq).k0,fun p hp => by obtain ⟨q,hq,rfl⟩ := List.mem_map.1 hp;exact (h.pk q hq).k1⟩
 have HPA : Hid (∃ b o,e.PA = some ⟨b,o,none⟩ ∧ ∀ j,j < n → ∀ W,Below (s + 1) w0 W → ∀ t v,(e.ps.getD j default).cells[t]? = some v → W.cell? ⟨b,o + j * 4 + t,none⟩ = some v) := by
  obtain ⟨b,o,e1,_,hc⟩ := pr_at (k := 0) h.ps rfl h.p0;exact ⟨b,o,e1,fun j hj W hW t v hv => hc j (by omega) t v hv W (by rw [hs];exact (HW.out W hW).1)⟩
 have HLA : Hid (∀ k,k < n → lastI (e.ps.map Pr.k) k < (e.ps.getD k default).k ∧ 0 ≤ (e.ps.getD k default).k ∧ (e.ps.getD k default).k < 64 ∧ 0 ≤ (e.ps.getD k default).no ∧ (e.ps.getD k default).no < 4096 ∧ lastI (e.ps.map Pr.k) (k + 1) = (e.ps.getD k default).k ∧ ivs ((e.ps.take (k + 1)).map Pr.k) = ivs ((e.ps.take k).map Pr.k) ++ [.int .i64 (e.ps.getD k default).k]) := fun k hk => by
  have hk' : k < (e.ps.map Pr.k).length := by simp;omega
  have hk2 : k < e.ps.length := by omega
  obtain ⟨l1,l2,l3,_⟩ := hPP.last hk'
  have ek : (e.ps.map Pr.k).getD k 0 = (e.ps.getD k default).k := by
   rw [List.getD_eq_getElem?_getD,List.getElem?_map,List.getD_eq_getElem?_getD,List.getElem?_eq_getElem hk2];rfl
  rw [ek] at l1 l2 l3;have hok := h.pk (e.ps.getD k default) (by rw [List.getD_eq_getElem?_getD,List.getElem?_eq_getElem hk2];exact List.getElem_mem _);refine ⟨l1,l2,l3,hok.n0,hok.n1,?_,?_⟩
  ·unfold lastI
   rw [if_neg (by omega),Nat.add_sub_cancel,ek]
  ·rw [List.take_succ_eq_append_getElem hk2,List.map_append,List.getD_eq_getElem?_getD,List.getElem?_eq_getElem hk2]
   simp [ivs]
 have HACC : Hid (∀ W WA wc,Below (s + 1) w0 W → Rd W W.heap.size 1 WA n (ivs (e.ps.map Pr.k)) → Calls Tryz.prog 7 #[.agg #[.slice e.ky.RA e.ky.P.length e.ky.rc,.slice e.ky.OA e.ky.P.length e.ky.oc],.slice WA n wc] W fun r w' => ∃ zb,r = .returned (.tuple #[.slice (some ⟨zb,0,none⟩) e.ky.P.length e.ky.P.length,.bool true,.int .i64 0]) ∧ Row w' zb 3 (ivs us) ∧ W.heap.size ≤ zb ∧ Below W.heap.size W w') := fun W WA wc hW hr => by
  have h2 := (h.go hs (HW.out W hW).1).ky;have el : (e.ps.map Pr.k).length = n := by rw [List.length_map];exact hn
  have h3 := acc_any e.ky.N e.ky.P (e.ps.map Pr.k) e.ky.RA e.ky.rc e.ky.OA e.ky.oc e.ky.rs WA wc W h2.prg h2.e0 h2.own h2.n0 h2.n1 h2.len hPP (by rw [el];exact hr);rw [el] at h3;refine h3.mono ?_;rintro r w' ⟨⟨v,b,us',rfl,ha,hv⟩,hb⟩;obtain ⟨rfl,rfl⟩ := AccR.det ha hacc;obtain ⟨zb,rfl,hz,hzs⟩ := hv.2 rfl;exact ⟨zb,rfl,hz,hzs,hb⟩
 have HPR : Hid (∀ g W wv AA ac WA wc ts,BG e wv 0 0 g (s + 1) (g + 1) w0 W n n WA wc AA ac ts → Calls Tryz.prog 104 #[.slice e.PA n e.pc,.func (.func 105) #[.pointer (some ⟨g,0,none⟩)] #[]] W fun r w' => r = .returned (.int .i64 (Gm.pw (pte K e.c0 e.tx e.ps n) : Int)) ∧ Below W.heap.size W w') := fun g W wv AA ac WA wc ts hbg => by
  have h2 := h.go hs (HW.out W hbg.bel).1;rw [← hn] at hbg ⊢;exact productP_any K e g wv AA ac 0 0 W h2 (hbg.wk K h2.pk h2.p0 h2.pl)
 have HCH : Hid (∀ W b,Below (s + 1) w0 W → Row W b 20 ([Av.int (Gm.pw (pte K e.c0 e.tx e.ps n) : Int),.int e.c0,.byt e.TA e.tx.length e.tc e.tx].map Av.cell) → Calls Tryz.prog 106 #[.string ⟨#[115,105,103,110]⟩,.slice (some ⟨b,0,none⟩) 3 3] W fun r w' => r = .returned (.int .i64 (chl K (Gm.pw (pte K e.c0 e.tx e.ps n) : Int) e.c0 e.tx)) ∧ Below W.heap.size W w') := fun W b hW hr => by
  have := Gm.pw_lt (pte K e.c0 e.tx e.ps n);exact chl_any K e _ W b (h.go hs (HW.out W hW).1) (by omega) hr
 have HEND : Hid (∀ W g zb AA ac WA wc ts,BG e (.slice (some ⟨zb,0,none⟩) e.ky.P.length e.ky.P.length) (Gm.pw (pte K e.c0 e.tx e.ps n) : Int) (chl K (Gm.pw (pte K e.c0 e.tx e.ps n) : Int) e.c0 e.tx) g (s + 1) (g + 1) w0 W n n WA wc AA ac ts → Row W zb 3 (ivs us) → BegQ K e us w (.returned (.tuple #[.pointer (some ⟨g,0,none⟩),.int .i64 0])) W) := fun W g zb AA ac WA wc ts hbg hz => by
  rw [← hn] at hbg;exact ⟨⟨g,zb,AA,ac,rfl,hbg.wk K h.pk h.p0 h.pl,hz⟩,by rw [hs];exact (HW.out W hbg.bel).1⟩
 have HC0 : Hid (∃ b o,e.ky.CA = some ⟨b,o,none⟩ ∧ ∀ W,Below (s + 1) w0 W → W.cell? ⟨b,o,none⟩ = some (.int .i64 e.c0)) := by
  have hN := h.ky.n0;obtain ⟨_,b0,o0,eCA,_,hcc⟩ := i64at (k := 0) h.ky.com (by omega);refine ⟨b0,o0,eCA,fun W hW => ?_⟩;have h1 := hcc 0 (by omega) W (by rw [hs];exact (HW.out W hW).1);rw [cms_get _ (by omega)] at h1;exact h1
 have HN0 : Hid ((0 : Int) < (e.ky.N : Int)) := by have := h.ky.n0;show (0 : Int) < _;omega
 have htl := h.tl;have hpl := h.pl;have hp0 := h.p0;have t1 : ((e.tx.length : Nat) : Int) ≤ 65536 := by omega
 have t2 : ((e.ps.length : Nat) : Int) ≤ 64 := by omega
 have t3 : decide (65536 < ((e.tx.length : Nat) : Int)) = false := decide_eq_false (by omega);have t4 : decide (64 < ((e.ps.length : Nat) : Int)) = false := decide_eq_false (by omega);have HE := Lib.hid (And.intro h hacc);have HN := Lib.hid hn;have HS := Lib.hid hs;have HS0 := Lib.hid hs0;have HPP := Lib.hid hPP;have HB0 : Hid (Below (s + 1) w0 w0) := Below.refl _ _;generalize hQQ : BegQ K e us w = QQ at HEND ⊢;have HQQ := Lib.hid hQQ;have HEW := Lib.hid hw0;rw [hn] at t2 t4 hpl hp0 ⊢;clear h hacc hPP hb00 hr00 hs hs0 hQQ hw0 hn;go_enter Tryz.func46,Tryz.ntmps46
 go_wp2_with fail
 rw [HEW.out,HS.out];refine (HCK.out w0 HB0.out).mono ?_;rintro r w1 ⟨rfl,hb1⟩;rw [HS0.out] at hb1;have HB1 := Lib.hid hb1;clear hb1 HB0;obtain ⟨_,hr1,_⟩ := HW.out w1 HB1.out;have p0 := hr1.cell (i := 0) rfl;have p1 := hr1.cell (i := 1) rfl;have p2 := hr1.cell (i := 2) rfl;have p3 := hr1.cell (i := 3) rfl
 go_wp2_with fail
 refine (HRI.out w1 HB1.out).mono ?_;rintro r w2 ⟨rfl,hb2⟩;have HB2 : Hid (Below (s + 1) w0 w2) := HB1.out.trans (hb2.mono (HW.out w1 HB1.out).2.2);clear hb2 p0 p1 p2 p3 hr1 HB1
 go_wp2_with fail
 rename_i Kz hKz;refine wp_region_treeCW (fun (i : Nat) (W : World) => Row W s 45 (#[.int .i64 0,.slice e.ky.RA e.ky.P.length e.ky.rc,.slice e.ky.OA e.ky.P.length e.ky.oc,.slice e.ky.CA e.ky.N e.ky.cc]).toList) (.take 0 (.take 1 (.take 2 (.one 3 (.take 4 (.one 5 (.take 6 .done))))))) (by kernel_rfl) (by kernel_rfl) (by kernel_rfl) (by kernel_rfl) (by kernel_rfl) ?_;have hC0 : Row w2.drew s 45 (#[.int .i64 0,.slice e.ky.RA e.ky.P.length e.ky.rc,.slice e.ky.OA e.ky.P.length e.ky.oc,.slice e.ky.CA e.ky.N e.ky.cc]).toList := (HW.out w2 HB2.out).2.1;have HB3 : Hid (Below (s + 1) w0 w2.drew) := HB2.out.drew;clear HB2;generalize w2.drew = w3 at HB3 hC0 ⊢;refine wpOTC_take rfl _ (by rfl) (fun _ => rfl) (fun w' hS => run_load_exec 45 (.tmp 3) rfl ⟨s,0,none⟩ (by rfl) (#[.int .i64 0,.slice e.ky.RA e.ky.P.length e.ky.rc,.slice e.ky.OA e.ky.P.length e.ky.oc,.slice e.ky.CA e.ky.N e.ky.cc]).toList _ (hS.load 0 rfl) Tryz.underlying45 (by rfl) (by kernel_rfl)) hC0 fun KK hKK => ?_
 iterate 2 (go_simp;refine hKK _ ?_;clear hKK KK;refine wpOTC_take rfl _ (by rfl) (fun _ => rfl) (by intro w' hS;skip;go_simp;try with_reducible rfl) hC0 fun KK hKK => ?_)
 go_simp;refine hKK _ ?_;clear hKK KK;refine wpOTC_one _ rfl (by rfl) rfl fun KK hKK => ?_;go_simp;refine ⟨trivial,(callsIn_wide.2 (HLI.out w3)).mono ?_⟩;rintro r w4 ⟨rfl,hb4⟩;have hC4 : Row w4 s 45 (#[.int .i64 0,.slice e.ky.RA e.ky.P.length e.ky.rc,.slice e.ky.OA e.ky.P.length e.ky.oc,.slice e.ky.CA e.ky.N e.ky.cc]).toList := hC0.below hb4 hC0.lt;have HB4 : Hid (Below (s + 1) w0 w4) := HB3.out.trans (hb4.mono (HW.out w3 HB3.out).2.2);refine hKK _ _ (fun _ _ => hC4) ?_;clear hKK KK hb4 HB3 hC0;refine wpOTC_take rfl _ (by rfl) (fun _ => rfl) (by intro w' hS;skip;go_simp;try with_reducible rfl) hC4 fun KK hKK => ?_;go_simp;refine hKK _ ?_;clear hKK KK;refine wpOTC_one _ rfl (by rfl) rfl fun KK hKK => ?_;go_simp;obtain ⟨g,hg⟩ : ∃ g,w4.heap.size = g := ⟨_,rfl⟩;obtain ⟨w5,hw5⟩ : ∃ w5,w4.alloc (.cells #[.int .i64 0,.slice e.ky.RA e.ky.P.length e.ky.rc,.slice e.ky.OA e.ky.P.length e.ky.oc,.slice e.ky.CA e.ky.N e.ky.cc,.slice e.TA e.tx.length e.tc,.slice e.PA n e.pc,.slice none 0 0,.int .i64 3,.int .i64 0,.string ⟨#[]⟩,.slice none 0 0,.int .i64 0,.int .i64 0] 127) = w5 := ⟨_,rfl⟩
 have hr5 : Row w5 g 127 (e.cells (.slice none 0 0) none 0 0 0 0) := by
  have h1 : Row w5 g 127 (#[.int .i64 0,.slice e.ky.RA e.ky.P.length e.ky.rc,.slice e.ky.OA e.ky.P.length e.ky.oc,.slice e.ky.CA e.ky.N e.ky.cc,.slice e.TA e.tx.length e.tc,.slice e.PA n e.pc,.slice none 0 0,.int .i64 3,.int .i64 0,.string ⟨#[]⟩,.slice none 0 0,.int .i64 0,.int .i64 0]).toList := by rw [← hw5];exact Row.fresh' _ _ _ hg
  unfold We.cells;rw [HN.out];exact h1
 have hsg := (HW.out w4 HB4.out).2.2;have hC5 : Row w5 s 45 (#[.int .i64 0,.slice e.ky.RA e.ky.P.length e.ky.rc,.slice e.ky.OA e.ky.P.length e.ky.oc,.slice e.ky.CA e.ky.N e.ky.cc]).toList := by rw [← hw5];exact hC4.alloc _
 have HG0 : Hid (BG e (.slice none 0 0) 0 0 g (s + 1) (g + 1) w0 w5 0 0 none 0 none 0 []) := BG.start hr5 (by rw [← hw5];exact HB4.out.alloc hsg _) (Nat.lt_succ_self g) (by omega) (by rw [HS0.out];exact Nat.le_refl _) (by rw [← hw5,World.size_alloc,hg];exact Nat.le_refl _);rw [hw5,hg];refine hKK _ _ (fun _ _ => hC5) ?_;clear hKK KK hr5 hw5 hg hC4 HB4 hsg;refine wpOTC_take rfl _ (by rfl) (fun _ => rfl) (by intro w' hS;skip;go_simp;try with_reducible rfl) hC5 fun KK hKK => ?_;go_simp;refine hKK _ ?_;clear hKK KK;refine wpOTC_done ?_;show Kz _ _;refine hKz _ _ ?_;clear hKz Kz hC5
 go_wp2_with fail
 go_loopw [6,7,9,10,41] (fun x6 x7 l la i wr => x6 = .pointer (some ⟨g,0,none⟩) ∧ x7 = .int .i64 0 ∧ ∃ (k : Nat) (WA : Option Addr) (wc : Nat) (AA : Option Addr) (ac : Nat) (ts : List Tv),k ≤ n ∧ i = .int .i64 k ∧ l = .slice WA k wc ∧ la = .int .i64 (lastI (e.ps.map Pr.k) k) ∧ BG e (.slice none 0 0) 0 0 g (s + 1) (g + 1) w0 wr k k WA wc AA ac ts) (fun _ _ _ _ i _ => n - (intOf i).toNat)
 case atStart => exact ⟨rfl,rfl,0,none,0,none,0,[],Nat.zero_le _,rfl,rfl,rfl,HG0.out⟩
 case round =>
  obtain ⟨rfl,rfl,k,WA,wc,AA,ac,ts,hk,rfl,rfl,rfl,hbg⟩ := hrel;have HG := Lib.hid hbg;clear hbg HG0
  by_cases hlt : k < n
  ·have k1 : (k : Int) < (n : Int) := by omega
   have k0 : (0 : Int) ≤ (k : Int) := by omega
   obtain ⟨b,o,hA1,hcc⟩ := HPA.out;rw [hA1];have q0 := hcc k hlt wr HG.out.bel 0 _ rfl;have q1 := hcc k hlt wr HG.out.bel 1 _ rfl;have q2 := hcc k hlt wr HG.out.bel 2 _ rfl;have q3 := hcc k hlt wr HG.out.bel 3 _ rfl;rw [Nat.add_zero] at q0;obtain ⟨l1,l2,l3,l4,l5,l6,l7⟩ := HLA.out k hlt;have HL6 := Lib.hid l6;have HL7 := Lib.hid l7;have HPI : Hid (prI (e.ps.getD k default) = [(e.ps.getD k default).k,(e.ps.getD k default).no,(Gm.pw (e.ps.getD k default).d : Int),(Gm.pw (e.ps.getD k default).f : Int)]) := rfl;have HVD := Lib.hid (HVA.out (e.ps.getD k default).d);have HVF := Lib.hid (HVA.out (e.ps.getD k default).f);generalize (Gm.pw (e.ps.getD k default).d : Int) = D at q2 HVD HPI;generalize (Gm.pw (e.ps.getD k default).f : Int) = F at q3 HVF HPI;generalize (e.ps.getD k default).k = X at q0 l1 l2 l3 HL6 HL7 HPI;generalize (e.ps.getD k default).no = NO at q1 l4 l5 HPI;generalize lastI (e.ps.map Pr.k) k = LA at l1 ⊢;have m1 : decide (X ≤ LA) = false := decide_eq_false (by omega);have m2 : decide (64 ≤ X) = false := decide_eq_false (by omega);have m3 : decide (NO < 0) = false := decide_eq_false (by omega);have m4 : decide (4096 ≤ NO) = false := decide_eq_false (by omega)
   have HLP : Hid (∀ W b,Row W b 20 ([Av.int X,.int NO,.int D,.int F].map Av.cell) → Calls Tryz.prog 103 #[.slice (some ⟨b,0,none⟩) 4 4] W fun r w' => ∃ A4 c4,r = .returned (.agg #[.int .i64 3,.int .i64 0,.string ⟨#[]⟩,.slice A4 4 c4]) ∧ w'.ownsRow W.heap.size 107 4 (.slice A4 4 c4) 4 (tvCells ((prI (e.ps.getD k default)).map Tv.int)) ∧ 4 ≤ c4 ∧ Below W.heap.size W w') := fun W b hr => by
    refine (plist_any (some ⟨b,0,none⟩) 4 4 [Av.int X,.int NO,.int D,.int F] W rfl ((rd_rowN hr).more hr.lt) (by intro a ha;simp at ha;rcases ha with rfl | rfl | rfl | rfl <;> trivial) (by decide)).mono ?_;rintro r w' ⟨⟨A4,c4,rfl,ho,hc,_,_⟩,hb⟩;exact ⟨A4,c4,rfl,by rw [HPI.out];exact ho,hc,hb⟩
   clear l1 l2 l3 l4 l5 l6 l7 hcc
   go_wp2_with fail
   refine (HVD.out _).mono ?_;rintro r w6 ⟨rfl,rfl⟩;obtain ⟨pb,hpb⟩ : ∃ pb,wr.heap.size = pb := ⟨_,rfl⟩;have HA : Hid (BG e (.slice none 0 0) 0 0 g (s + 1) (g + 1) w0 (wr.alloc (.cells #[.int .i64 X,.int .i64 NO,.int .i64 D,.int .i64 F] 56)) k k WA wc AA ac ts ∧ Row (wr.alloc (.cells #[.int .i64 X,.int .i64 NO,.int .i64 D,.int .i64 F] 56)) pb 56 [.int .i64 X,.int .i64 NO,.int .i64 D,.int .i64 F] ∧ (∀ b,(Value.slice WA k wc).ownBlock = some b → b < pb) ∧ ∀ b,(Value.slice AA k ac).ownBlock = some b → b < pb) := ⟨HG.out.next ((Below.refl _ _).alloc (Nat.le_refl _) _),Row.fresh' _ _ _ hpb,fun b hb => by rw [← hpb];exact (HG.out.own1.lt b hb).2,fun b hb => by rw [← hpb];exact (HG.out.own2.lt b hb).2⟩;rw [hpb];have HPB : g + 1 ≤ pb := by rw [← hpb];exact HG.out.sz
   clear hpb HG q0 q1 q2 q3;generalize wr.alloc (.cells #[.int .i64 X,.int .i64 NO,.int .i64 D,.int .i64 F] 56) = wa at HA ⊢;have p0 := HA.out.2.1.cell (i := 0) rfl;have p1 := HA.out.2.1.cell (i := 1) rfl;have p2 := HA.out.2.1.cell (i := 2) rfl;have p3 := HA.out.2.1.cell (i := 3) rfl;have hpl2 := HA.out.2.1.lt;have hsz2 := HA.out.1.sz
   go_wp2_with fail
   refine (HVF.out _).mono ?_;rintro r w6 ⟨rfl,rfl⟩
   go_wp2_with (at_builtin;refine wpList_append_rd _ rfl (.tmp 78) (.tmp 81) 23 rfl (g + 1) 3 _ (.int .i64 0) 1 8 Tryz.underlying23 rfl rfl rfl rfl rfl (by decide) (.slice WA k wc) k (ivs ((e.ps.take k).map Pr.k)) (by rfl) (HA.out.1.own1.alloc _) (wa.heap.size + 1) (some ⟨wa.heap.size,0,none⟩) 1 1 [.int .i64 X] (by rfl) (rd_newU wa 3 (.int .i64 X)) (by intro u hu;simp at hu;rw [hu];rfl) (by unfold maxLen;omega) (by omega) (by simp;omega) ?_;intro v9 w9 hown9 hgrow9 hor9)
   obtain ⟨g9,c9,hv9,hu1,hu2⟩ := hown9.form (by omega);clear hu1 hu2;subst hv9
   have hor9' : (Value.slice WA k wc).ownBlock = some g9 ∨ wa.heap.size ≤ g9 := by
    rcases hor9 with h9 | h9
    ·exact .inl h9.symm
    ·have h' : g9 = (wa.alloc (.cells #[.int .i64 X] 3)).heap.size := Option.some.inj h9
     rw [World.size_alloc] at h';exact .inr (by omega)
   have hT9 : Tch (fun i => (Value.slice WA k wc).ownBlock = some i) wa w9 := ((Tch.refl _ wa).alloc _).grown hgrow9 fun _ e9 => .inr e9;have HG9 : Hid (BG e (.slice none 0 0) 0 0 g (s + 1) (g + 1) w0 w9 (k + 1) k (some ⟨g9,0,none⟩) c9 AA ac ts ∧ Row w9 pb 56 [.int .i64 X,.int .i64 NO,.int .i64 D,.int .i64 F] ∧ g + 1 ≤ pb ∧ ∀ b,(Value.slice AA k ac).ownBlock = some b → b < pb) := ⟨HA.out.1.who hT9 (by rw [HL7.out];exact hown9) hor9',hT9.row HA.out.2.1 (fun e9 => by have := HA.out.2.2.1 pb e9;omega),HPB,HA.out.2.2.2⟩;clear hown9 hgrow9 hor9 hor9' hT9 p0 p1 p2 p3 hpl2 hsz2 HA
   go_wp2_with fail
   rename_i Kz hKz;refine wp_region_treeCW (fun (i : Nat) (W : World) => i ≤ 19 → Row W g 127 (e.cells (.slice none 0 0) AA k ac 0 0) ∧ Row W pb 56 [.int .i64 X,.int .i64 NO,.int .i64 D,.int .i64 F]) (.take 0 (.take 1 (.take 2 (.take 3 (.take 4 (.take 5 (.take 6 (.take 7 (.take 8 (.take 9 (.take 10 (.take 11 (.take 12 (.take 13 (.take 14 (.take 15 (.take 16 (.take 19 (.two 17 (.two 18 (.one 20 (.one 21 (.take 22 (.take 24 (.take 25 (.take 26 (.two 23 (.one 27 .done) 27 (.one 23 .done)))))))) 20 (.one 18 (.one 21 (.take 22 (.take 24 (.take 25 (.take 26 (.two 23 (.one 27 .done) 27 (.one 23 .done))))))))) 20 (.one 17 (.one 18 (.one 21 (.take 22 (.take 24 (.take 25 (.take 26 (.two 23 (.one 27 .done) 27 (.one 23 .done)))))))))))))))))))))))))))) (by kernel_rfl) (by kernel_rfl) (by kernel_rfl) (by kernel_rfl) (by kernel_rfl) ?_;have hg10 := HG9.out.1.next (Below.refl _ w9).drew;have HG10 : Hid (BG e (.slice none 0 0) 0 0 g (s + 1) (g + 1) w0 w9.drew (k + 1) k (some ⟨g9,0,none⟩) c9 AA ac ts ∧ Row w9.drew pb 56 [.int .i64 X,.int .i64 NO,.int .i64 D,.int .i64 F] ∧ g + 1 ≤ pb ∧ ∀ b,(Value.slice AA k ac).ownBlock = some b → b < pb) := ⟨hg10,HG9.out.2⟩;clear HG9 hg10;generalize w9.drew = wd at HG10 ⊢;have hC : Row wd g 127 (e.cells (.slice none 0 0) AA k ac 0 0) ∧ Row wd pb 56 [.int .i64 X,.int .i64 NO,.int .i64 D,.int .i64 F] := ⟨HG10.out.1.row,HG10.out.2.1⟩
   iterate 18 (refine wpOTC_take rfl _ (by rfl) (fun _ => rfl) (by intro w' hS;have hS := hS (by decide);have b0 := hS.1.cell (i := 10) rfl;have b1 := hS.2.cell (i := 0) rfl;have b2 := hS.2.cell (i := 1) rfl;have b3 := hS.2.cell (i := 2) rfl;have b4 := hS.2.cell (i := 3) rfl;go_simp;try with_reducible rfl) (fun _ => hC) fun KK hKK => ?_;go_simp;refine hKK _ ?_;clear hKK KK)
   have hb0 : Below wd.heap.size wd wd := Below.refl _ _;refine wpOTC_two _ _ rfl (by rfl) rfl rfl (by rfl) rfl (fun KK hKK => ?ga) (fun KK hKK => ?gc)
   case' ga =>
    go_simp;have hB1 : Below wd.heap.size wd (wd.alloc (.cells (#[.iface 3 (.int .i64 X),.iface 3 (.int .i64 NO),.iface 3 (.int .i64 D),.iface 3 (.int .i64 F)]) 20)) := hb0.alloc (hb0).size _;have hri := Row.fresh wd 20 ([Av.int X,.int NO,.int D,.int F].map Av.cell);have hC1 := And.intro (hC.1.alloc (.cells (#[.iface 3 (.int .i64 X),.iface 3 (.int .i64 NO),.iface 3 (.int .i64 D),.iface 3 (.int .i64 F)]) 20)) (hC.2.alloc (.cells (#[.iface 3 (.int .i64 X),.iface 3 (.int .i64 NO),.iface 3 (.int .i64 D),.iface 3 (.int .i64 F)]) 20));refine hKK _ _ (fun _ _ _ => hC1) ?_;clear hKK KK;refine wpOTC_two _ _ rfl (by rfl) rfl rfl (by rfl) rfl (fun KK hKK => ?gaa) (fun KK hKK => ?gab)
    case' gaa =>
     go_simp;refine ⟨trivial,(callsIn_wide.2 (HLP.out _ _ hri)).mono ?_⟩;rintro r wb ⟨A4,c4,rfl,ho4,hc4,hb⟩;have hB2 := hB1.trans (hb.mono (hB1).size);have hC2 := And.intro (hC1.1.below hb hC1.1.lt) (hC1.2.below hb hC1.2.lt);refine hKK _ _ (fun _ _ _ => hC2) ?_;clear hKK KK;refine wpOTC_one _ rfl (by rfl) rfl fun KK hKK => ?_;go_simp;obtain ⟨zb,hzb⟩ : ∃ zb,wb.heap.size = zb := ⟨_,rfl⟩;have hrz : Row (wb.alloc (.cells #[.int .i64 0,.int .i64 0,.string ⟨#[]⟩,.slice none 0 0] 107)) zb 107 [.int .i64 0,.int .i64 0,.string ⟨#[]⟩,.slice none 0 0] := Row.fresh' _ _ _ hzb;have hB3 : Below wd.heap.size wd (wb.alloc (.cells #[.int .i64 0,.int .i64 0,.string ⟨#[]⟩,.slice none 0 0] 107)) := hB2.alloc (hB2).size _;have hC3 := And.intro (hC2.1.alloc (.cells #[.int .i64 0,.int .i64 0,.string ⟨#[]⟩,.slice none 0 0] 107)) (hC2.2.alloc (.cells #[.int .i64 0,.int .i64 0,.string ⟨#[]⟩,.slice none 0 0] 107));refine hKK _ _ (fun _ _ _ => hC3) ?_;clear hKK KK;have HF : Hid (Below wd.heap.size wd (wb.alloc (.cells #[.int .i64 0,.int .i64 0,.string ⟨#[]⟩,.slice none 0 0] 107)) ∧ Row (wb.alloc (.cells #[.int .i64 0,.int .i64 0,.string ⟨#[]⟩,.slice none 0 0] 107)) zb 107 [.int .i64 0,.int .i64 0,.string ⟨#[]⟩,.slice none 0 0] ∧ (wb.alloc (.cells #[.int .i64 0,.int .i64 0,.string ⟨#[]⟩,.slice none 0 0] 107)).ownsRow wd.heap.size 107 4 (.slice A4 4 c4) 4 (tvCells ((prI (e.ps.getD k default)).map Tv.int)) ∧ 4 ≤ c4 ∧ (Row (wb.alloc (.cells #[.int .i64 0,.int .i64 0,.string ⟨#[]⟩,.slice none 0 0] 107)) g 127 (e.cells (.slice none 0 0) AA k ac 0 0) ∧ Row (wb.alloc (.cells #[.int .i64 0,.int .i64 0,.string ⟨#[]⟩,.slice none 0 0] 107)) pb 56 [.int .i64 X,.int .i64 NO,.int .i64 D,.int .i64 F])) := ⟨hB3,hrz,own_mono hB1.size (ho4.alloc _),hc4,hC3⟩;rw [hzb];clear hB1 hB2 hB3 hC1 hC2 hC3 ho4 hc4 hrz hri hb hzb;generalize wb.alloc (.cells #[.int .i64 0,.int .i64 0,.string ⟨#[]⟩,.slice none 0 0] 107) = wf at HF ⊢;clear wb
    case' gab =>
     go_simp;obtain ⟨zb,hzb⟩ : ∃ zb,(wd.alloc (.cells (#[.iface 3 (.int .i64 X),.iface 3 (.int .i64 NO),.iface 3 (.int .i64 D),.iface 3 (.int .i64 F)]) 20)).heap.size = zb := ⟨_,rfl⟩;have hrz : Row ((wd.alloc (.cells (#[.iface 3 (.int .i64 X),.iface 3 (.int .i64 NO),.iface 3 (.int .i64 D),.iface 3 (.int .i64 F)]) 20)).alloc (.cells #[.int .i64 0,.int .i64 0,.string ⟨#[]⟩,.slice none 0 0] 107)) zb 107 [.int .i64 0,.int .i64 0,.string ⟨#[]⟩,.slice none 0 0] := Row.fresh' _ _ _ hzb;have hB2 : Below wd.heap.size wd ((wd.alloc (.cells (#[.iface 3 (.int .i64 X),.iface 3 (.int .i64 NO),.iface 3 (.int .i64 D),.iface 3 (.int .i64 F)]) 20)).alloc (.cells #[.int .i64 0,.int .i64 0,.string ⟨#[]⟩,.slice none 0 0] 107)) := hB1.alloc (hB1).size _;have hC2 := And.intro (hC1.1.alloc (.cells #[.int .i64 0,.int .i64 0,.string ⟨#[]⟩,.slice none 0 0] 107)) (hC1.2.alloc (.cells #[.int .i64 0,.int .i64 0,.string ⟨#[]⟩,.slice none 0 0] 107));refine hKK _ _ (fun _ _ _ => hC2) ?_;clear hKK KK;refine wpOTC_one _ rfl (by rfl) rfl fun KK hKK => ?_
     replace hri := hri.alloc (.cells #[.int .i64 0,.int .i64 0,.string ⟨#[]⟩,.slice none 0 0] 107)
     go_simp;refine ⟨trivial,(callsIn_wide.2 (HLP.out _ _ hri)).mono ?_⟩;rintro r wf ⟨A4,c4,rfl,ho4,hc4,hb⟩;have hB3 := hB2.trans (hb.mono (hB2).size);have hC3 := And.intro (hC2.1.below hb hC2.1.lt) (hC2.2.below hb hC2.2.lt);refine hKK _ _ (fun _ _ _ => hC3) ?_;clear hKK KK;have HF : Hid (Below wd.heap.size wd (wf) ∧ Row (wf) zb 107 [.int .i64 0,.int .i64 0,.string ⟨#[]⟩,.slice none 0 0] ∧ (wf).ownsRow wd.heap.size 107 4 (.slice A4 4 c4) 4 (tvCells ((prI (e.ps.getD k default)).map Tv.int)) ∧ 4 ≤ c4 ∧ (Row (wf) g 127 (e.cells (.slice none 0 0) AA k ac 0 0) ∧ Row (wf) pb 56 [.int .i64 X,.int .i64 NO,.int .i64 D,.int .i64 F])) := ⟨hB3,hrz.below hb hrz.lt,own_mono hB2.size ho4,hc4,hC3⟩;rw [World.size_alloc] at hzb;rw [hzb];clear hB1 hB2 hB3 hC1 hC2 hC3 ho4 hc4 hrz hri hb hzb
   case' gc =>
    go_simp;obtain ⟨zb,hzb⟩ : ∃ zb,wd.heap.size = zb := ⟨_,rfl⟩;have hrz : Row (wd.alloc (.cells #[.int .i64 0,.int .i64 0,.string ⟨#[]⟩,.slice none 0 0] 107)) zb 107 [.int .i64 0,.int .i64 0,.string ⟨#[]⟩,.slice none 0 0] := Row.fresh' _ _ _ hzb;have hB1 : Below wd.heap.size wd (wd.alloc (.cells #[.int .i64 0,.int .i64 0,.string ⟨#[]⟩,.slice none 0 0] 107)) := hb0.alloc (hb0).size _;have hC1 := And.intro (hC.1.alloc (.cells #[.int .i64 0,.int .i64 0,.string ⟨#[]⟩,.slice none 0 0] 107)) (hC.2.alloc (.cells #[.int .i64 0,.int .i64 0,.string ⟨#[]⟩,.slice none 0 0] 107));refine hKK _ _ (fun _ _ _ => hC1) ?_;clear hKK KK;refine wpOTC_one _ rfl (by rfl) rfl fun KK hKK => ?_;go_simp;have hB2 : Below wd.heap.size wd ((wd.alloc (.cells #[.int .i64 0,.int .i64 0,.string ⟨#[]⟩,.slice none 0 0] 107)).alloc (.cells (#[.iface 3 (.int .i64 X),.iface 3 (.int .i64 NO),.iface 3 (.int .i64 D),.iface 3 (.int .i64 F)]) 20)) := hB1.alloc (hB1).size _;have hri := Row.fresh (wd.alloc (.cells #[.int .i64 0,.int .i64 0,.string ⟨#[]⟩,.slice none 0 0] 107)) 20 ([Av.int X,.int NO,.int D,.int F].map Av.cell);have hC2 := And.intro (hC1.1.alloc (.cells (#[.iface 3 (.int .i64 X),.iface 3 (.int .i64 NO),.iface 3 (.int .i64 D),.iface 3 (.int .i64 F)]) 20)) (hC1.2.alloc (.cells (#[.iface 3 (.int .i64 X),.iface 3 (.int .i64 NO),.iface 3 (.int .i64 D),.iface 3 (.int .i64 F)]) 20));refine hKK _ _ (fun _ _ _ => hC2) ?_;clear hKK KK;refine wpOTC_one _ rfl (by rfl) rfl fun KK hKK => ?_;rw [World.size_alloc] at hri;rw [hzb] at hri
    replace hrz := hrz.alloc (.cells (#[.iface 3 (.int .i64 X),.iface 3 (.int .i64 NO),.iface 3 (.int .i64 D),.iface 3 (.int .i64 F)]) 20)
    go_simp;refine ⟨trivial,(callsIn_wide.2 (HLP.out _ _ hri)).mono ?_⟩;rintro r wf ⟨A4,c4,rfl,ho4,hc4,hb⟩;have hB3 := hB2.trans (hb.mono (hB2).size);have hC3 := And.intro (hC2.1.below hb hC2.1.lt) (hC2.2.below hb hC2.2.lt);refine hKK _ _ (fun _ _ _ => hC3) ?_;clear hKK KK;have HF : Hid (Below wd.heap.size wd (wf) ∧ Row (wf) zb 107 [.int .i64 0,.int .i64 0,.string ⟨#[]⟩,.slice none 0 0] ∧ (wf).ownsRow wd.heap.size 107 4 (.slice A4 4 c4) 4 (tvCells ((prI (e.ps.getD k default)).map Tv.int)) ∧ 4 ≤ c4 ∧ (Row (wf) g 127 (e.cells (.slice none 0 0) AA k ac 0 0) ∧ Row (wf) pb 56 [.int .i64 X,.int .i64 NO,.int .i64 D,.int .i64 F])) := ⟨hB3,hrz.below hb hrz.lt,own_mono hB2.size ho4,hc4,hC3⟩
    try rw [hzb]
    clear hB1 hB2 hB3 hC1 hC2 hC3 ho4 hc4 hrz hri hb hzb
   all_goals (
    refine wpOTC_one _ rfl (by rfl) rfl fun KK hKK => ?_;refine wpInU_append_rd (.tmp 87) (.tmp 103) 105 rfl (g + 1) 107 _ vz 4 56 Tryz.underlying105 rfl rfl rfl rfl rfl (by decide) (.slice AA k ac) k (tvCells ts) (by rfl) (own_belowU HG10.out.1.own2 HF.out.1 (fun q hq => (HG10.out.1.own2.lt q hq).2)) (zb + 1) (some ⟨zb,0,none⟩) 1 1 [.int .i64 0,.int .i64 0,.string ⟨#[]⟩,.slice none 0 0] (by rfl) (rd_row4 HF.out.2.1) (by decide) (by unfold maxLen;omega) (by omega) (by have := HF.out.1.size;have := HG10.out.1.sz;omega) ?_;intro v8 w8 hown8 hgrow8 hor8;obtain ⟨ga,ca,hv8,_,_⟩ := hown8.form (by omega);subst hv8;have hC8 : Row w8 g 127 (e.cells (.slice none 0 0) AA k ac 0 0) ∧ Row w8 pb 56 [.int .i64 X,.int .i64 NO,.int .i64 D,.int .i64 F] := ⟨HF.out.2.2.2.2.1.grown hgrow8 (fun e9 => by have := (HG10.out.1.own2.lt g e9.symm).1;omega),HF.out.2.2.2.2.2.grown hgrow8 (fun e9 => by have := HG10.out.2.2.2 pb e9.symm;omega)⟩;refine hKK _ _ (fun _ _ _ => hC8) ?_;clear hKK KK;have hfin := HG10.out.1.fin HF.out.1 HF.out.2.2.1 HF.out.2.2.2.1 hown8 hgrow8 hor8;have HFIN := Lib.hid hfin;have hrd8 := (Rd.of_own hown8).2 (by omega);obtain ⟨b8,o8,e8,_,hc8⟩ := hrd8;have e8 := Option.some.inj e8
    injection e8 with e8a e8b
    subst e8a e8b;have hl4 : (tvCells ts).length = k * 4 := by have := HG10.out.1.own2.1;simpa using this
    have r0 : w8.cell? ⟨ga,k * 4,none⟩ = some (.int .i64 0) := by
     have := hc8 (k * 4) (.int .i64 0) (by rw [List.getElem?_append_right (by omega),hl4,Nat.sub_self];rfl)
     rwa [Nat.zero_add] at this
    have r1 : w8.cell? ⟨ga,k * 4 + 1,none⟩ = some (.int .i64 0) := by
     have := hc8 (k * 4 + 1) (.int .i64 0) (by rw [List.getElem?_append_right (by omega),hl4,Nat.add_sub_cancel_left];rfl)
     rwa [Nat.zero_add] at this
    have r2 : w8.cell? ⟨ga,k * 4 + 2,none⟩ = some (.string ⟨#[]⟩) := by
     have := hc8 (k * 4 + 2) (.string ⟨#[]⟩) (by rw [List.getElem?_append_right (by omega),hl4,Nat.add_sub_cancel_left];rfl)
     rwa [Nat.zero_add] at this
    have r3 : w8.cell? ⟨ga,k * 4 + 3,none⟩ = some (.slice none 0 0) := by
     have := hc8 (k * 4 + 3) (.slice none 0 0) (by rw [List.getElem?_append_right (by omega),hl4,Nat.add_sub_cancel_left];rfl)
     rwa [Nat.zero_add] at this
    have z0 := hown8.frozenAt (k * 4);have z1 := hown8.frozenAt (k * 4 + 1);have z2 := hown8.frozenAt (k * 4 + 2);have z3 := hown8.frozenAt (k * 4 + 3);have s3 : w8.cell? ⟨g,10,none⟩ = some (.slice AA k ac) := hC8.1.cell (i := 10) rfl;have f3 := hC8.1.fz 10;have kk1 : (k : Int) < (k : Int) + 1 := by omega
    have hgne : g ≠ ga := fun e9 => by have := (hown8.lt ga rfl).1;omega
    clear hc8 hl4 hown8 hgrow8 hor8 hfin HF
    iterate 4 (refine wpOTC_take rfl _ (by rfl) (fun _ => rfl) (by intro w' hS;skip;go_simp;try with_reducible rfl) (fun h => absurd h (by decide)) fun KK hKK => ?_;go_simp;refine hKK _ ?_;clear hKK KK)
    refine wpOTC_two [26,25,24] [25,24,22] rfl (by rfl) (by kernel_rfl) rfl (by rfl) (by kernel_rfl) (fun KK hKK => ?_) (fun KK hKK => ?_)
    ·go_simp
     refine hKK _ _ (fun e9 he h9 => by simp at he;omega) ?_;clear hKK KK;refine wpOTC_one [25,24] rfl (by rfl) (by kernel_rfl) fun KK hKK => ?_;go_simp;refine hKK _ _ (fun e9 he h9 => by simp at he;omega) ?_;clear hKK KK;refine wpOTC_done ?_;show Kz _ _;refine hKz _ _ ?_;have HGn := Lib.hid HFIN.out.1;clear hKz Kz HFIN r0 r1 r2 r3 z0 z1 z2 z3 s3 f3 hC8 hC HG10;generalize (((((w8.setCell ⟨ga,k * 4,none⟩ (.int .i64 3)).setCell ⟨ga,k * 4 + 1,none⟩ (.int .i64 0)).setCell ⟨ga,k * 4 + 2,none⟩ (.string ⟨#[]⟩)).setCell ⟨ga,k * 4 + 3,none⟩ (.slice A4 4 c4)).setCell ⟨g,10,none⟩ (.slice (some ⟨ga,0,none⟩) (k + 1) ca)) = wn at HGn ⊢
     go_wp2_with fail
     go_roundw
     case rel => exact ⟨rfl,rfl,k + 1,_,_,_,_,_,by omega,by go_num,rfl,by rw [HL6.out],HGn.out⟩
     case measure => simp [intOf];omega
    ·go_simp
     refine hKK _ _ (fun e9 he h9 => by simp at he;omega) ?_;clear hKK KK;refine wpOTC_one [25,24] rfl (by rfl) (by kernel_rfl) fun KK hKK => ?_;go_simp;refine hKK _ _ (fun e9 he h9 => by simp at he;omega) ?_;clear hKK KK;refine wpOTC_done ?_;show Kz _ _;refine hKz _ _ ?_;have HGn := Lib.hid HFIN.out.2;clear hKz Kz HFIN r0 r1 r2 r3 z0 z1 z2 z3 s3 f3 hC8 hC HG10;generalize (((((w8.setCell ⟨g,10,none⟩ (.slice (some ⟨ga,0,none⟩) (k + 1) ca)).setCell ⟨ga,k * 4,none⟩ (.int .i64 3)).setCell ⟨ga,k * 4 + 1,none⟩ (.int .i64 0)).setCell ⟨ga,k * 4 + 2,none⟩ (.string ⟨#[]⟩)).setCell ⟨ga,k * 4 + 3,none⟩ (.slice A4 4 c4)) = wn at HGn ⊢
     go_wp2_with fail
     go_roundw
     case rel => exact ⟨rfl,rfl,k + 1,_,_,_,_,_,by omega,by go_num,rfl,by rw [HL6.out],HGn.out⟩
     case measure => simp [intOf];omega)
  ·have hkn : k = n := by omega
   subst hkn;clear hlt HLA HPA HVA HLI HRI HCK;obtain ⟨hbw,hrk,_⟩ := HW.out wr HG.out.bel;have p1 := hrk.cell (i := 1) rfl;have p2 := hrk.cell (i := 2) rfl
   have hrw : Rd wr wr.heap.size 1 WA k (ivs ((e.ps.map Pr.k))) := by
    have h1 := Rd.of_own HG.out.own1;rw [List.take_of_length_le (by rw [HN.out];exact Nat.le_refl _)] at h1;exact h1
   have HA := Lib.hid (HACC.out wr WA wc HG.out.bel hrw);have n1 : (k : Int) ≠ 0 := by omega
   have n2 : ((k : Int) == 0) = false := by simpa using n1
   clear hbw hrk hrw HACC
   go_wp2_with fail
   refine HA.out.mono ?_;rintro r w1 ⟨zb,rfl,hzr,hzb,hb⟩;have HG1 : Hid (BG e (.slice none 0 0) 0 0 g (s + 1) (g + 1) w0 w1 k k WA wc AA ac ts ∧ Row w1 zb 3 (ivs us) ∧ g + 1 ≤ zb) := ⟨HG.out.next hb,hzr,by have := HG.out.sz;omega⟩;have s6 := HG1.out.1.row.cell (i := 6) rfl;have f6 := HG1.out.1.row.fz 6;have hg2 : BG e (.slice (some ⟨zb,0,none⟩) e.ky.P.length e.ky.P.length) 0 0 g (s + 1) (g + 1) w0 (w1.setCell ⟨g,6,none⟩ (.slice (some ⟨zb,0,none⟩) e.ky.P.length e.ky.P.length)) k k WA wc AA ac ts := HG1.out.1.re ((Tch.refl (fun i => i = g) _).set (p := ⟨g,6,none⟩) (.inr rfl) _) (HG1.out.1.row.put 6 _);have hz2 : Row (w1.setCell ⟨g,6,none⟩ (.slice (some ⟨zb,0,none⟩) e.ky.P.length e.ky.P.length)) zb 3 (ivs us) := HG1.out.2.1.away (p := ⟨g,6,none⟩) (by have := HG1.out.2.2;show zb ≠ g;omega) _;have HG2 := Lib.hid (And.intro hg2 (And.intro hz2 HG1.out.2.2));clear HG HA hzr hzb hb p1 p2 HG1 hg2 hz2
   go_wp2_with fail
   generalize w1.setCell ⟨g,6,none⟩ (.slice (some ⟨zb,0,none⟩) e.ky.P.length e.ky.P.length) = w2 at HG2 ⊢;clear s6 f6;have HP := Lib.hid (HPR.out g w2 _ AA ac WA wc ts HG2.out.1);clear HPR;generalize hPT : (Gm.pw (pte K e.c0 e.tx e.ps k) : Int) = PTV at HP HCH HEND;have hpt : 0 ≤ PTV ∧ PTV < 2147483579 := by rw [← hPT];have := Gm.pw_lt (pte K e.c0 e.tx e.ps k);omega
   clear hPT;refine HP.out.mono ?_;rintro r w3 ⟨rfl,hb⟩;have HG3 : Hid (BG e (.slice (some ⟨zb,0,none⟩) e.ky.P.length e.ky.P.length) 0 0 g (s + 1) (g + 1) w0 w3 k k WA wc AA ac ts ∧ Row w3 zb 3 (ivs us) ∧ g + 1 ≤ zb) := ⟨HG2.out.1.next hb,HG2.out.2.1.below hb HG2.out.2.1.lt,HG2.out.2.2⟩;have s11 := HG3.out.1.row.cell (i := 11) rfl;have f11 := HG3.out.1.row.fz 11;have hg4 : BG e (.slice (some ⟨zb,0,none⟩) e.ky.P.length e.ky.P.length) PTV 0 g (s + 1) (g + 1) w0 (w3.setCell ⟨g,11,none⟩ (.int .i64 PTV)) k k WA wc AA ac ts := HG3.out.1.re ((Tch.refl (fun i => i = g) _).set (p := ⟨g,11,none⟩) (.inr rfl) _) (HG3.out.1.row.put 11 _);have hz4 : Row (w3.setCell ⟨g,11,none⟩ (.int .i64 PTV)) zb 3 (ivs us) := HG3.out.2.1.away (p := ⟨g,11,none⟩) (by have := HG3.out.2.2;show zb ≠ g;omega) _;have HG4 := Lib.hid (And.intro hg4 (And.intro hz4 HG3.out.2.2));clear HP hb HG2 HG3 hg4 hz4
   go_wp2_with fail
   generalize w3.setCell ⟨g,11,none⟩ (.int .i64 PTV) = w4 at HG4 ⊢;clear s11 f11;have g11 := HG4.out.1.row.cell (i := 11) rfl;have g3 := HG4.out.1.row.cell (i := 3) rfl;obtain ⟨b0,o0,eCA,hc0⟩ := HC0.out;rw [eCA] at g3;have hc := hc0 w4 HG4.out.1.bel;have hN1 : (0 : Int) < (e.ky.N : Int) := HN0.out;have hN2 : 0 < e.ky.N := by omega
   have hC : Row w4.drew g 127 (e.cells (.slice (some ⟨zb,0,none⟩) e.ky.P.length e.ky.P.length) AA k ac PTV 0) ∧ w4.drew.cell? ⟨b0,o0,none⟩ = some (.int .i64 e.c0) := ⟨HG4.out.1.row,hc⟩;rename_i Kz hKz;refine wp_region_treeCW (fun (i : Nat) (W : World) => i ≤ 15 → Row W g 127 (e.cells (.slice (some ⟨zb,0,none⟩) e.ky.P.length e.ky.P.length) AA k ac PTV 0) ∧ W.cell? ⟨b0,o0,none⟩ = some (.int .i64 e.c0)) (.take 0 (.take 1 (.take 2 (.take 3 (.take 4 (.take 5 (.take 6 (.take 7 (.take 8 (.take 9 (.take 10 (.take 11 (.take 12 (.take 13 (.take 14 (.take 15 (.one 16 (.one 17 (.take 18 (.take 19 (.one 20 .done))))))))))))))))))))) (by kernel_rfl) (by kernel_rfl) (by kernel_rfl) (by kernel_rfl) (by kernel_rfl) ?_;have hg5 := HG4.out.1.next (Below.refl _ w4).drew;have hz5 : Row w4.drew zb 3 (ivs us) := HG4.out.2.1;have HG5 := Lib.hid (And.intro hg5 (And.intro hz5 HG4.out.2.2));clear g11 g3 hc HG4 hg5 hz5;generalize w4.drew = w5 at HG5 hC ⊢
   iterate 16 (refine wpOTC_take rfl _ (by rfl) (fun _ => rfl) (by intro w' hS;have hS := hS (by decide);have b0 := hS.1.cell (i := 11) rfl;have b1 := hS.1.cell (i := 3) rfl;rw [eCA] at b1;have b2 := hS.2;go_simp;try with_reducible rfl) (fun _ => hC) fun KK hKK => ?_;go_simp;refine hKK _ ?_;clear hKK KK)
   refine wpOTC_one _ rfl (by rfl) rfl fun KK hKK => ?_;go_simp;have hb0 : b0 < w5.heap.size := cell_lt hC.2;have hCa := And.intro (hC.1.alloc (.cells ([Av.int PTV,.int e.c0,.byt e.TA e.tx.length e.tc e.tx].map Av.cell).toArray 20)) ((((Below.refl w5.heap.size w5).alloc (Nat.le_refl _) (.cells ([Av.int PTV,.int e.c0,.byt e.TA e.tx.length e.tc e.tx].map Av.cell).toArray 20)).cell (p := ⟨b0,o0,none⟩) hb0).trans hC.2);refine hKK _ _ (fun _ _ _ => hCa) ?_;clear hKK KK;refine wpOTC_one _ rfl (by rfl) rfl fun KK hKK => ?_;go_simp;have hg6 := HG5.out.1.next ((Below.refl _ w5).alloc (Nat.le_refl _) (.cells ([Av.int PTV,.int e.c0,.byt e.TA e.tx.length e.tc e.tx].map Av.cell).toArray 20));refine ⟨trivial,(callsIn_wide.2 (HCH.out _ w5.heap.size hg6.bel (Row.fresh w5 20 _))).mono ?_⟩;rintro r w6 ⟨rfl,hb⟩;have hCb := And.intro (hCa.1.below hb hCa.1.lt) ((hb.cell (p := ⟨b0,o0,none⟩) (by simp;omega)).trans hCa.2);have HG6 : Hid (BG e (.slice (some ⟨zb,0,none⟩) e.ky.P.length e.ky.P.length) PTV 0 g (s + 1) (g + 1) w0 w6 k k WA wc AA ac ts ∧ Row w6 zb 3 (ivs us) ∧ g + 1 ≤ zb) := ⟨hg6.next hb,(HG5.out.2.1.alloc _).below hb (by have := HG5.out.2.1.lt;simp;omega),HG5.out.2.2⟩;refine hKK _ _ (fun _ _ _ => hCb) ?_
   iterate 2 (clear hKK KK;refine wpOTC_take rfl _ (by rfl) (fun _ => rfl) (by intro w' hS;skip;go_simp;try with_reducible rfl) (fun h => absurd h (by decide)) fun KK hKK => ?_;go_simp;refine hKK _ ?_)
   clear hKK KK;refine wpOTC_one [18] rfl (by rfl) (by kernel_rfl) fun KK hKK => ?_;have s12 := HG6.out.1.row.cell (i := 12) rfl;have f12 := HG6.out.1.row.fz 12;have hg7 : BG e (.slice (some ⟨zb,0,none⟩) e.ky.P.length e.ky.P.length) PTV (chl K PTV e.c0 e.tx) g (s + 1) (g + 1) w0 (w6.setCell ⟨g,12,none⟩ (.int .i64 (chl K PTV e.c0 e.tx))) k k WA wc AA ac ts := HG6.out.1.re ((Tch.refl (fun i => i = g) _).set (p := ⟨g,12,none⟩) (.inr rfl) _) (HG6.out.1.row.put 12 _);have hz7 : Row (w6.setCell ⟨g,12,none⟩ (.int .i64 (chl K PTV e.c0 e.tx))) zb 3 (ivs us) := HG6.out.2.1.away (p := ⟨g,12,none⟩) (by have := HG6.out.2.2;show zb ≠ g;omega) _;have HF := Lib.hid (HEND.out _ g zb AA ac WA wc ts hg7 hz7);clear HG5 HG6 hg6 hg7 hz7 hb HCH HEND hC hCa hCb;generalize chl K PTV e.c0 e.tx = CH at HF ⊢;go_simp;refine hKK _ _ (fun e9 he h9 => by simp at he;omega) ?_;clear hKK KK;refine wpOTC_done ?_;show Kz _ _;refine hKz _ _ ?_;clear hKz Kz;generalize w6.setCell ⟨g,12,none⟩ (.int .i64 CH) = w7 at HF ⊢;go_wp2;exact HF.out
theorem rows_any (g : Nat) (kp : Int) (w : World) : Calls Tryz.prog 48 #[.pointer (some ⟨g,0,none⟩),.int .i64 kp] w fun r w' =>
  r = .returned (.func (.func 110) #[] #[.pointer (some ⟨w.heap.size,0,none⟩),.pointer (some ⟨w.heap.size + 1,0,none⟩)]) ∧ (w.alloc (.cells #[.pointer (some ⟨g,0,none⟩)] 115)).alloc (.cells #[.int .i64 kp] 3) = w' := by
 go_enter Tryz.func48,Tryz.ntmps48;go_wp2;go_ret;exact ⟨rfl,rfl⟩
def RwT (P : List Int) (kp : Int) (s : Nat) (vs : Array Value) (s' : Nat) : Prop := ∃ i,s ≤ i ∧ i < P.length ∧ (∀ j,s ≤ j → j < i → ¬ P.getD j 0 ∈ [kp]) ∧ P.getD i 0 ∈ [kp] ∧ s' = i + 1 ∧ vs = #[.int .i64 (i : Int)]
theorem rows1_hands (e : We) (kp : Int) (g sp sk B : Nat) (wv : Value) (AA : Option Addr) (n ac : Nat) (pt ch : Int) (h0 : 0 < e.ky.P.length) (hn : e.ky.P.length ≤ 64) (w0 : World) (I : Nat → World → Prop)
  (hI : ∀ s W,I s W → Row W sp 115 [.pointer (some ⟨g,0,none⟩)] ∧ Row W sk 3 [.int .i64 kp] ∧ Row W g 127 (e.cells wv AA n ac pt ch) ∧ Rd W B 1 e.ky.OA e.ky.P.length (ivs e.ky.P)) :
  Hands Fence.wide 8 Tryz.prog 110 #[.pointer (some ⟨sp,0,none⟩),.pointer (some ⟨sk,0,none⟩)] w0 I (fun s vs s' _ => RwT e.ky.P kp s vs s') 0 (OwnS e.ky.P [kp]) := by
 intro l J Jx W hb hJI hJ hJx hY h0';obtain ⟨m,hmm⟩ : ∃ m,e.ky.P.length = m := ⟨_,rfl⟩;have hI0 := hI _ _ (hJI _ _ h0');obtain ⟨_,b2,o2,hOA,_,_⟩ := i64at hI0.2.2.2 h0
 have HI : Hid (∀ s V,J s V → V.cell? ⟨sp,0,none⟩ = some (.pointer (some ⟨g,0,none⟩)) ∧ V.cell? ⟨sk,0,none⟩ = some (.int .i64 kp) ∧ V.cell? ⟨g,2,none⟩ = some (.slice (some ⟨b2,o2,none⟩) m e.ky.oc) ∧ ∀ k,k < m → V.cell? ⟨b2,o2 + k,none⟩ = some (.int .i64 (e.ky.P.getD k 0))) := fun s V h => by
  obtain ⟨q1,q2,q3,q4⟩ := hI s V (hJI s V h);have q5 := q3.cell (i := 2) rfl;rw [hOA,hmm] at q5;refine ⟨q1.cell (i := 0) rfl,q2.cell (i := 0) rfl,q5,fun k hk => ?_⟩;obtain ⟨_,b2',o2',e2,_,hown⟩ := i64at q4 h0;rw [hOA] at e2
  cases e2
  exact hown k (by omega) V (Below.refl _ _)
 have HY := Lib.hid hY;have H0 := Lib.hid h0';have HMM := Lib.hid hmm;rw [hmm] at h0 hn;refine callsIn_of_wp Tryz.func110 rfl trivial ?_ rfl;obtain ⟨c1,c2,c3,_⟩ := HI.out _ _ h0';clear hI hJI hJ hJx hY h0' hb hmm hOA hI0;simp only [Tryz.ntmps110,List.size_toArray,List.length_cons,List.length_nil,Nat.reduceAdd,Nat.reduceSub,Array.replicate_succ,Array.replicate_zero,List.push_toArray,List.append_toArray,List.nil_append,List.cons_append];gi_wp2;clear c1 c2 c3
 gi_loopw [13] (fun x wr => ∃ k s : Nat,s ≤ k ∧ k ≤ m ∧ x = .int .i64 k ∧ J s wr ∧ ∀ j,s ≤ j → j < k → ¬ e.ky.P.getD j 0 ∈ [kp]) (fun x _ => m - (intOf x).toNat)
 case atStart => exact ⟨0,0,Nat.le_refl _,by omega,rfl,H0.out,fun j h1 h2 => absurd h2 (by omega)⟩
 case round =>
  clear H0;obtain ⟨k,s,hsk,hk,rfl,hj,hno⟩ := hrel;have HNO := Lib.hid hno;obtain ⟨r1,r2,r3,hcc⟩ := HI.out _ _ hj;have HJ := Lib.hid hj;clear hno
  by_cases hlt : k < m
  ·have k1 : (k : Int) < (m : Int) := by omega
   have k0 : (0 : Int) ≤ (k : Int) := by omega
   have d2 := hcc k hlt;obtain ⟨p,hp⟩ : ∃ x,e.ky.P.getD k 0 = x := ⟨_,rfl⟩;rw [hp] at d2;have HPP := Lib.hid hp;clear hcc hp r3 r1
   by_cases hpL : p = kp
   ·have hy0 := HY.out s #[.int .i64 (k : Int)] (k + 1) wr hj ⟨k,hsk,by rw [HMM.out];exact hlt,HNO.out,by rw [HPP.out,hpL];simp,rfl,rfl⟩
    obtain ⟨fn,tmps,assign,body,hy,hRR⟩ := hy0;have HRR := Lib.hid hRR;have e2 : (p == kp) = true := by rw [hpL];exact beq_self_eq_true kp
    clear hRR hpL hj
    gi_wp2_with fail
    refine HRR.out.mono ?_;rintro x W3 (⟨rfl,hJ3⟩ | ⟨rfl,hJ3⟩)
    ·have HJ3 := Lib.hid hJ3
     clear hJ3 hy
     gi_wp2_with fail
     go_roundw
     case rel => exact ⟨k + 1,k + 1,Nat.le_refl _,by omega,by go_num,HJ3.out,fun j h1 h2 => absurd h1 (by omega)⟩
     case measure => simp [intOf];omega
    ·have HJ3 := Lib.hid hJ3
     clear hJ3 hy
     gi_wp2_with fail
     refine bodyPost_ret (results_none' rfl _ _ _ rfl) rfl ?_;exact ⟨⟨_,rfl⟩,.inr ⟨_,HJ3.out⟩⟩
   ·have e2 : (p == kp) = false := by rw [beq_eq_false_iff_ne];exact hpL
    have HNE : Hid (¬ p = kp) := hpL;clear hpL hj
    gi_wp2_with fail
    refine ⟨fun _ _ => trivial,?_⟩
    gi_wp2_with fail
    go_roundw
    case rel => exact ⟨k + 1,s,by omega,by omega,by go_num,HJ.out,fun j h1 h2 => by
     by_cases e9 : j = k
     ·subst e9;rw [HPP.out];simpa using HNE.out
     ·exact HNO.out j h1 (by omega)⟩
    case measure => simp [intOf];omega
  ·obtain rfl : k = m := by omega
   clear hj r1 r2 r3 hcc
   gi_wp2_with fail
   refine bodyPost_end (results_none' rfl _ _ _ rfl) rfl ?_;exact ⟨⟨_,rfl⟩,.inl ⟨s,fun j h1 h2 => HNO.out j h1 (by rw [HMM.out] at h2;exact h2),HJ.out⟩⟩
end Go.Proofs.YtifejdpffkeniaaGreatDoor
