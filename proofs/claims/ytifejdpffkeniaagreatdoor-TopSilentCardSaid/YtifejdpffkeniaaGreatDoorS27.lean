import Derived.Test.YtifejdpffkeniaaGreatDoorS14
import Derived.Test.YtifejdpffkeniaaGreatDoorS26
set_option linter.unusedVariables false
set_option maxRecDepth 100000
set_option maxHeartbeats 40000000
namespace Go.Proofs.YtifejdpffkeniaaGreatDoor
open Go.RowKit
attribute [local go_sem] Oper.semAt_some
theorem same0_any (w : World) : Calls Tryz.prog 17 #[.slice none 0 0,.slice none 0 0] w fun r w' => r = .returned (.bool true) ∧ Below w.heap.size w w' := by
 go_enter Tryz.func17,Tryz.ntmps17;go_wp2
 go_loopw [5] (fun i wr => i = .int .i64 0 ∧ Below w.heap.size w wr) (fun _ _ => 0)
 case atStart => exact ⟨rfl,Below.refl _ _⟩
 case round =>
  obtain ⟨rfl,hb⟩ := hrel;have HB := Lib.hid hb;clear hb;go_wp2;go_ret;exact ⟨rfl,HB.out⟩
theorem bk_okA {k sd : Int} (k1 : 0 ≤ k ∧ k < 64) (s1 : 0 ≤ sd ∧ sd ≤ 1099511627776) : (⟨k,sd,2,[0,1]⟩ : Bk).ok :=
 ⟨k1.1,k1.2,s1.1,s1.2,(by show (0 : Int) ≤ 2;decide),(by show (2 : Int) ≤ 4096;decide),(by show List.Pairwise (· < ·) ([0,1] : List Int);decide),(by show ∀ x ∈ ([0,1] : List Int),0 ≤ x;decide),(by show ∀ x ∈ ([0,1] : List Int),x < 2;decide)⟩
theorem bk_okB {k sd : Int} (k1 : 0 ≤ k ∧ k < 64) (s1 : 0 ≤ sd ∧ sd ≤ 1099511627776) : (⟨k,sd,2,[1]⟩ : Bk).ok :=
 ⟨k1.1,k1.2,s1.1,s1.2,(by show (0 : Int) ≤ 2;decide),(by show (2 : Int) ≤ 4096;decide),(by show List.Pairwise (· < ·) ([1] : List Int);decide),(by show ∀ x ∈ ([1] : List Int),0 ≤ x;decide),(by show ∀ x ∈ ([1] : List Int),x < 2;decide)⟩
theorem bk_okC {k sd : Int} (k1 : 0 ≤ k ∧ k < 64) (s1 : 0 ≤ sd ∧ sd ≤ 1099511627776) : (⟨k,sd,2,[]⟩ : Bk).ok :=
 ⟨k1.1,k1.2,s1.1,s1.2,(by show (0 : Int) ≤ 2;decide),(by show (2 : Int) ≤ 4096;decide),(by show List.Pairwise (· < ·) ([] : List Int);decide),(by show ∀ x ∈ ([] : List Int),0 ≤ x;decide),(by show ∀ x ∈ ([] : List Int),x < 2;decide)⟩
section
variable {K : Sh.Cst} {e : Inp} {W : World}
def Inp.zz (e : Inp) (K : Sh.Cst) (t : Nat) (TX us : List Int) (i : Nat) : Int := mkz K (e.we K t none 0 TX none 0 none 0) us (prp K e t i)
theorem EV.weok {g5 : Nat} {gp cp : Nat → Nat} {rr : Nat → List Value} {KC : List Value} {hA : Option Addr} {nr : Nat} {CA : Option Addr} {q cc : Nat} (h : EV K e g5 gp cp rr KC hA nr CA e.N q W) (hf : e.fit) (hq : e.L.d.length = q) {t : Nat} (ht : t < 2) {TX : List Int} {TA : Option Addr} {tc : Nat}
  (htx : Rd W W.heap.size 1 TA TX.length (TX.map (Value.int .u8))) (htl : TX.length ≤ 2000) : (e.we K t CA cc TX TA tc (some ⟨gp t,0,none⟩) (cp t)).ok W W.heap.size := by
 have hle : g5 ≤ W.heap.size := Nat.le_of_lt h.key.lt;subst hq;exact (h.inp.more hle).weok hf ht (h.cm.more hle) htx htl (h.rd ht) h.laid
theorem EV.c0 {g5 : Nat} {gp cp : Nat → Nat} {rr : Nat → List Value} {KC : List Value} {hA : Option Addr} {nr : Nat} {CA : Option Addr} {q N : Nat} (h : EV K e g5 gp cp rr KC hA nr CA N q W) (hN : 1 ≤ N) : ∃ b o,CA = some ⟨b,o,none⟩ ∧ b < g5 ∧ W.cell? ⟨b,o,none⟩ = some (.int .i64 (Gm.pw e.x0.toNat : Int)) := by
 obtain ⟨b,o,e1,hb,hc⟩ := h.cm.2 hN;refine ⟨b,o,e1,hb,hc 0 _ ?_⟩;obtain ⟨M,rfl⟩ : ∃ M,N = M + 1 := ⟨N - 1,by omega⟩;unfold ivs cms;rw [List.getElem?_map,List.getElem?_map,List.getElem?_range (by omega)]
 rfl
theorem we_make {t i : Nat} {CA TA PA : Option Addr} {cc tc pc : Nat} {TX us : List Int} {SA : Option Addr} {sc : Nat} (hw : (e.we K t CA cc TX TA tc PA pc).ok W W.heap.size) (hf : e.fit) (hacc : AccR e.N (e.rs.map RI.d) e.ow.d e.L.d true us) (hi : i < e.L.d.length)
  {kp sp : Int} (hk : e.L.d.getD i 0 = kp) (hs : e.sd.d.getD i 0 = sp)
  (hsh : Rd W W.heap.size 2 SA (sel e.ow.d [kp] e.ow.d.length).length ((sel e.ow.d [kp] e.ow.d.length).flatMap fun j : Nat => [.int .i64 (j : Int),.int .i64 (shr (e.rs.map RI.d) (e.x0 :: e.R.d) j)])) :
  Calls Tryz.prog 12 #[.agg #[.int .i64 0,.slice e.RA e.ow.d.length e.rc,.slice e.ow.A e.ow.d.length e.ow.c,.slice CA e.N cc],.slice TA TX.length tc,.slice PA e.L.d.length pc,.int .i64 kp,.slice SA (sel e.ow.d [kp] e.ow.d.length).length sc,.int .i64 (nz K kp sp (t : Int) 0),.int .i64 (nz K kp sp (t : Int) 1)] W fun r w' =>
   r = .returned (.tuple #[.int .i64 (e.zz K t TX us i),.int .i64 0]) ∧ Below W.heap.size W w' := by
 subst hk hs;have hl : (prT K e t e.L.d.length).length = e.L.d.length := prT_len _ _ _ _;have e1 := (prT_get K e (t := t) hi).1;obtain ⟨r1,r2,r3,r4⟩ := prp_rng K e t i;have hds : (e.rs.map RI.d).length = e.ow.d.length := by rw [List.length_map];exact (Inp.plen hf).1
 have hk : (prT K e t e.L.d.length).map Pr.k = e.L.d := prT_k K e t
 have h := pmake_any K (e.we K t CA cc TX TA tc PA pc) us i SA sc W hw (by show AccR e.N (e.rs.map RI.d) e.ow.d ((prT K e t e.L.d.length).map Pr.k) true us;rw [hk];exact hacc) (acc_pos hacc hds (Inp.n1 hf).1) (by show i < (prT K e t e.L.d.length).length;rw [hl];exact hi)
  (by show ((prT K e t e.L.d.length).getD i default).d < _;rw [e1];exact r1) (by show ((prT K e t e.L.d.length).getD i default).f < _;rw [e1];exact r2) (hacc.law hds).1 (by show Rd W W.heap.size 2 SA (sel e.ow.d [((prT K e t e.L.d.length).getD i default).k] e.ow.d.length).length (shL _ ((prT K e t e.L.d.length).getD i default).k e.ow.d.length);rw [e1];exact hsh)
 change Calls _ _ #[.agg #[.int .i64 0,.slice e.RA e.ow.d.length e.rc,.slice e.ow.A e.ow.d.length e.ow.c,.slice CA e.N cc],.slice TA TX.length tc,.slice PA (prT K e t e.L.d.length).length pc,.int .i64 ((prT K e t e.L.d.length).getD i default).k,.slice SA (sel e.ow.d [((prT K e t e.L.d.length).getD i default).k] e.ow.d.length).length sc,.int .i64 (((prT K e t e.L.d.length).getD i default).d : Int),.int .i64 (((prT K e t e.L.d.length).getD i default).f : Int)] W (fun r w' => r = .returned (.tuple #[.int .i64 (mkz K (e.we K t CA cc TX TA tc PA pc) us ((prT K e t e.L.d.length).getD i default)),.int .i64 0]) ∧ Below W.heap.size W w') at h;rw [e1,hl,r3,r4] at h;exact h
theorem we_said (K : Sh.Cst) {i t : Nat} {d : Int} {co : Bool} (hf : e.fit) (hi : i < e.L.d.length) (hd : 0 ≤ d ∧ d < 4096) (ht : t < 2) (hL : Laid W) :
  Calls Tryz.prog 13 #[.agg #[.int .i64 (e.S.getD i s0l).a,.int .i64 (e.S.getD i s0l).b,.int .i64 (e.S.getD i s0l).c],.int .i64 d,.int .i64 (t : Int),.bool co] W fun r w' => r = .returned (.bool true) ∧ Below W.heap.size W w' :=
 said47_any K _ _ _ _ _ co W hL (hf.each i hi).2 (Du.poss_iff.2 ⟨hd.1,hd.2,by omega,by omega⟩)
theorem take_any {t i : Nat} {d : Int} {b : Bq} (hf : e.fit) (hi : i < e.L.d.length) (ht : t < 2) (hd : 0 ≤ d ∧ d < 4096) (hb : b.ok e t i W) (hL : Laid W) :
  Calls Tryz.prog 11 #[.agg #[.int .i64 b.k,.int .i64 b.sd,.int .i64 2,.slice b.A b.n b.c],.int .i64 (t : Int),.int .i64 d] W fun r w' =>
   (∃ A n c,r = .returned (.tuple #[.agg #[.int .i64 b.k,.int .i64 b.sd,.int .i64 2,.slice A n c],.int .i64 (nz K b.k b.sd (t : Int) 0),.int .i64 (nz K b.k b.sd (t : Int) 1),.int .i64 0]) ∧ (⟨b.k,b.sd,A,n,c⟩ : Bq).ok e (t + 1) i w' ∧ (⟨b.k,b.sd,A,n,c⟩ : Bq).off (fun g => g < W.heap.size)) ∧ Below W.heap.size W w' := by
 obtain ⟨k,sd,A,n,c⟩ := b;obtain ⟨hk,hs,hn,hr,hc1,hc2⟩ := hb;dsimp only at hk hs hn hr hc1 hc2 ⊢;have k1 := L_rng hf hi;have s1 := (hf.each i hi).1;rw [← hk] at k1;rw [← hs] at s1
 have hfr : ∀ {n A'},Fr W.heap.size n A' → ∀ c',(⟨k,sd,A',n,c'⟩ : Bq).off (fun g => g < W.heap.size) := fun h c' hn => by
  obtain ⟨b,o,e1,h1⟩ := h hn;exact ⟨b,o,e1,by omega⟩
 subst hn
 match t,ht with
 | 0,_ =>
  refine (take2_any K k sd 2 0 d 1 A c W k1 s1 (by decide) hd (bk_okA k1 s1) (by decide) hL hr hc1 hc2).mono ?_;rintro r w' ⟨⟨A',c',e1,h1,h2,h3,h4⟩,h5⟩;exact ⟨⟨A',_,c',e1,⟨hk,hs,rfl,h1,h2,h3⟩,hfr h4 c'⟩,h5⟩
 | 1,_ =>
  refine (take1_any K k sd 2 1 d A c W k1 s1 (by decide) hd (bk_okB k1 s1) hL hr hc1 hc2).mono ?_;rintro r w' ⟨⟨A',c',e1,h1,h2,h3,h4⟩,h5⟩;exact ⟨⟨A',_,c',e1,⟨hk,hs,rfl,h1,h2,h3⟩,hfr h4 c'⟩,h5⟩
theorem again_any {t i : Nat} {d : Int} {b : Bq} (hf : e.fit) (hi : i < e.L.d.length) (ht : t < 2) (hd : 0 ≤ d ∧ d < 4096) (hb : b.ok e (t + 1) i W) :
  Calls Tryz.prog 11 #[.agg #[.int .i64 b.k,.int .i64 b.sd,.int .i64 2,.slice b.A b.n b.c],.int .i64 (t : Int),.int .i64 d] W (TkN W) := by
 obtain ⟨k,sd,A,n,c⟩ := b;obtain ⟨hk,hs,hn,hr,hc1,hc2⟩ := hb;dsimp only at hk hs hn hr hc1 hc2 ⊢;have k1 := L_rng hf hi;have s1 := (hf.each i hi).1;rw [← hk] at k1;rw [← hs] at s1;subst hn
 match t,ht with
 | 0,_ => exact take1n_any k sd 2 0 d 1 A c W hd (bk_okB k1 s1) (by decide) hr hc1 hc2
 | 1,_ => exact take0n_any k sd 2 1 d A c W hd (bk_okC k1 s1) hr hc1 hc2
structure Zz (e : Inp) (K : Sh.Cst) (t : Nat) (TX us zs : List Int) : Prop where
 len : zs.length = e.L.d.length
 eq : ∀ j,j < e.L.d.length → zs.getD j 0 = e.zz K t TX us j
theorem Zz.rng {t : Nat} {TX us zs : List Int} (h : Zz e K t TX us zs) : ∀ z ∈ zs,0 ≤ z ∧ z < 1073741789 := all_of fun j hj => by
 rw [h.eq j (by rw [← h.len];exact hj)];exact mkz_rng _ _ _ _
theorem Zz.zs {t : Nat} {TX us zs : List Int} {CA TA PA ZA : Option Addr} {cc tc pc : Nat} (h : Zz e K t TX us zs) (hr : Rd W W.heap.size 1 ZA e.L.d.length (ivs zs)) : Zs (e.we K t CA cc TX TA tc PA pc) zs ZA W W.heap.size :=
 ⟨by show Rd W W.heap.size 1 ZA (prT K e t e.L.d.length).length (ivs zs);rw [prT_len];exact hr,h.rng⟩
theorem Zz.at {t : Nat} {TX us zs : List Int} {CA TA PA : Option Addr} {cc tc pc : Nat} (h : Zz e K t TX us zs) {j : Nat} (hj : j < (e.we K t CA cc TX TA tc PA pc).ps.length) : zs.getD j 0 = mkz K (e.we K t CA cc TX TA tc PA pc) us ((e.we K t CA cc TX TA tc PA pc).ps.getD j default) := by
 have hj' : j < e.L.d.length := by rw [← prT_len K e t e.L.d.length];exact hj
 rw [h.eq j hj'];show _ = mkz K _ us ((prT K e t e.L.d.length).getD j default);rw [(prT_get K e (t := t) hj').1]
 rfl
theorem we_sig {t : Nat} {CA TA PA : Option Addr} {cc tc pc : Nat} {TX us zs : List Int} (hw : (e.we K t CA cc TX TA tc PA pc).ok W W.heap.size) (hf : e.fit) (hacc : AccR e.N (e.rs.map RI.d) e.ow.d e.L.d true us) (hz : Zz e K t TX us zs) :
  chv K (e.we K t CA cc TX TA tc PA pc) = chl K (Gm.pw ((fs zs e.L.d.length).toNat + e.x0.toNat * (-(chv K (e.we K t CA cc TX TA tc PA pc)) % 1073741789).toNat) : Int) (Gm.pw e.x0.toNat : Int) TX := by
 have hds : (e.rs.map RI.d).length = e.ow.d.length := by rw [List.length_map];exact (Inp.plen hf).1
 have h := sig_ch K (e.we K t CA cc TX TA tc PA pc) us zs (by show AccR e.N (e.rs.map RI.d) e.ow.d ((prT K e t e.L.d.length).map Pr.k) true us;rw [prT_k];exact hacc) hds (by show (e.x0 :: e.R.d).length = e.N;rw [List.length_cons];exact hf.rl) (Inp.n1 hf).1 hw.pi (by show 0 ≤ e.x0;have := hf.x0;omega) fun j hj => hz.at hj;change chv K (e.we K t CA cc TX TA tc PA pc) = chl K (Gm.pw ((fs zs (prT K e t e.L.d.length).length).toNat + e.x0.toNat * (-(chv K (e.we K t CA cc TX TA tc PA pc)) % 1073741789).toNat) : Int) (Gm.pw e.x0.toNat : Int) TX at h;rw [prT_len] at h;exact h
def Inp.ch (e : Inp) (K : Sh.Cst) (t : Nat) (TX : List Int) : Int := chv K (e.we K t none 0 TX none 0 none 0)
theorem we_combine {t : Nat} {CA TA PA ZA : Option Addr} {cc tc pc zc : Nat} {TX us zs : List Int} (hw : (e.we K t CA cc TX TA tc PA pc).ok W W.heap.size) (hf : e.fit) (hacc : AccR e.N (e.rs.map RI.d) e.ow.d e.L.d true us) (hz : Zz e K t TX us zs) (hr : Rd W W.heap.size 1 ZA e.L.d.length (ivs zs)) :
  Calls Tryz.prog 14 #[.agg #[.int .i64 0,.slice e.RA e.ow.d.length e.rc,.slice e.ow.A e.ow.d.length e.ow.c,.slice CA e.N cc],.slice TA TX.length tc,.slice PA e.L.d.length pc,.slice ZA e.L.d.length zc] W fun r w' => r = .returned (.tuple #[.agg #[.int .i64 (e.ch K t TX),.int .i64 (fs zs e.L.d.length)],.bool true,.int .i64 0]) ∧ Below W.heap.size W w' := by
 have hr1 := chv_rng K (e.we K t CA cc TX TA tc PA pc);have hs := we_sig hw hf hacc hz
 have h := combine47_any K (e.we K t CA cc TX TA tc PA pc) us zs ZA zc W hw (by show AccR e.N (e.rs.map RI.d) e.ow.d ((prT K e t e.L.d.length).map Pr.k) true us;rw [prT_k];exact hacc) (hz.zs hr) hr1.1 hr1.2 (by
  show chv K (e.we K t CA cc TX TA tc PA pc) = chl K (Gm.pw ((fs zs (prT K e t e.L.d.length).length).toNat + e.x0.toNat * (-(chv K (e.we K t CA cc TX TA tc PA pc)) % 1073741789).toNat) : Int) (Gm.pw e.x0.toNat : Int) TX;rw [prT_len]
  exact hs)
 change Calls _ _ #[.agg #[.int .i64 0,.slice e.RA e.ow.d.length e.rc,.slice e.ow.A e.ow.d.length e.ow.c,.slice CA e.N cc],.slice TA TX.length tc,.slice PA (prT K e t e.L.d.length).length pc,.slice ZA (prT K e t e.L.d.length).length zc] W (fun r w' => r = .returned (.tuple #[.agg #[.int .i64 (chv K (e.we K t CA cc TX TA tc PA pc)),.int .i64 (fs zs (prT K e t e.L.d.length).length)],.bool true,.int .i64 0]) ∧ Below W.heap.size W w') at h;rw [prT_len] at h;exact h
theorem we_blame {t : Nat} {CA TA PA ZA : Option Addr} {cc tc pc zc : Nat} {TX us zs : List Int} (hw : (e.we K t CA cc TX TA tc PA pc).ok W W.heap.size) (hf : e.fit) (hacc : AccR e.N (e.rs.map RI.d) e.ow.d e.L.d true us) (hz : Zz e K t TX us zs) (hr : Rd W W.heap.size 1 ZA e.L.d.length (ivs zs)) :
  Calls Tryz.prog 15 #[.agg #[.int .i64 0,.slice e.RA e.ow.d.length e.rc,.slice e.ow.A e.ow.d.length e.ow.c,.slice CA e.N cc],.slice TA TX.length tc,.slice PA e.L.d.length pc,.slice ZA e.L.d.length zc] W fun r w' => r = .returned (.tuple #[.slice none 0 0,.int .i64 0]) ∧ Below W.heap.size W w' := by
 have hds : (e.rs.map RI.d).length = e.ow.d.length := by rw [List.length_map];exact (Inp.plen hf).1
 have h := blame_any K (e.we K t CA cc TX TA tc PA pc) us zs ZA zc W hw (by show AccR e.N (e.rs.map RI.d) e.ow.d ((prT K e t e.L.d.length).map Pr.k) true us;rw [prT_k];exact hacc) (acc_pos hacc hds (Inp.n1 hf).1) (hacc.law hds).1 (hz.zs hr) fun j hj => by rw [hz.at hj];exact blame_pw _ _ _ _
 change Calls _ _ #[.agg #[.int .i64 0,.slice e.RA e.ow.d.length e.rc,.slice e.ow.A e.ow.d.length e.ow.c,.slice CA e.N cc],.slice TA TX.length tc,.slice PA (prT K e t e.L.d.length).length pc,.slice ZA (prT K e t e.L.d.length).length zc] W _ at h;rw [prT_len] at h;exact h
theorem we_verify {t : Nat} {CA TA PA : Option Addr} {cc tc pc : Nat} {TX us zs : List Int} (hw : (e.we K t CA cc TX TA tc PA pc).ok W W.heap.size) (hf : e.fit) (hacc : AccR e.N (e.rs.map RI.d) e.ow.d e.L.d true us) (hz : Zz e K t TX us zs) :
  Calls Tryz.prog 16 #[.int .i64 (Gm.pw e.x0.toNat : Int),.slice TA TX.length tc,.agg #[.int .i64 (e.ch K t TX),.int .i64 (fs zs e.L.d.length)]] W fun r w' => r = .returned (.bool true) ∧ Below W.heap.size W w' := by
 have hr1 := chv_rng K (e.we K t CA cc TX TA tc PA pc);have hr2 := fs_rng zs e.L.d.length;have hsg : e.ch K t TX = chl K (Gm.pw ((fs zs e.L.d.length).toNat + e.x0.toNat * (-(e.ch K t TX) % 1073741789).toNat) : Int) (Gm.pw e.x0.toNat : Int) TX := (by have h9 := we_sig hw hf hacc hz;exact h9);exact verify_any K e.x0.toNat TA TX.length tc TX (e.ch K t TX) (fs zs e.L.d.length) W hr1.1 hr1.2 hr2.1 hr2.2 hw.la rfl hw.tx hw.tl hsg
end
def shK (e : Inp) (kp : Int) (j : Nat) : List Value := (sel e.ow.d [kp] j).flatMap fun j : Nat => [.int .i64 (j : Int),.int .i64 (shr (e.rs.map RI.d) (e.x0 :: e.R.d) j)]
theorem shK_yes (e : Inp) {kp : Int} {j : Nat} (h : e.ow.d.getD j 0 = kp) : (sel e.ow.d [kp] (j + 1)).length = (sel e.ow.d [kp] j).length + 1 ∧ shK e kp (j + 1) = shK e kp j ++ [.int .i64 (j : Int),.int .i64 (shr (e.rs.map RI.d) (e.x0 :: e.R.d) j)] := by
 unfold shK;rw [sel_one,if_pos h];simp
theorem shK_no (e : Inp) {kp : Int} {j : Nat} (h : ¬ e.ow.d.getD j 0 = kp) : sel e.ow.d [kp] (j + 1) = sel e.ow.d [kp] j ∧ shK e kp (j + 1) = shK e kp j := by
 have : sel e.ow.d [kp] (j + 1) = sel e.ow.d [kp] j := by rw [sel_one,if_neg h,List.append_nil]
 exact ⟨this,by unfold shK;rw [this]⟩
theorem Tch.rd {ex : Nat → Prop} {w w' : World} {size n : Nat} {A : Option Addr} {xs : List Value} (h : Tch ex w w') (hr : Rd w w.heap.size size A n xs) (hA : ∀ b o,A = some ⟨b,o,none⟩ → 0 < n → ¬ ex b) : Rd w' w'.heap.size size A n xs := by
 refine ⟨hr.1,fun hn => ?_⟩;obtain ⟨b,o,e1,hb,hc⟩ := hr.2 hn;exact ⟨b,o,e1,Nat.lt_of_lt_of_le hb h.size,fun j v hv => (h.cell (p := ⟨b,o + j,none⟩) hb (hA b o e1 hn)).trans (hc j v hv)⟩
end Go.Proofs.YtifejdpffkeniaaGreatDoor
namespace Go.Proofs.YtifejdpffkeniaaGreatDoor
open Go.RowKit
theorem flat_gen {α : Type} (f : α → List Value) (z : Nat) (hz : ∀ a,(f a).length = z) (rest : List Value) : ∀ (L : List α) (i j : Nat) (a : α) (v : Value),L[i]? = some a → (f a)[j]? = some v → (L.flatMap f ++ rest)[i * z + j]? = some v
 | [],i,j,a,v,h,_ => by simp at h
 | b :: L,0,j,a,v,h,hv => by
  have e : b = a := by simpa using h
  subst e;rw [List.flatMap_cons,List.append_assoc,Nat.zero_mul,Nat.zero_add,List.getElem?_append_left (List.getElem?_eq_some_iff.1 hv).1];exact hv
 | b :: L,i + 1,j,a,v,h,hv => by
  have ih := flat_gen f z hz rest L i j a v (by simpa using h) hv;have e : (i + 1) * z + j = z + (i * z + j) := by rw [Nat.succ_mul];omega
  rw [List.flatMap_cons,List.append_assoc,e,List.getElem?_append_right (by rw [hz];omega),hz,Nat.add_sub_cancel_left];exact ih
structure MV (K : Sh.Cst) (e : Inp) (g5 : Nat) (gp cp : Nat → Nat) (rr : Nat → List Value) (KC : List Value) (hA : Option Addr) (nr : Nat) (CA : Option Addr) (N q gB zt : Nat) (rest : List Value) (w5 w7 : World) (t : Nat) (TX : List Int) (TA : Option Addr) (g35 : Nat) (CD : List Value) (i : Nat) (BL : List Bq) (pv : Value) (zs : List Int) (W : World) : Prop where
 ds : DS e gB zt rest w5 W t i i BL pv zs
 tw : Tch (fun g => g = gB) w7 W
 ev5 : EV K e g5 gp cp rr KC hA nr CA N q w5
 tx7 : Rd w7 w7.heap.size 1 TA TX.length (TX.map (Value.int .u8))
 tf : ∀ b o,TA = some ⟨b,o,none⟩ → b ≠ gB
 dc7 : Row w7 g35 29 CD
 dg : g35 ≠ gB
 g1 : g5 + 2 ≤ gB
 g2 : ∀ t,t < 2 → gp t ≠ gB
 g3 : 2 ≤ g5
 zl : w7.heap.size ≤ zt
section
variable {K : Sh.Cst} {e : Inp} {g5 : Nat} {gp cp : Nat → Nat} {rr : Nat → List Value} {KC : List Value} {hA : Option Addr} {nr : Nat} {CA : Option Addr} {N q gB zt : Nat} {rest : List Value} {w5 w7 : World} {t : Nat} {TX : List Int} {TA : Option Addr} {g35 : Nat} {CD : List Value} {i : Nat} {BL : List Bq} {pv : Value} {zs : List Int} {W W' W1 : World}
theorem MV.next (h : MV K e g5 gp cp rr KC hA nr CA N q gB zt rest w5 w7 t TX TA g35 CD i BL pv zs W) (hb : Below W.heap.size W W') : MV K e g5 gp cp rr KC hA nr CA N q gB zt rest w5 w7 t TX TA g35 CD i BL pv zs W' :=
 ⟨h.ds.next hb,h.tw.next hb,h.ev5,h.tx7,h.tf,h.dc7,h.dg,h.g1,h.g2,h.g3,h.zl⟩
theorem MV.ev (h : MV K e g5 gp cp rr KC hA nr CA N q gB zt rest w5 w7 t TX TA g35 CD i BL pv zs W) : EV K e g5 gp cp rr KC hA nr CA N q W := h.ev5.tch h.ds.tch h.g1 h.g2 h.g3
theorem MV.tx (h : MV K e g5 gp cp rr KC hA nr CA N q gB zt rest w5 w7 t TX TA g35 CD i BL pv zs W) : Rd W W.heap.size 1 TA TX.length (TX.map (Value.int .u8)) := h.tw.rd h.tx7 fun b o e _ => h.tf b o e
theorem MV.dc (h : MV K e g5 gp cp rr KC hA nr CA N q gB zt rest w5 w7 t TX TA g35 CD i BL pv zs W) : Row W g35 29 CD := h.tw.row h.dc7 h.dg
theorem MV.weok {cc tc : Nat} (h : MV K e g5 gp cp rr KC hA nr CA N q gB zt rest w5 w7 t TX TA g35 CD i BL pv zs W) (hN : e.N = N) (hf : e.fit) (hq : e.L.d.length = q) (ht : t < 2) (htl : TX.length ≤ 2000) : (e.we K t CA cc TX TA tc (some ⟨gp t,0,none⟩) (cp t)).ok W W.heap.size := by
 subst hN;exact h.ev.weok hf hq ht h.tx htl
theorem EV.share (h : EV K e g5 gp cp rr KC hA nr CA N q W) {j : Nat} (hj : j < nr) : ∃ b o,hA = some ⟨b,o,none⟩ ∧ b < g5 ∧ W.cell? ⟨b,o + j * 2,none⟩ = some (.int .i64 (j : Int)) ∧ W.cell? ⟨b,o + j * 2 + 1,none⟩ = some (.int .i64 (shr (e.rs.map RI.d) (e.x0 :: e.R.d) j)) := by
 obtain ⟨b,o,e1,hb,hc⟩ := h.sh.2 (by omega);have hf := fun m v => flat_gen (fun i : Nat => [Value.int .i64 (i : Int),.int .i64 (shr (e.rs.map RI.d) (e.x0 :: e.R.d) i)]) 2 (fun _ => rfl) [] (List.range nr) j m j v (List.getElem?_range hj);rw [List.append_nil] at hf;exact ⟨b,o,e1,hb,hc _ _ (hf 0 _ rfl),hc _ _ (hf 1 _ rfl)⟩
theorem MV.step (h : MV K e g5 gp cp rr KC hA nr CA N q gB zt rest w5 w7 t TX TA g35 CD i BL pv zs W) (hi : i < e.L.d.length) {b : Bq} (hb : b.ok e (t + 1) i W) (hf : b.off (fun g => g = gB ∨ pv.ownBlock = some g)) (h01 : Below W.heap.size W W1) {v' : Value} {z : Int}
  (ho : W'.ownsRow zt 3 1 v' (i + 1) (ivs zs ++ [.int .i64 z])) (hg : W1.grownBy W' pv.ownBlock) (hr : v'.ownBlock = pv.ownBlock ∨ v'.ownBlock = some W1.heap.size) :
  MV K e g5 gp cp rr KC hA nr CA N q gB zt rest w5 w7 t TX TA g35 CD (i + 1) (BL.set i b) v' (zs ++ [z]) ((((W'.setCell ⟨gB,i * 4,none⟩ (.int .i64 b.k)).setCell ⟨gB,i * 4 + 1,none⟩ (.int .i64 b.sd)).setCell ⟨gB,i * 4 + 2,none⟩ (.int .i64 2)).setCell ⟨gB,i * 4 + 3,none⟩ (.slice b.A b.n b.c)) := by
 have h1 := h.next h01;have hb1 := hb.next h01;have hT : Tch (fun g => pv.ownBlock = some g) W1 W' := (Tch.refl _ _).grown hg fun g hg' => .inr hg';have d1 := h1.ds.app ho hg hr;have hb2 : b.ok e (t + 1) i W' := hb1.tch (off_mono hf fun g o _ hq => .inr hq) hT
 have hf2 : b.off (fun g => g = gB ∨ v'.ownBlock = some g) := fun hn => by
  obtain ⟨g,o,e1,hx⟩ := hf hn;refine ⟨g,o,e1,fun hq => hx ?_⟩
  rcases hq with hq | hq
  ·exact .inl hq
  ·rcases hr with hr | hr
   ·exact .inr (hr ▸ hq)
   ·rw [hr] at hq;cases hq;exact absurd (hb1.lt hn e1) (by omega)
 have d2 := d1.put hi hb2 hf2;have hown := fun g hg' => (h1.ds.own.lt g hg').1;have hzl := h.zl;have ht1 : Tch (fun g => g = gB) w7 W' := h1.tw.grown hg fun g hg' => .inl (Nat.le_trans hzl (hown g hg'));exact ⟨d2,(((ht1.set (.inr rfl) _).set (.inr rfl) _).set (.inr rfl) _).set (.inr rfl) _,h.ev5,h.tx7,h.tf,h.dc7,h.dg,h.g1,h.g2,h.g3,h.zl⟩
theorem MV.cells (h : MV K e g5 gp cp rr KC hA nr CA N q gB zt rest w5 w7 t TX TA g35 CD i BL pv zs W) (hq : e.L.d.length = q) (hi : i < q) (ht : t < 2) {kp sp dn : Int} (hk : e.L.d.getD i 0 = kp) (hs : e.sd.d.getD i 0 = sp) (hcd : CD[0]? = some (.int .i64 dn)) :
  ∃ A n c,(⟨kp,sp,A,n,c⟩ : Bq).ok e t i W ∧ ∀ W',Below W.heap.size W W' → W'.cell? ⟨gB,i * 4,none⟩ = some (.int .i64 kp) ∧ W'.cell? ⟨gB,i * 4 + 1,none⟩ = some (.int .i64 sp) ∧ W'.cell? ⟨gB,i * 4 + 2,none⟩ = some (.int .i64 2) ∧ W'.cell? ⟨gB,i * 4 + 3,none⟩ = some (.slice A n c) ∧
   W'.cell? ⟨g5 + 1,t,none⟩ = some (.slice (some ⟨gp t,0,none⟩) q (cp t)) ∧ W'.cell? ⟨gp t,i * 4 + 1,none⟩ = some (.int .i64 (t : Int)) ∧ W'.cell? ⟨g35,0,none⟩ = some (.int .i64 dn) := by
 obtain ⟨hb,_⟩ := h.ds.bk i (by omega);rw [if_neg (Nat.lt_irrefl i)] at hb
 have hbl : BL[i]? = some (BL.getD i b0) := by
  have := h.ds.len;rw [List.getD_eq_getElem?_getD,List.getElem?_eq_getElem (by omega)]
  rfl
 generalize BL.getD i b0 = b at hb hbl;obtain ⟨k1,s1,A,n,c⟩ := b;have ek : k1 = kp := hb.k.trans hk;have es : s1 = sp := hb.sd.trans hs;subst ek es;refine ⟨A,n,c,hb,fun W' hW => ?_⟩;have hr := h.ds.row.below hW h.ds.row.lt;have hv := h.ev;have hx := hv.box.below hW hv.box.lt;have hp := (hv.pr t ht).below hW (hv.pr t ht).lt;have hd := h.dc.below hW h.dc.lt;have fb := fun j v => flat_gen Bq.cells 4 (fun _ => rfl) rest BL i j _ v hbl;refine ⟨hr.cell (fb 0 _ rfl),hr.cell (fb 1 _ rfl),hr.cell (fb 2 _ rfl),hr.cell (fb 3 _ rfl),hx.cell ?_,hp.cell (flat_gen Pr.cells 4 (fun _ => rfl) (rr t) (prT K e t q) i 1 _ _ (prT_get K e hi).2 rfl),hd.cell hcd⟩
 match t,ht with
 | 0,_ => rfl
 | 1,_ => rfl
end
theorem wk_box {K : Sh.Cst} {e : Inp} {g5 : Nat} {gp cp : Nat → Nat} {rr : Nat → List Value} {KC : List Value} {hA : Option Addr} {nr : Nat} {CA : Option Addr} {N q : Nat} {W : World} (h : EV K e g5 gp cp rr KC hA nr CA N q W) {t : Nat} (ht : t < 2) : W.cell? ⟨g5 + 1,t,none⟩ = some (.slice (some ⟨gp t,0,none⟩) q (cp t)) := by
 refine h.box.cell ?_
 match t,ht with
 | 0,_ => rfl
 | 1,_ => rfl
def P35 (e : Inp) (t i : Nat) (kp sp : Int) (wa : World) (g : Nat) (A : Option Addr) (n c : Nat) (W : World) : Prop :=
 Below wa.heap.size wa W ∧ Row W g 50 [.int .i64 kp,.int .i64 sp,.int .i64 2,.slice A n c] ∧ wa.heap.size ≤ g ∧ (⟨kp,sp,A,n,c⟩ : Bq).ok e (t + 1) i W ∧ (⟨kp,sp,A,n,c⟩ : Bq).off (fun x => x < wa.heap.size)
theorem P35.of {e : Inp} {t i : Nat} {kp sp : Int} {wa V : World} {g : Nat} {A : Option Addr} {n c : Nat} {z0 z1 z2 z3 : Value} (hb : Below wa.heap.size wa V) (hr : Row V g 50 [z0,z1,z2,z3]) (hg : wa.heap.size ≤ g) (hok : (⟨kp,sp,A,n,c⟩ : Bq).ok e (t + 1) i V) (hof : (⟨kp,sp,A,n,c⟩ : Bq).off (fun x => x = g)) (hof2 : (⟨kp,sp,A,n,c⟩ : Bq).off (fun x => x < wa.heap.size)) :
  P35 e t i kp sp wa g A n c ((((V.setCell ⟨g,0,none⟩ (.int .i64 kp)).setCell ⟨g,1,none⟩ (.int .i64 sp)).setCell ⟨g,2,none⟩ (.int .i64 2)).setCell ⟨g,3,none⟩ (.slice A n c)) := by
 refine ⟨(((hb.setCell (p := ⟨g,0,none⟩) hg _).setCell (p := ⟨g,1,none⟩) hg _).setCell (p := ⟨g,2,none⟩) hg _).setCell (p := ⟨g,3,none⟩) hg _,(((hr.put 0 _).put 1 _).put 2 _).put 3 _,hg,?_,hof2⟩;exact hok.tch hof (((((Tch.refl (fun x => x = g) V).set (p := ⟨g,0,none⟩) (.inr rfl) _).set (p := ⟨g,1,none⟩) (.inr rfl) _).set (p := ⟨g,2,none⟩) (.inr rfl) _).set (p := ⟨g,3,none⟩) (.inr rfl) _)
def P51 (wa : World) (g : Nat) (x y : Int) (W : World) : Prop := Below wa.heap.size wa W ∧ Row W g 67 [.int .i64 x,.int .i64 y] ∧ wa.heap.size ≤ g
theorem P51.of {wa V : World} {g : Nat} {x y : Int} {z0 z1 : Value} (hb : Below wa.heap.size wa V) (hr : Row V g 67 [z0,z1]) (hg : wa.heap.size ≤ g) : P51 wa g x y ((V.setCell ⟨g,0,none⟩ (.int .i64 x)).setCell ⟨g,1,none⟩ (.int .i64 y)) :=
 ⟨(hb.setCell (p := ⟨g,0,none⟩) hg _).setCell (p := ⟨g,1,none⟩) hg _,(hr.put 0 _).put 1 _,hg⟩
theorem book_old {W : World} {g : Nat} {ty : TypeId} {BL : List Bq} {rest : List Value} {i : Nat} (hr : Row W g ty (BL.flatMap Bq.cells ++ rest)) (hi : i < BL.length) :
  ∃ u0 u1 u2 u3,W.cell? ⟨g,i * 4,none⟩ = some u0 ∧ W.cell? ⟨g,i * 4 + 1,none⟩ = some u1 ∧ W.cell? ⟨g,i * 4 + 2,none⟩ = some u2 ∧ W.cell? ⟨g,i * 4 + 3,none⟩ = some u3 := by
 have fb := fun j v => flat_gen Bq.cells 4 (fun _ => rfl) rest BL i j _ v (List.getElem?_eq_getElem hi);exact ⟨_,_,_,_,hr.cell (fb 0 _ rfl),hr.cell (fb 1 _ rfl),hr.cell (fb 2 _ rfl),hr.cell (fb 3 _ rfl)⟩
theorem i64_small {z : Int} (h0 : 0 ≤ z) (h1 : z < 9223372036854775808) : IntKind.i64.wrap z = z := by
 rw [IntKind.wrap_i64];omega
def findReg (n : Nat) : Code → Option Code
 | .region i o d => match Nat.beq i n with
  | true => some (.region i o d)
  | false => none
 | .seq a b => match findReg n a with
  | some c => some c
  | none => findReg n b
 | .loop c => findReg n c
 | .block _ c => findReg n c
 | .scope c => findReg n c
 | .cond _ a b => match findReg n a with
  | some c => some c
  | none => findReg n b
 | _ => none
def findLp (n : Nat) : Code → Option Code
 | .seq a b => match findLp n a with
  | some c => some c
  | none => findLp n b
 | .loop c => findLp n c
 | .block i c => match Nat.beq i n with
  | true => some c
  | false => findLp n c
 | .scope c => findLp n c
 | .cond _ a b => match findLp n a with
  | some c => some c
  | none => findLp n b
 | _ => none
end Go.Proofs.YtifejdpffkeniaaGreatDoor
