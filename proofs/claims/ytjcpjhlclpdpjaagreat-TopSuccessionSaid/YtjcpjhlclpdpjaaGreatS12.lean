import Derived.Test.YtjcpjhlclpdpjaaGreatS11
set_option linter.unusedVariables false
set_option maxRecDepth 100000
set_option maxHeartbeats 16000000
namespace Go.Proofs.YtjcpjhlclpdpjaaGreat
open Go.RowKit
attribute [local go_sem] Oper.semAt_some
theorem wall_inj {e : Est} (hR : e.Right) {m : Nat} {y v : Way} (hy : y ∈ e.wall m) (hv : v ∈ e.wall m) (h : y.k = v.k ∧ y.p = v.p) : y = v := by
 obtain ⟨κ,i,h1,h2,h3,rfl⟩ := wall_mem hy
 obtain ⟨κ',i',h1',h2',h3',rfl⟩ := wall_mem hv
 obtain ⟨ha,hb⟩ := h
 have ha : (κ : Int) + 1 = (κ' : Int) + 1 := ha
 have hb : (e.gh i).p = (e.gh i').p := hb
 obtain rfl : κ = κ' := by omega
 obtain rfl : i = i' := by
  have hinc : e.inc := by
   intro i j hij hj
   induction j with
   | zero => omega
   | succ j ih =>
    have h1 := (hR.h (j + 1) hj).up (by omega)
    rw [Nat.add_sub_cancel] at h1
    rcases Nat.lt_or_ge i j with h2 | h2
    ·have := ih h2 (by omega);omega
    ·obtain rfl : i = j := by omega
     exact h1
  rcases Nat.lt_trichotomy i i' with h | h | h
  ·have := hinc i i' h h2';omega
  ·exact h
  ·have := hinc i' i h h2;omega
 rfl
theorem results_tmps_two {P : Program} {fn : Func} {q r : Tmp} (h : fn.results = #[.tmp q,.tmp r]) (tmps : Array Value) (w : World) : (results fn tmps).run P w = .ok (.tuple #[tmps.getD q undef,tmps.getD r undef]) w := by simp [results,h]
def sameNone (v : Way) (l : List Way) : Prop := ∀ y ∈ l,¬ (y.k = v.k ∧ y.p = v.p)
theorem Fin.end {e : Est} {all : List Ent} (h : Fin e.D all) {m : Nat} (hm : m < e.D.M) (hs : stl all m) (h0 : (all.getD m dE).s = 0) : (all.getD m dE).c = 0 ∧ e.D.lv m := by
 have hj := h.jst m hm hs
 have hi := h.idx m hm
 rcases hj.wy with ⟨_,h1,h2⟩ | ⟨w,h1,h2,h3,h4,h5⟩
 ·rw [hi] at h2;exact ⟨h1,h2⟩
 ·have := (h.jst w.t h2 h3).s0;omega
theorem accepts_any (e : Est) (w : World) (h : e.Fit w) (all : List Ent) (hF : Fin e.D all) (pb cap : Nat) (hpb : pb < w.heap.size) (hcap : e.D.M ≤ cap ∧ cap ≤ maxLen)
  (hp : ∀ j,j < e.D.M → w.cell? ⟨pb,j,none⟩ = some (.int .i64 (all.getD j dE).c)) (lA : Option Addr) (nL cL : Nat) (ws : List Way) (hrl : Rd w w.heap.size 2 lA nL (stageCells ws)) (hnl : nL = ws.length) (hcl : nL ≤ cL ∧ cL ≤ maxLen)
  (h0 : ¬ stl all (e.st e.m.d) → ws = []) (h1 : stl all (e.st e.m.d) → ∃ mE,Pth e.D all (e.st e.m.d) ws mE ∧ (all.getD mE dE).s = 0) :
  Calls Tryz.prog 8 #[.agg e.cells.toArray,.slice lA nL cL,.slice (some ⟨pb,0,none⟩) e.D.M cap] w fun r w' => r = .returned (.tuple #[.bool true,.int .i64 0]) ∧ Below w.heap.size w w' := by
 have hX := boxed1 e w
 have HI : Hid ((Tryz.prog.info? 26).map (·.size) = some e.cells.length) := by show _ = _;kernel_rfl
 have HF : Hid (∀ W,Below w.heap.size w W → e.Fit W) := fun W hW => h.below hW
 obtain ⟨CS,hCS⟩ : ∃ CS,e.cells = CS := ⟨_,rfl⟩
 rw [hCS] at HI
 have HCS : Hid (∀ W,Boxed1 e w W → ∀ i v,CS[i]? = some v → W.cell? ⟨w.heap.size,i,none⟩ = some v) := fun W hW i v hv => hW.row i v (by rw [hCS];exact hv)
 obtain ⟨hA,ehA⟩ : ∃ x,e.hA = x := ⟨_,rfl⟩
 obtain ⟨hcc,ehc⟩ : ∃ x,e.hc = x := ⟨_,rfl⟩
 obtain ⟨N,eN⟩ : ∃ x,e.H.length = x := ⟨_,rfl⟩
 obtain ⟨MM,eMM⟩ : ∃ x,e.st e.m.d = x := ⟨_,rfl⟩
 obtain ⟨AM,eAM⟩ : ∃ x,e.st e.a.d = x := ⟨_,rfl⟩
 obtain ⟨nA,enA⟩ : ∃ x,e.n.A = x := ⟨_,rfl⟩
 obtain ⟨nl,enl⟩ : ∃ x,e.n.d.length = x := ⟨_,rfl⟩
 obtain ⟨nc,enc⟩ : ∃ x,e.n.c = x := ⟨_,rfl⟩
 obtain ⟨VN,eVN⟩ : ∃ x,e.V.length = x := ⟨_,rfl⟩
 have HLT : Hid (∀ vb,e.hcells vb = [.slice hA N hcc,.int .u64 (MM : Int),.int .u64 (AM : Int),.slice nA nl nc,.slice (some ⟨vb,0,none⟩) VN VN]) := fun vb => by
  unfold Est.hcells
  rw [ehA,ehc,eN,eMM,eAM,enA,enl,enc,eVN]
 have HEN : Hid (∀ W,Boxed1 e w W → Calls Tryz.prog 13 #[.agg CS.toArray] W fun x w' => ∃ vb,x = .returned (.tuple #[.agg #[.slice hA N hcc,.int .u64 (MM : Int),.int .u64 (AM : Int),.slice nA nl nc,.slice (some ⟨vb,0,none⟩) VN VN],.int .i64 0]) ∧ Row w' vb 45 (e.V.map fun r => .int .u64 ((e.st r.d : Nat) : Int)) ∧ W.heap.size < vb ∧ Below W.heap.size W w') := fun W hW => by
  rw [← hCS]
  refine (Est.enters (h.below hW.bel)).mono ?_
  rintro x w' ⟨vb,rfl,h1⟩
  refine ⟨vb,?_,h1⟩
  rw [HLT.out vb]
 have HEQ : Hid (e.H.length = N ∧ e.st e.m.d = MM ∧ e.st e.a.d = AM) := ⟨eN,eMM,eAM⟩
 have HMP : Hid (2 ≤ e.D.M ∧ e.D.M ≤ 64) := by
  constructor
  ·show 2 ≤ 2 ^ e.H.length
   have h1 := h.right.h1
   exact Nat.le_trans (show 2 ≤ 2 ^ 1 by omega) (Nat.pow_le_pow_right (by omega) h1)
  ·exact pow_le64 h.n
 have HLL : Hid (∀ (W : World) (g vb : Nat),Below w.heap.size w W → g < W.heap.size → Row W g 48 [.slice hA N hcc,.int .u64 (MM : Int),.int .u64 (AM : Int),.slice nA nl nc,.slice (some ⟨vb,0,none⟩) VN VN] → Row W vb 45 (e.V.map fun r => .int .u64 ((e.st r.d : Nat) : Int)) → Calls Tryz.prog 15 #[.pointer (some ⟨g,0,none⟩)] W fun r w' => ∃ ab all,r = .returned (.slice (some ⟨ab,0,none⟩) e.D.M e.D.M) ∧ W.heap.size ≤ ab ∧ QR w' ab e.D.M all ∧ Fin e.D all ∧ Below W.heap.size W w') := fun W g vb hW hg hr hv =>
  Est.leasts (h.below hW) hg (by rw [HLT.out vb];exact hr) hv
 rw [hCS] at hX ⊢
 obtain ⟨M,eM⟩ : ∃ M,e.D.M = M := ⟨_,rfl⟩
 have HM := Lib.hid eM
 rw [eM] at HMP HLL
 clear h hCS ehA ehc eN eMM eAM enA enl enc eVN
 have HFI := Lib.hid hF
 have HRL : Hid (∀ W,Below w.heap.size w W → Rd W w.heap.size 2 lA nL (stageCells ws)) := fun W hW => hrl.below hW
 have HPC : Hid (∀ W,Below w.heap.size w W → ∀ j,j < M → W.cell? ⟨pb,j,none⟩ = some (.int .i64 (all.getD j dE).c)) := fun W hW j hj => (hW.cell (p := ⟨pb,j,none⟩) hpb).trans (hp j (by rw [HM.out];exact hj))
 have HH0 := Lib.hid h0
 have HH1 := Lib.hid h1
 have HNL := Lib.hid hnl
 have hcl1 := hcl.1
 have hcl2 := hcl.2
 unfold maxLen at hcl2
 have hcap2 := hcap.2
 have HCP := Lib.hid hcap.2
 unfold maxLen at hcap2
 have hcap1 := hcap.1
 rw [eM] at hcap1 ⊢
 have hmM : MM < M := by
  have hmm := Est.st_lt (HF.out w (Below.refl _ _)).right.m
  rw [HEQ.out.2.1] at hmm;rw [← HM.out];exact hmm
 rw [HEQ.out.2.1] at HH0 HH1
 have HOK : Hid e.D.ok := Est.djok (HF.out w (Below.refl _ _)).right (HF.out w (Below.refl _ _)).n e.D.vs e.D.am
 clear eM hF hrl hp h0 h1 hnl hcap hcl
 have HX := Lib.hid hX
 clear hX HLL
 obtain ⟨s,hs⟩ : ∃ s,w.heap.size = s := ⟨_,rfl⟩
 have HSS := Lib.hid hs
 rw [hs] at HCS HRL HPC hpb
 refine (callsIn_wide (n := 9)).1 ?_
 refine callsIn_of_wp_marks Tryz.func8 rfl trivial ?_ rfl
 simp only [Tryz.ntmps8,List.size_toArray,List.length_cons,List.length_nil,Nat.reduceAdd,Nat.reduceSub,Array.replicate_succ,Array.replicate_zero,List.push_toArray,List.append_toArray,List.nil_append,List.cons_append]
 gi_wp2_with (refine wpListIn_load_cells rfl 26 (.tmp 3) rfl ⟨s,0,none⟩ (by rfl) CS _ (fun i v hv => by rw [Addr.add_flat,Nat.zero_add];exact HCS.out _ HX.out i v hv) Tryz.underlying26 (by rfl) HI.out ?_)
 refine ⟨trivial,(callsIn_wide.2 (HEN.out _ HX.out)).mono ?_⟩
 rintro x w1 ⟨vb,rfl,hv,hb,hbl⟩
 obtain ⟨gh,hgh⟩ : ∃ g,w1.heap.size = g := ⟨_,rfl⟩
 have hRg : Row (w1.alloc (.cells #[.slice hA N hcc,.int .u64 (MM : Int),.int .u64 (AM : Int),.slice nA nl nc,.slice (some ⟨vb,0,none⟩) VN VN] 48)) gh 48 [.slice hA N hcc,.int .u64 (MM : Int),.int .u64 (AM : Int),.slice nA nl nc,.slice (some ⟨vb,0,none⟩) VN VN] := by rw [← hgh];exact Row.new w1 _ _
 have hV2 := hv.alloc (.cells #[.slice hA N hcc,.int .u64 (MM : Int),.int .u64 (AM : Int),.slice nA nl nc,.slice (some ⟨vb,0,none⟩) VN VN] 48)
 have hB1 : Below s w w1 := by
  have := (HX.out.next hbl).bel
  rwa [HSS.out] at this
 have hB2 : Below s w (w1.alloc (.cells #[.slice hA N hcc,.int .u64 (MM : Int),.int .u64 (AM : Int),.slice nA nl nc,.slice (some ⟨vb,0,none⟩) VN VN] 48)) := hB1.alloc (by have := hB1.size;rw [HSS.out] at this;exact this) _
 have hHA := Est.Fit.all (HF.out _ (by rw [HSS.out];exact hB2)) hRg.lt (by rw [HLT.out vb];exact hRg) hV2
 have hpr := proof_any e gh pb cap all _ hHA (HF.out w (Below.refl _ _)).right (HF.out w (Below.refl _ _)).n HFI.out (by have := hB2.size;rw [HSS.out] at this;omega) (by rw [HM.out];exact ⟨hcap1,HCP.out⟩) (fun j hj => HPC.out _ hB2 j (by rw [← HM.out];exact hj))
 rw [HM.out] at hpr
 have HHA := Lib.hid hHA
 have HPR := Lib.hid hpr
 have HB2 := Lib.hid hB2
 have HRG := Lib.hid hRg
 clear hv hb hbl hRg hV2 hB1 hB2 hHA hpr HEN HX HCS HI
 gi_wp2_with fail
 refine ⟨trivial,(callsIn_wide.2 HPR.out).mono ?_⟩
 rintro x w3 ⟨rfl,hb3⟩
 have HB3 := Lib.hid hb3
 generalize (w1.alloc (.cells #[.slice hA N hcc,.int .u64 (MM : Int),.int .u64 (AM : Int),.slice nA nl nc,.slice (some ⟨vb,0,none⟩) VN VN] 48)) = w2 at HHA HPR HB2 HRG HB3 hb3
 have hBs : Below s w w3 := HB2.out.trans (HB3.out.mono (by have := HB2.out.size;rw [HSS.out] at this;exact this))
 have HBS := Lib.hid hBs
 have HR3 := Lib.hid (HRG.out.below hb3 HRG.out.lt)
 clear hb3 hBs HPR hgh
 gi_wp2_with fail
 rename_i Kz hKz
 have m0 : (0 : Int) ≤ (MM : Int) := by omega
 have m1 : (MM : Int) < (M : Int) := by omega
 obtain ⟨C,hC⟩ : ∃ C,(all.getD MM dE).c = C := ⟨_,rfl⟩
 obtain ⟨lb,hlb⟩ : ∃ z,w3.heap.size = z := ⟨_,rfl⟩
 have HC := Lib.hid hC
 clear hC
 refine wpIn_region_treeM (fun w' => (Row w' gh 48 [.slice hA N hcc,.int .u64 (MM : Int),.int .u64 (AM : Int),.slice nA nl nc,.slice (some ⟨vb,0,none⟩) VN VN]) ∧ Below s w w') (.take 0 (.take 1 (.take 2 (.take 3 (.take 4 (.take 5 (.take 6 (.one 7 (.take 8 (.one 9 .done)))))))))) (by kernel_rfl) (by kernel_rfl) (by kernel_rfl) (by kernel_rfl) (by kernel_rfl) ⟨HR3.out,HBS.out.drew⟩ ?_
 iterate 7 (refine wpOTI_take rfl _ (by rfl) (fun _ => rfl) (by intro w' hS;obtain ⟨hR,hW⟩ := hS;have c1 := hR.cell (i := 1) rfl;have cp := HPC.out _ hW MM hmM;rw [HC.out] at cp;go_simp;try with_reducible rfl) fun KK hKK => ?_;go_simp;refine hKK _ ?_;clear hKK KK)
 refine wpOTI_one rfl (by rfl) fun KK hKK => ?_
 go_simp
 refine hKK _ _ ⟨HR3.out.alloc _,(HBS.out.alloc (by have := HBS.out.size;rw [HSS.out] at this;exact this) _).drew⟩ ?_
 clear hKK KK
 have hRl : Row ((w3.alloc (.cells #[.int .i64 0] 3)).drew) lb 3 [.int .i64 0] := by rw [← hlb];exact Row.new w3 _ _
 have hB4 : Below w2.heap.size w2 ((w3.alloc (.cells #[.int .i64 0] 3)).drew) := (HB3.out.alloc HB3.out.size _).drew
 have hRh : Row ((w3.alloc (.cells #[.int .i64 0] 3)).drew) gh 48 [.slice hA N hcc,.int .u64 (MM : Int),.int .u64 (AM : Int),.slice nA nl nc,.slice (some ⟨vb,0,none⟩) VN VN] := HR3.out.alloc _
 have hBs : Below s w ((w3.alloc (.cells #[.int .i64 0] 3)).drew) := (HBS.out.alloc (by have := HBS.out.size;rw [HSS.out] at this;exact this) _).drew
 have hlb2 : w2.heap.size ≤ lb ∧ gh < lb ∧ s ≤ lb := ⟨by have := HB3.out.size;omega,by have := HR3.out.lt;omega,by have := HBS.out.size;rw [HSS.out] at this;omega⟩
 generalize (w3.alloc (.cells #[.int .i64 0] 3)).drew = w4 at hRl hB4 hRh hBs ⊢
 have HR4 := Lib.hid (And.intro hRl (And.intro hB4 (And.intro hRh hBs)))
 have HLB := Lib.hid hlb2
 have c0 := hRl.cell (i := 0) rfl
 have f0 := hRl.frozen 0
 clear hRl hB4 hRh hBs hlb2 hlb HR3 HBS HB3 HRG
 refine wpOTI_take rfl _ (by rfl) (fun _ => rfl) (by intro w' hS;skip;go_simp;try with_reducible rfl) fun KK hKK => ?_
 go_simp
 refine hKK _ ?_
 clear hKK KK
 refine wpOTI_one rfl (by rfl) fun KK hKK => ?_
 go_simp
 obtain ⟨r1,r2,r3,r4⟩ := HR4.out
 obtain ⟨l1,l2,l3⟩ := HLB.out
 refine hKK _ _ ⟨(Chg.set w4 lb 0 _).row r3 (by omega),r4.setCell (p := ⟨lb,0,none⟩) l3 _⟩ ?_
 clear hKK KK
 refine wpOTI_done ?_
 show Kz _ _
 refine hKz _ _ ?_
 go_simp
 have hL5 : Row (w4.setCell ⟨lb,0,none⟩ (.int .i64 C)) lb 3 [.int .i64 C] := r1.set 0 _
 have hB5 : Below w2.heap.size w2 (w4.setCell ⟨lb,0,none⟩ (.int .i64 C)) := r2.setCell (p := ⟨lb,0,none⟩) l1 _
 generalize w4.setCell ⟨lb,0,none⟩ (.int .i64 C) = w5 at hL5 hB5 ⊢
 have HL5 := Lib.hid hL5
 have HB5 := Lib.hid hB5
 have c1 := hL5.cell (i := 0) rfl
 clear r1 r2 r3 r4 hL5 hB5 c0 f0 HR4 l1 l2 l3 m0 m1
 have hcs := HFI.out.cs MM (by rw [HM.out];exact hmM)
 unfold stl at hcs
 rw [HC.out] at hcs
 by_cases hC1 : C = -1
 ·have q1 : (C == -1) = true := by simp [hC1]
  obtain rfl : nL = 0 := by
   rw [HNL.out,HH0.out (by unfold stl;rw [HC.out];omega)]
   rfl
  clear hC1 hcs
  gi_wp2_with fail
  refine leaves_marks [] _ (Marks.nil (lb + 1) 0 _) fun w' hb' => ?_
  exact ⟨_,results_tmps_two rfl _ _,rfl,by rw [HSS.out];exact (HB2.out.trans ((HB5.out.trans (hb'.mono (by have := HLB.out;omega))).mono (by have := HB2.out.size;rw [HSS.out] at this;exact this)))⟩
 ·have q1 : (C == -1) = false := by simp [hC1]
  have hc0 : 0 ≤ C := by omega
  have hST : stl all MM := by unfold stl;rw [HC.out];exact hc0
  obtain ⟨mE,hpth,hmE⟩ := HH1.out hST
  have HPT0 := Lib.hid hpth
  have HST0 := Lib.hid hST
  have HME := Lib.hid hmE
  have HRD : Hid (∀ W,Below w2.heap.size w2 W → ∀ k v,ws[k]? = some v → ∃ b q,lA = some ⟨b,q,none⟩ ∧ W.cell? ⟨b,q + k * 2,none⟩ = some (.int .i64 v.k) ∧ W.cell? ⟨b,q + k * 2 + 1,none⟩ = some (.int .i64 v.p)) := fun W hW k v hv => by
   have hBW : Below s w W := HB2.out.trans (hW.mono (by have := HB2.out.size;rw [HSS.out] at this;exact this))
   have hkl : k < ws.length := (List.getElem?_eq_some_iff.1 hv).1
   obtain ⟨b,q,e1,hb,hc⟩ := (HRL.out W hBW).2 (by rw [HNL.out];omega)
   have hf : ∀ i u,i < 2 → ([.int .i64 v.k,.int .i64 v.p] : List Value)[i]? = some u → W.cell? ⟨b,q + (k * 2 + i),none⟩ = some u := fun i u hi hu => by
    refine hc (k * 2 + i) u ?_
    unfold stageCells
    rw [flat_at2 (fun w : Way => [Value.int .i64 w.k,.int .i64 w.p]) 2 ws (fun x _ => rfl) k i v hv hi]
    exact hu
   exact ⟨b,q,e1,by simpa using hf 0 _ (by omega) rfl,by have := hf 1 _ (by omega) rfl;rwa [← Nat.add_assoc] at this⟩
  clear hC1 hcs hpth hST hmE
  gi_wp2_with fail
  obtain ⟨J,hJ⟩ : ∃ J : Nat → Act → World → Prop,J = fun n a' w' => ∃ (k m : Nat),k ≤ nL ∧ n = nL - k ∧ a'.tmps.size = 82 ∧ a'.tmps.getD 8 undef = .pointer (some ⟨gh,0,none⟩) ∧ a'.tmps.getD 9 undef = .int .u64 (m : Int) ∧ a'.tmps.getD 10 undef = .pointer (some ⟨lb,0,none⟩) ∧ a'.tmps.getD 41 undef = .slice lA nL cL ∧ a'.tmps.getD 42 undef = .int .i64 (nL : Int) ∧ a'.tmps.getD 43 undef = .int .i64 (k : Int) ∧
   Marks (lb + 1) w'.heap.size a'.defers w' ∧ Below w2.heap.size w2 w' ∧ Row w' lb 3 [.int .i64 (all.getD m dE).c] ∧ m < M ∧ stl all m ∧ Pth e.D all m (ws.drop k) mE := ⟨_,rfl⟩
  refine wpIn_loop_ghost J ?_ ?_
  ·rw [hJ]
   exact ⟨_,0,MM,Nat.zero_le _,rfl,rfl,rfl,rfl,rfl,rfl,rfl,rfl,Marks.nil _ _ _,HB5.out,by rw [HC.out];exact HL5.out,hmM,HST0.out,HPT0.out⟩
  ·clear HB5 HL5 c1
   have HJ := Lib.hid hJ
   intro n a' wr hinv
   rw [hJ] at hinv
   clear hJ
   obtain ⟨k,m,hk,hn,h82,e8,e9,e10,e41,e42,e43,hm,hB,hRl,hmm,hst,hpt⟩ := hinv
   obtain ⟨T,ds⟩ := a'
   dsimp only at h82 e8 e9 e10 e41 e42 e43 hm
   obtain ⟨v,hT,hv⟩ := arr_fun T 82 h82
   have e' : ((List.range 82).map v).toArray = #[v 0,v 1,v 2,v 3,v 4,v 5,v 6,v 7,v 8,v 9,v 10,v 11,v 12,v 13,v 14,v 15,v 16,v 17,v 18,v 19,v 20,v 21,v 22,v 23,v 24,v 25,v 26,v 27,v 28,v 29,v 30,v 31,v 32,v 33,v 34,v 35,v 36,v 37,v 38,v 39,v 40,v 41,v 42,v 43,v 44,v 45,v 46,v 47,v 48,v 49,v 50,v 51,v 52,v 53,v 54,v 55,v 56,v 57,v 58,v 59,v 60,v 61,v 62,v 63,v 64,v 65,v 66,v 67,v 68,v 69,v 70,v 71,v 72,v 73,v 74,v 75,v 76,v 77,v 78,v 79,v 80,v 81] := rfl
   rw [show v 8 = _ from (hv 8).symm.trans e8,show v 9 = _ from (hv 9).symm.trans e9,show v 10 = _ from (hv 10).symm.trans e10,show v 41 = _ from (hv 41).symm.trans e41,show v 42 = _ from (hv 42).symm.trans e42,show v 43 = _ from (hv 43).symm.trans e43] at e'
   rw [hT,e']
   have hmk : m < e.D.M := by rw [HM.out];exact hmm
   have HJS := Lib.hid (HFI.out.jst m hmk hst)
   obtain ⟨c,hc⟩ : ∃ c,(all.getD m dE).c = c := ⟨_,rfl⟩
   rw [hc] at hRl
   have hc0 : 0 ≤ c := by have := HJS.out.c0;omega
   have hc9 : c ≤ 67108864 := by have := HJS.out.cb;have := HFI.out.sk m hmk hst;omega
   have cl := hRl.cell (i := 0) rfl
   have HCC := Lib.hid hc
   have HMK := Lib.hid hm
   have HNK := Lib.hid hn
   have HBR := Lib.hid (And.intro hB (And.intro hRl (And.intro hst (And.intro hpt hmk))))
   have hsf : e.sf e.D.vs m = true := by have := HJS.out.sf;rw [HFI.out.idx m hmk] at this;exact this
   have HSF := Lib.hid hsf
   clear hT hv e' e8 e9 e10 e41 e42 e43 h82 hm hn hB hRl hst hpt hc hmk hsf
   by_cases hlt : k < nL
   ·have k1 : (k : Int) < (nL : Int) := by omega
    have k0 : (0 : Int) ≤ (k : Int) := by omega
    obtain ⟨y,hy⟩ : ∃ y,ws[k]? = some y := by rw [HNL.out] at hlt;exact ⟨_,List.getElem?_eq_getElem hlt⟩
    obtain ⟨b,q,rfl,d0,d1⟩ := HRD.out wr HBR.out.1 k y hy
    have hdr : ws.drop k = y :: ws.drop (k + 1) := by
     obtain ⟨hl,he⟩ := List.getElem?_eq_some_iff.1 hy
     rw [List.drop_eq_getElem_cons hl,he]
    have HPY : Hid (y ∈ e.wall m ∧ stl all y.t ∧ (all.getD y.t dE).c + y.c = c ∧ Pth e.D all y.t (ws.drop (k + 1)) mE) := by
     have h1 := HBR.out.2.2.2.1
     rw [hdr] at h1
     obtain ⟨h1,h2,h3,h4,h5⟩ := h1
     rw [HCC.out] at h3
     exact ⟨h1,h2,h3,h5⟩
    obtain ⟨xk,xp,xt,xc⟩ := y
    dsimp only at d0 d1
    clear hy hdr
    gi_wp2_with (refine ⟨trivial,?_⟩;gi_at_call 16;refine (callsIn_wide.2 (ways_any _ _ _)).mono ?_;rintro e w' ⟨rfl,rfl⟩)
    clear d0 d1 cl k0 k1
    obtain ⟨z,hz⟩ : ∃ z,wr.heap.size = z := ⟨_,rfl⟩
    have hb67 : Below wr.heap.size wr (((((wr.alloc (.cells #[.int .i64 xk,.int .i64 xp] 40)).alloc (.cells #[.int .u64 (m : Int)] 45)).alloc (.cells #[.bool false] 4)).alloc (.cells #[.pointer (some ⟨gh,0,none⟩)] 87)).alloc (.cells #[.int .u64 (m : Int)] 45)) := (((((Below.refl _ wr).alloc (Nat.le_refl _) _).alloc (by simp) _).alloc (by simp;omega) _).alloc (by simp;omega) _).alloc (by simp;omega) _
    have hM7 : Marks (lb + 1) (((((wr.alloc (.cells #[.int .i64 xk,.int .i64 xp] 40)).alloc (.cells #[.int .u64 (m : Int)] 45)).alloc (.cells #[.bool false] 4)).alloc (.cells #[.pointer (some ⟨gh,0,none⟩)] 87)).alloc (.cells #[.int .u64 (m : Int)] 45)).heap.size ds (((((wr.alloc (.cells #[.int .i64 xk,.int .i64 xp] 40)).alloc (.cells #[.int .u64 (m : Int)] 45)).alloc (.cells #[.bool false] 4)).alloc (.cells #[.pointer (some ⟨gh,0,none⟩)] 87)).alloc (.cells #[.int .u64 (m : Int)] 45)) := (HMK.out.keep hb67).more hb67.size
    have hL7 : Row (((((wr.alloc (.cells #[.int .i64 xk,.int .i64 xp] 40)).alloc (.cells #[.int .u64 (m : Int)] 45)).alloc (.cells #[.bool false] 4)).alloc (.cells #[.pointer (some ⟨gh,0,none⟩)] 87)).alloc (.cells #[.int .u64 (m : Int)] 45)) lb 3 [.int .i64 c] := HBR.out.2.1.below hb67 HBR.out.2.1.lt
    have hB7 : Below w2.heap.size w2 (((((wr.alloc (.cells #[.int .i64 xk,.int .i64 xp] 40)).alloc (.cells #[.int .u64 (m : Int)] 45)).alloc (.cells #[.bool false] 4)).alloc (.cells #[.pointer (some ⟨gh,0,none⟩)] 87)).alloc (.cells #[.int .u64 (m : Int)] 45)) := HBR.out.1.trans (hb67.mono HBR.out.1.size)
    have r0 : Row (((((wr.alloc (.cells #[.int .i64 xk,.int .i64 xp] 40)).alloc (.cells #[.int .u64 (m : Int)] 45)).alloc (.cells #[.bool false] 4)).alloc (.cells #[.pointer (some ⟨gh,0,none⟩)] 87)).alloc (.cells #[.int .u64 (m : Int)] 45)) z 40 [.int .i64 xk,.int .i64 xp] := by rw [← hz];exact ((((Row.new wr _ _).alloc _).alloc _).alloc _).alloc _
    have r1 : Row (((((wr.alloc (.cells #[.int .i64 xk,.int .i64 xp] 40)).alloc (.cells #[.int .u64 (m : Int)] 45)).alloc (.cells #[.bool false] 4)).alloc (.cells #[.pointer (some ⟨gh,0,none⟩)] 87)).alloc (.cells #[.int .u64 (m : Int)] 45)) (z + 1) 45 [.int .u64 (m : Int)] := by
     have := (((Row.new (wr.alloc (.cells #[.int .i64 xk,.int .i64 xp] 40)) 45 [.int .u64 (m : Int)]).alloc (.cells #[.bool false] 4)).alloc (.cells #[.pointer (some ⟨gh,0,none⟩)] 87)).alloc (.cells #[.int .u64 (m : Int)] 45)
     simp only [World.size_alloc,hz] at this
     exact this
    have r2 : Row (((((wr.alloc (.cells #[.int .i64 xk,.int .i64 xp] 40)).alloc (.cells #[.int .u64 (m : Int)] 45)).alloc (.cells #[.bool false] 4)).alloc (.cells #[.pointer (some ⟨gh,0,none⟩)] 87)).alloc (.cells #[.int .u64 (m : Int)] 45)) (z + 1 + 1) 4 [.bool false] := by
     have := ((Row.new ((wr.alloc (.cells #[.int .i64 xk,.int .i64 xp] 40)).alloc (.cells #[.int .u64 (m : Int)] 45)) 4 [.bool false]).alloc (.cells #[.pointer (some ⟨gh,0,none⟩)] 87)).alloc (.cells #[.int .u64 (m : Int)] 45)
     simp only [World.size_alloc,hz] at this
     exact this
    have hRh : Row (((((wr.alloc (.cells #[.int .i64 xk,.int .i64 xp] 40)).alloc (.cells #[.int .u64 (m : Int)] 45)).alloc (.cells #[.bool false] 4)).alloc (.cells #[.pointer (some ⟨gh,0,none⟩)] 87)).alloc (.cells #[.int .u64 (m : Int)] 45)) (z + 1 + 1 + 1) 87 [.pointer (some ⟨gh,0,none⟩)] := by
     have := (Row.new (((wr.alloc (.cells #[.int .i64 xk,.int .i64 xp] 40)).alloc (.cells #[.int .u64 (m : Int)] 45)).alloc (.cells #[.bool false] 4)) 87 [.pointer (some ⟨gh,0,none⟩)]).alloc (.cells #[.int .u64 (m : Int)] 45)
     simp only [World.size_alloc,hz] at this
     exact this
    have hRm : Row (((((wr.alloc (.cells #[.int .i64 xk,.int .i64 xp] 40)).alloc (.cells #[.int .u64 (m : Int)] 45)).alloc (.cells #[.bool false] 4)).alloc (.cells #[.pointer (some ⟨gh,0,none⟩)] 87)).alloc (.cells #[.int .u64 (m : Int)] 45)) (z + 1 + 1 + 1 + 1) 45 [.int .u64 (m : Int)] := by
     have := Row.new ((((wr.alloc (.cells #[.int .i64 xk,.int .i64 xp] 40)).alloc (.cells #[.int .u64 (m : Int)] 45)).alloc (.cells #[.bool false] 4)).alloc (.cells #[.pointer (some ⟨gh,0,none⟩)] 87)) 45 [.int .u64 (m : Int)]
     simp only [World.size_alloc,hz] at this
     exact this
    have hlz : lb < z := by rw [← hz];exact HBR.out.2.1.lt
    have hz5 : z + 1 + 1 + 1 + 1 < (((((wr.alloc (.cells #[.int .i64 xk,.int .i64 xp] 40)).alloc (.cells #[.int .u64 (m : Int)] 45)).alloc (.cells #[.bool false] 4)).alloc (.cells #[.pointer (some ⟨gh,0,none⟩)] 87)).alloc (.cells #[.int .u64 (m : Int)] 45)).heap.size := hRm.lt
    rw [hz]
    generalize (((((wr.alloc (.cells #[.int .i64 xk,.int .i64 xp] 40)).alloc (.cells #[.int .u64 (m : Int)] 45)).alloc (.cells #[.bool false] 4)).alloc (.cells #[.pointer (some ⟨gh,0,none⟩)] 87)).alloc (.cells #[.int .u64 (m : Int)] 45)) = W7 at hM7 hL7 hB7 r0 r1 r2 hRh hRm hz5 ⊢
    have HMM : Hid (m < e.D.M ∧ stl all m) := ⟨HBR.out.2.2.2.2,HBR.out.2.2.1⟩
    clear hz hb67 HMK HBR
    have hft := HF.out W7 (by rw [HSS.out];exact HB2.out.trans (hB7.mono (by have := HB2.out.size;rw [HSS.out] at this;exact this)))
    have hm64 : m < 64 := by have := HMP.out.2;omega
    have hgc : W7.cell? ⟨gh,0,none⟩ = some (.slice e.hA e.H.length e.hc) := (HHA.out.ptr W7 hB7).1
    have hgl : gh < W7.heap.size := by have := HLB.out;omega
    obtain ⟨C',hC'⟩ : ∃ C',(all.getD xt dE).c = C' := ⟨_,rfl⟩
    have HC' := Lib.hid hC'
    have hcs' : C' + xc = c := by rw [← hC'];exact HPY.out.2.2.1
    have hcw : c - xc = C' := by omega
    have hC0 : 0 ≤ C' := by have := HPY.out.2.1;unfold stl at this;rw [hC'] at this;exact this
    have htt := HOK.out.tt m HMM.out.1 _ HPY.out.1
    have t1 : xt < M := by rw [← HM.out];exact htt.1
    have t2 : 0 ≤ xc := htt.2.1
    have t3 : xc ≤ 1048576 := htt.2.2.1
    clear hC' htt hcs'
    refine wpIn_rangeFunc_ownH rfl (by omega) (gf := 40) (lb := #[.pointer (some ⟨z + 1 + 1 + 1,0,none⟩),.pointer (some ⟨z + 1 + 1 + 1 + 1,0,none⟩)]) rfl trivial (enters_of Tryz.func40 (by kernel_rfl) rfl)
     (encs := fun y : {y : Way // y ∈ e.wall m} => encW y.1) (Kp := KeepQ (fun _ _ => False)) (S := fun ys => ys.map Subtype.val = e.wall m) (Sp := fun pre => e.wpre m (pre.map Subtype.val)) (N := 12) (w0 := W7)
     (ways_seq Fence.wide (9 - 1) trivial (fun _ => trivial) rfl (by omega) (z + 1 + 1 + 1) (z + 1 + 1 + 1 + 1) gh W7.heap.size _ e m hft.n hm64 hft.right.h1 (fun _ _ _ h => h) hgl (fun h => h) (fun h => h) W7 (fun _ _ h => h) hRh hRm hgc hgl hft.ok.h (Nat.le_refl _) hft.ok.hc)
     (fun h1 h2 => h1.trans h2) (fun W lo ob ob' h1 h2 h3 h4 => KeepQ.putObj W lo ob ob' h2 h3) (Below.refl _ _) (fun _ => rfl)
     (fun pre W => Below W7.heap.size W7 W ∧ sameNone ⟨xk,xp,xt,xc⟩ (pre.map Subtype.val))
     (fun cc pre W => cc = .exit 2 ∧ Chg (fun k => k = lb ∨ k = z + 1 ∨ k = z + 1 + 1) W7 W ∧ Row W lb 3 [.int .i64 C'] ∧ Row W (z + 1) 45 [.int .u64 (xt : Int)] ∧ Row W (z + 1 + 1) 4 [.bool true])
     (fun pre W W' row h hg hr => ⟨h.1.grown hg h.1.size (fun r e => (hr r e).1),h.2⟩)
     (fun cc pre W W' row h hg hr => by
      obtain ⟨h0,h1,h2,h3,h4⟩ := h
      exact ⟨h0,h1.trans (Chg.of_grown (ex := fun k => W7.heap.size ≤ k) hg (fun r e => (hr r e).1)) (fun i hi hx => by omega),(grownBy_keeps_cells hg (fun r e => (hr r e).2) h2 rfl).trans h2,(grownBy_keeps_cells hg (fun r e => (hr r e).2) h3 rfl).trans h3,(grownBy_keeps_cells hg (fun r e => (hr r e).2) h4 rfl).trans h4⟩)
     ⟨Below.refl _ _,fun y hy => by simp at hy⟩
     (fun y a' W => ∃ Bb,W7.heap.size ≤ Bb ∧ (Row W Bb 59 [.int .i64 y.1.k,.int .i64 y.1.p,.int .u64 (y.1.t : Int),.int .i64 y.1.c]) ∧ a'.tmps.size = 82 ∧ a'.tmps.getD 10 undef = .pointer (some ⟨lb,0,none⟩) ∧ a'.tmps.getD 12 undef = .pointer (some ⟨z,0,none⟩) ∧ a'.tmps.getD 13 undef = .pointer (some ⟨z + 1,0,none⟩) ∧ a'.tmps.getD 14 undef = .pointer (some ⟨z + 1 + 1,0,none⟩) ∧ a'.tmps.getD 15 undef = .pointer (some ⟨Bb,0,none⟩) ∧ a'.defers = [])
     (fun y a' _ X' Y' row hs hg hr' => by
      obtain ⟨Bb,h0,h1,h2⟩ := hs
      exact ⟨Bb,h0,(grownBy_keeps_cells hg (fun r e => (hr' r e).2) h1 rfl).trans h1,h2⟩)
     ?assign ?body ?done ?stop
    case assign =>
     rintro lo pre y W K hI hK
     gi_wp2
     exact hK _ _ ((KeepsOthers.alloc _ _).from _) ((KeepQ.refl _).alloc _) ⟨hI.1.alloc hI.1.size _,hI.2⟩ ⟨W.heap.size,hI.1.size,Row.new W _ _,rfl,rfl,rfl,rfl,rfl,rfl,rfl⟩
    case body =>
     rintro lo pre ⟨⟨yk,yp,yt,yc⟩,hy⟩ a' W hlo _ hI ⟨Bb,hBb,hRb,h82,e10,e12,e13,e14,e15,hdf⟩ hlen
     obtain ⟨T2,ds2⟩ := a'
     dsimp only at h82 e10 e12 e13 e14 e15 hdf hRb
     subst hdf
     obtain ⟨v2,hT,hv⟩ := arr_fun T2 82 h82
     have e' : ((List.range 82).map v2).toArray = #[v2 0,v2 1,v2 2,v2 3,v2 4,v2 5,v2 6,v2 7,v2 8,v2 9,v2 10,v2 11,v2 12,v2 13,v2 14,v2 15,v2 16,v2 17,v2 18,v2 19,v2 20,v2 21,v2 22,v2 23,v2 24,v2 25,v2 26,v2 27,v2 28,v2 29,v2 30,v2 31,v2 32,v2 33,v2 34,v2 35,v2 36,v2 37,v2 38,v2 39,v2 40,v2 41,v2 42,v2 43,v2 44,v2 45,v2 46,v2 47,v2 48,v2 49,v2 50,v2 51,v2 52,v2 53,v2 54,v2 55,v2 56,v2 57,v2 58,v2 59,v2 60,v2 61,v2 62,v2 63,v2 64,v2 65,v2 66,v2 67,v2 68,v2 69,v2 70,v2 71,v2 72,v2 73,v2 74,v2 75,v2 76,v2 77,v2 78,v2 79,v2 80,v2 81] := rfl
     rw [show v2 10 = _ from (hv 10).symm.trans e10,show v2 12 = _ from (hv 12).symm.trans e12,show v2 13 = _ from (hv 13).symm.trans e13,show v2 14 = _ from (hv 14).symm.trans e14,show v2 15 = _ from (hv 15).symm.trans e15] at e'
     rw [hT,e']
     have b0 := hRb.cell (i := 0) rfl
     have b1 := hRb.cell (i := 1) rfl
     have x0 := (r0.below hI.1 r0.lt).cell (i := 0) rfl
     have x1 := (r0.below hI.1 r0.lt).cell (i := 1) rfl
     have HIB := Lib.hid (And.intro hI hRb)
     have HYY := Lib.hid hy
     have HR7 := Lib.hid (And.intro hL7 (And.intro r1 r2))
     clear hT hv e' e10 e12 e13 e14 e15 h82 hI hRb
     by_cases hq : yk = xk ∧ yp = xp
     ·have hyx := wall_inj hft.right hy HPY.out.1 hq
      have e1 : yk = xk := hq.1
      have e2 : yp = xp := hq.2
      have e3 : yt = xt := congrArg Way.t hyx
      have e4 : yc = xc := congrArg Way.c hyx
      clear hyx hq
      subst e1 e2 e3 e4
      gi_wp2_with fail
      clear b0 b1 x0 x1
      have hL := hL7.below HIB.out.1.1 hL7.lt
      have hN := r1.below HIB.out.1.1 r1.lt
      have hG := r2.below HIB.out.1.1 r2.lt
      have hY : Row W.drew Bb 59 [.int .i64 yk,.int .i64 yp,.int .u64 (yt : Int),.int .i64 yc] := HIB.out.2
      have hz9 : z + 1 + 1 < Bb := by omega
      have hLa : Row (W.drew.setCell ⟨z + 1,0,none⟩ (.int .u64 (yt : Int))) lb 3 [.int .i64 c] := (Chg.set W.drew (z + 1) 0 _).row hL (by omega)
      have hNa : Row (W.drew.setCell ⟨z + 1,0,none⟩ (.int .u64 (yt : Int))) (z + 1) 45 [.int .u64 (yt : Int)] := Row.set (w := W.drew) hN 0 _
      have hGa : Row (W.drew.setCell ⟨z + 1,0,none⟩ (.int .u64 (yt : Int))) (z + 1 + 1) 4 [.bool false] := (Chg.set W.drew (z + 1) 0 _).row hG (by omega)
      have hYa : Row (W.drew.setCell ⟨z + 1,0,none⟩ (.int .u64 (yt : Int))) Bb 59 [.int .i64 yk,.int .i64 yp,.int .u64 (yt : Int),.int .i64 yc] := (Chg.set W.drew (z + 1) 0 _).row hY (by omega)
      have HY := Lib.hid hY
      have HYA := Lib.hid hYa
      have HGA := Lib.hid hGa
      have HNA := Lib.hid hNa
      have HLA := Lib.hid hLa
      have cl : W.drew.cell? ⟨lb,0,none⟩ = some (.int .i64 c) := hL.cell (i := 0) rfl
      have cn : W.drew.cell? ⟨z + 1,0,none⟩ = some (.int .u64 (m : Int)) := hN.cell (i := 0) rfl
      have fn : W.drew.frozen? ⟨z + 1,0,none⟩ = false := hN.frozen 0
      have cla := hLa.cell (i := 0) rfl
      have fla := hLa.frozen 0
      have cla2 : (W.setCell ⟨z + 1,0,none⟩ (.int .u64 (yt : Int))).cell? ⟨lb,0,none⟩ = some (.int .i64 c) := cla
      have fla2 : (W.setCell ⟨z + 1,0,none⟩ (.int .u64 (yt : Int))).frozen? ⟨lb,0,none⟩ = false := fla
      have cla3 : (W.setCell ⟨z + 1,0,none⟩ (.int .u64 (yt : Int))).drew.cell? ⟨lb,0,none⟩ = some (.int .i64 c) := cla
      have fla3 : (W.setCell ⟨z + 1,0,none⟩ (.int .u64 (yt : Int))).drew.frozen? ⟨lb,0,none⟩ = false := fla
      clear hL hN hG hY hLa hNa hGa hYa hL7 r0 r1 r2 hRh hRm
      rename_i Kz hKz
      refine wpIn_region_treeM (fun w' => Row w' Bb 59 [.int .i64 yk,.int .i64 yp,.int .u64 (yt : Int),.int .i64 yc]) (.take 0 (.take 1 (.take 3 (.take 4 (.two 2 (.take 5 (.one 6 (.one 7 (.one 8 .done)))) 6 (.one 2 (.take 5 (.one 7 (.one 8 .done))))))))) (by kernel_rfl) (by kernel_rfl) (by kernel_rfl) (by kernel_rfl) (by kernel_rfl) HY.out ?_
      iterate 4 (refine wpOTI_take rfl _ (by rfl) (fun _ => rfl) (by intro w' hS;have d2 := hS.cell (i := 2) rfl;have d3 := hS.cell (i := 3) rfl;go_simp;try with_reducible rfl) fun KK hKK => ?_;go_simp;refine hKK _ ?_;clear hKK KK)
      refine wpOTI_two rfl (by rfl) rfl (by rfl) (fun KK hKK => ?_) (fun KK hKK => ?_)
      ·go_simp
       refine hKK _ _ HY.out ?_
       clear hKK KK
       refine wpOTI_take rfl (.int .i64 C') (by rfl) (fun _ => rfl) (by intro w' hS;go_simp;first | omega | (rw [IntKind.wrap_i64];omega)) fun KK hKK => ?_
       go_simp
       refine hKK _ ?_
       clear hKK KK
       refine wpOTI_one rfl (by rfl) fun KK hKK => ?_
       go_simp
       refine hKK _ _ HYA.out ?_
       clear hKK KK
       refine wpOTI_one rfl (by rfl) fun KK hKK => ?_
       go_simp
       obtain ⟨o1,o2,o3⟩ : lb < z ∧ z + 1 + 1 < Bb ∧ lb < Bb := ⟨hlz,hz9,by omega⟩
       have hYb : Row ((W.drew.setCell ⟨z + 1,0,none⟩ (.int .u64 (yt : Int))).setCell ⟨lb,0,none⟩ (.int .i64 C')) Bb 59 [.int .i64 yk,.int .i64 yp,.int .u64 (yt : Int),.int .i64 yc] := (Chg.set _ lb 0 _).row HYA.out (by omega)
       have hGb : Row ((W.drew.setCell ⟨z + 1,0,none⟩ (.int .u64 (yt : Int))).setCell ⟨lb,0,none⟩ (.int .i64 C')) (z + 1 + 1) 4 [.bool false] := (Chg.set _ lb 0 _).row HGA.out (by omega)
       have hNb : Row ((W.drew.setCell ⟨z + 1,0,none⟩ (.int .u64 (yt : Int))).setCell ⟨lb,0,none⟩ (.int .i64 C')) (z + 1) 45 [.int .u64 (yt : Int)] := (Chg.set _ lb 0 _).row HNA.out (by omega)
       have hLb : Row ((W.drew.setCell ⟨z + 1,0,none⟩ (.int .u64 (yt : Int))).setCell ⟨lb,0,none⟩ (.int .i64 C')) lb 3 [.int .i64 C'] := Row.set HLA.out 0 _
       refine hKK _ _ hYb ?_
       clear hKK KK
       have cg := hGb.cell (i := 0) rfl
       have fg := hGb.frozen 0
       have cg2 : ((W.setCell ⟨z + 1,0,none⟩ (.int .u64 (yt : Int))).setCell ⟨lb,0,none⟩ (.int .i64 C')).cell? ⟨z + 1 + 1,0,none⟩ = some (.bool false) := cg
       have fg2 : ((W.setCell ⟨z + 1,0,none⟩ (.int .u64 (yt : Int))).setCell ⟨lb,0,none⟩ (.int .i64 C')).frozen? ⟨z + 1 + 1,0,none⟩ = false := fg
       have cg3 : ((W.setCell ⟨z + 1,0,none⟩ (.int .u64 (yt : Int))).setCell ⟨lb,0,none⟩ (.int .i64 C')).drew.cell? ⟨z + 1 + 1,0,none⟩ = some (.bool false) := cg
       have fg3 : ((W.setCell ⟨z + 1,0,none⟩ (.int .u64 (yt : Int))).setCell ⟨lb,0,none⟩ (.int .i64 C')).drew.frozen? ⟨z + 1 + 1,0,none⟩ = false := fg
       refine wpOTI_one rfl (by rfl) fun KK hKK => ?_
       go_simp
       refine hKK _ _ ((Chg.set _ (z + 1 + 1) 0 _).row hYb (by omega)) ?_
       clear hKK KK
       have HE := Lib.hid (And.intro ((Chg.set _ (z + 1 + 1) 0 (.bool true)).row hLb (by omega)) (And.intro ((Chg.set _ (z + 1 + 1) 0 (.bool true)).row hNb (by omega)) (hGb.set 0 (.bool true))))
       clear hYb hGb hNb hLb cg fg cl cn fn cla fla cla2 fla2 cla3 fla3 cg2 fg2 cg3 fg3
       refine wpOTI_done ?_
       show Kz _ _
       refine hKz _ _ ?_
       go_simp
       gi_wp2_with fail
       have hc1 : Chg (fun k => k = lb ∨ k = z + 1 ∨ k = z + 1 + 1) W (((W.drew.setCell ⟨z + 1,0,none⟩ (.int .u64 (yt : Int))).setCell ⟨lb,0,none⟩ (.int .i64 C')).setCell ⟨z + 1 + 1,0,none⟩ (.bool true)) :=
        (((Chg.of_below (ex := fun k => k = lb ∨ k = z + 1 ∨ k = z + 1 + 1) ((Below.refl _ W).drew)).trans (Chg.set W.drew (z + 1) 0 _) (fun _ _ h => .inr (.inl h))).trans (Chg.set _ lb 0 _) (fun _ _ h => .inl h)).trans (Chg.set _ (z + 1 + 1) 0 _) (fun _ _ h => .inr (.inr h))
       have hc7 := (Chg.of_below (ex := fun k => k = lb ∨ k = z + 1 ∨ k = z + 1 + 1) HIB.out.1.1).trans hc1 (fun _ _ h => h)
       refine ⟨chg_keepsFrom hc1 ?_,rfl,hc7,HE.out.1,HE.out.2.1,HE.out.2.2⟩
       rintro k' (rfl | rfl | rfl) o' ho'
       ·rw [show W.heap[k']? = _ from HR7.out.1.below HIB.out.1.1 HR7.out.1.lt] at ho';cases ho';rfl
       ·rw [show W.heap[z + 1]? = _ from HR7.out.2.1.below HIB.out.1.1 HR7.out.2.1.lt] at ho';cases ho';rfl
       ·rw [show W.heap[z + 1 + 1]? = _ from HR7.out.2.2.below HIB.out.1.1 HR7.out.2.2.lt] at ho';cases ho';rfl
      ·go_simp
       refine hKK _ _ HYA.out ?_
       clear hKK KK
       refine wpOTI_one rfl (by rfl) fun KK hKK => ?_
       go_simp
       refine hKK _ _ HYA.out ?_
       clear hKK KK
       refine wpOTI_take rfl (.int .i64 C') (by rfl) (fun _ => rfl) (by intro w' hS;go_simp;first | omega | (rw [IntKind.wrap_i64];omega)) fun KK hKK => ?_
       go_simp
       refine hKK _ ?_
       clear hKK KK
       refine wpOTI_one rfl (by rfl) fun KK hKK => ?_
       go_simp
       obtain ⟨o1,o2,o3⟩ : lb < z ∧ z + 1 + 1 < Bb ∧ lb < Bb := ⟨hlz,hz9,by omega⟩
       have hYb : Row ((W.drew.setCell ⟨z + 1,0,none⟩ (.int .u64 (yt : Int))).setCell ⟨lb,0,none⟩ (.int .i64 C')) Bb 59 [.int .i64 yk,.int .i64 yp,.int .u64 (yt : Int),.int .i64 yc] := (Chg.set _ lb 0 _).row HYA.out (by omega)
       have hGb : Row ((W.drew.setCell ⟨z + 1,0,none⟩ (.int .u64 (yt : Int))).setCell ⟨lb,0,none⟩ (.int .i64 C')) (z + 1 + 1) 4 [.bool false] := (Chg.set _ lb 0 _).row HGA.out (by omega)
       have hNb : Row ((W.drew.setCell ⟨z + 1,0,none⟩ (.int .u64 (yt : Int))).setCell ⟨lb,0,none⟩ (.int .i64 C')) (z + 1) 45 [.int .u64 (yt : Int)] := (Chg.set _ lb 0 _).row HNA.out (by omega)
       have hLb : Row ((W.drew.setCell ⟨z + 1,0,none⟩ (.int .u64 (yt : Int))).setCell ⟨lb,0,none⟩ (.int .i64 C')) lb 3 [.int .i64 C'] := Row.set HLA.out 0 _
       refine hKK _ _ hYb ?_
       clear hKK KK
       have cg := hGb.cell (i := 0) rfl
       have fg := hGb.frozen 0
       have cg2 : ((W.setCell ⟨z + 1,0,none⟩ (.int .u64 (yt : Int))).setCell ⟨lb,0,none⟩ (.int .i64 C')).cell? ⟨z + 1 + 1,0,none⟩ = some (.bool false) := cg
       have fg2 : ((W.setCell ⟨z + 1,0,none⟩ (.int .u64 (yt : Int))).setCell ⟨lb,0,none⟩ (.int .i64 C')).frozen? ⟨z + 1 + 1,0,none⟩ = false := fg
       have cg3 : ((W.setCell ⟨z + 1,0,none⟩ (.int .u64 (yt : Int))).setCell ⟨lb,0,none⟩ (.int .i64 C')).drew.cell? ⟨z + 1 + 1,0,none⟩ = some (.bool false) := cg
       have fg3 : ((W.setCell ⟨z + 1,0,none⟩ (.int .u64 (yt : Int))).setCell ⟨lb,0,none⟩ (.int .i64 C')).drew.frozen? ⟨z + 1 + 1,0,none⟩ = false := fg
       refine wpOTI_one rfl (by rfl) fun KK hKK => ?_
       go_simp
       refine hKK _ _ ((Chg.set _ (z + 1 + 1) 0 _).row hYb (by omega)) ?_
       clear hKK KK
       have HE := Lib.hid (And.intro ((Chg.set _ (z + 1 + 1) 0 (.bool true)).row hLb (by omega)) (And.intro ((Chg.set _ (z + 1 + 1) 0 (.bool true)).row hNb (by omega)) (hGb.set 0 (.bool true))))
       clear hYb hGb hNb hLb cg fg cl cn fn cla fla cla2 fla2 cla3 fla3 cg2 fg2 cg3 fg3
       refine wpOTI_done ?_
       show Kz _ _
       refine hKz _ _ ?_
       go_simp
       gi_wp2_with fail
       have hc1 : Chg (fun k => k = lb ∨ k = z + 1 ∨ k = z + 1 + 1) W (((W.drew.setCell ⟨z + 1,0,none⟩ (.int .u64 (yt : Int))).setCell ⟨lb,0,none⟩ (.int .i64 C')).setCell ⟨z + 1 + 1,0,none⟩ (.bool true)) :=
        (((Chg.of_below (ex := fun k => k = lb ∨ k = z + 1 ∨ k = z + 1 + 1) ((Below.refl _ W).drew)).trans (Chg.set W.drew (z + 1) 0 _) (fun _ _ h => .inr (.inl h))).trans (Chg.set _ lb 0 _) (fun _ _ h => .inl h)).trans (Chg.set _ (z + 1 + 1) 0 _) (fun _ _ h => .inr (.inr h))
       have hc7 := (Chg.of_below (ex := fun k => k = lb ∨ k = z + 1 ∨ k = z + 1 + 1) HIB.out.1.1).trans hc1 (fun _ _ h => h)
       refine ⟨chg_keepsFrom hc1 ?_,rfl,hc7,HE.out.1,HE.out.2.1,HE.out.2.2⟩
       rintro k' (rfl | rfl | rfl) o' ho'
       ·rw [show W.heap[k']? = _ from HR7.out.1.below HIB.out.1.1 HR7.out.1.lt] at ho';cases ho';rfl
       ·rw [show W.heap[z + 1]? = _ from HR7.out.2.1.below HIB.out.1.1 HR7.out.2.1.lt] at ho';cases ho';rfl
       ·rw [show W.heap[z + 1 + 1]? = _ from HR7.out.2.2.below HIB.out.1.1 HR7.out.2.2.lt] at ho';cases ho';rfl
     ·have HNO : Hid (sameNone ⟨xk,xp,xt,xc⟩ ((pre ++ [(⟨⟨yk,yp,yt,yc⟩,hy⟩ : {y : Way // y ∈ e.wall m})]).map Subtype.val)) := fun y' hy' => by
       rw [List.map_append,List.mem_append] at hy'
       rcases hy' with hy' | hy'
       ·exact HIB.out.1.2 y' hy'
       ·rw [List.map_singleton,List.mem_singleton] at hy'
        rw [hy'];exact hq
      gi_wp2_with fail
      all_goals first | exact ⟨KeepsFrom.refl _ _,KeepQ.refl _,HIB.out.1.1,HNO.out⟩ | (exfalso;exact hq ⟨by assumption,by assumption⟩)
    case done =>
     rintro Dm ys W hDm hys hI hK
     exact (hI.2 ⟨xk,xp,xt,xc⟩ (by rw [show ys.map Subtype.val = _ from hys];exact HPY.out.1) ⟨rfl,rfl⟩).elim
    case stop =>
     rintro Dm cc pre W hDm hpre ⟨hcc,hch,h2,h3,h4⟩ hD
     subst hcc
     have c13 := h3.cell (i := 0) rfl
     have c14 := h4.cell (i := 0) rfl
     have hbW : Below w2.heap.size w2 W := hB7.trans (hch.below hB7.size (fun i hi hx => by have := HLB.out;omega))
     have hsc := HHA.out.safe m W HMM.out.1 hbW
     rw [HSF.out] at hsc
     have HSC := Lib.hid hsc
     have HMW := Lib.hid (hM7.chg hch (by
      rintro k' (rfl | rfl | rfl) o' ho'
      ·rw [show W7.heap[k']? = _ from hL7] at ho';cases ho';rfl
      ·rw [show W7.heap[z + 1]? = _ from r1] at ho';cases ho';rfl
      ·rw [show W7.heap[z + 1 + 1]? = _ from r2] at ho';cases ho';rfl) (Nat.le_refl _))
     have HWW := Lib.hid (And.intro hDm (And.intro hbW (And.intro h2 (And.intro h3 hD))))
     clear hDm hpre hch h2 h3 h4 hbW hsc hD hM7 hL7 hB7 r0 r1 r2 hRh hRm hgc hft
     gi_wp2_with fail
     refine ⟨trivial,(callsIn_wide.2 HSC.out).mono ?_⟩
     rintro x w8 ⟨rfl,hb8⟩
     obtain ⟨q1,q2,q3,q4,q5⟩ := HWW.out
     have HB8 := Lib.hid hb8
     have c13 := (q4.below hb8 q4.lt).cell (i := 0) rfl
     have HL8 := Lib.hid (q3.below hb8 q3.lt)
     have HD8 : Hid (w8.heap[Dm]? = some (.deferred (some []))) := (hb8.block Dm (heap_lt q5)).trans q5
     have HW8 : Hid (Below w2.heap.size w2 w8) := q2.trans (hb8.mono q2.size)
     have HM8 := Lib.hid (HMW.out.keep (hb8.mono (by have := heap_lt q5;omega)))
     have HDM : Hid (W7.heap.size ≤ Dm) := q1
     have hlw : lb + 1 ≤ W7.heap.size := by omega
     clear hb8 q1 q2 q3 q4 q5 c14
     gi_wp2_with fail
     rw [HJ.out]
     refine ⟨nL - (k + 1),by have := HNK.out;omega,k + 1,xt,by omega,rfl,rfl,rfl,rfl,rfl,rfl,rfl,?_,HM8.out.cons (by have := HDM.out;omega) HDM.out (heap_lt HD8.out) HD8.out,HW8.out,by rw [HC'.out];exact HL8.out,t1,HPY.out.2.1,HPY.out.2.2.2⟩
     show Value.int .i64 ((k : Int) + 1) = _
     go_num
   ·obtain rfl : k = nL := by omega
    have hpe : m = mE := by
     have h1 := HBR.out.2.2.2.1
     rw [HNL.out,List.drop_length] at h1
     exact h1
    obtain ⟨g1,g2⟩ := HFI.out.end HBR.out.2.2.2.2 HBR.out.2.2.1 (by rw [hpe];exact HME.out)
    rw [HCC.out] at g1
    have q0 : (c == 0) = true := by simp [g1]
    have hsf := HHA.out.safe m wr HBR.out.2.2.2.2 HBR.out.1
    rw [HSF.out] at hsf
    have HS := Lib.hid hsf
    have HLV : Hid (e.en m e.D.am = true) := g2
    clear hsf g1 g2 hpe
    gi_wp2_with fail
    refine ⟨trivial,(callsIn_wide.2 HS.out).mono ?_⟩
    rintro x w8 ⟨rfl,hb8⟩
    have hb9 : Below w2.heap.size w2 w8 := HBR.out.1.trans (hb8.mono HBR.out.1.size)
    have c2 := (HHA.out.ptr w8 hb9).2
    have hen := HHA.out.enough m w8 HBR.out.2.2.2.2 hb9
    rw [HEQ.out.2.2] at c2 hen
    rw [HLV.out] at hen
    have HE := Lib.hid hen
    have HB8 := Lib.hid hb8
    have HB9 := Lib.hid hb9
    clear hen hb8 hb9
    gi_wp2_with fail
    refine ⟨trivial,(callsIn_wide.2 HE.out).mono ?_⟩
    rintro x w9 ⟨rfl,hd9⟩
    have HD9 := Lib.hid (hd9.below w8.heap.size)
    clear hd9
    gi_wp2_with fail
    refine leaves_marks ds _ ((HMK.out.keep HB8.out).keep (HD9.out.mono HB8.out.size)) fun w' hb' => ?_
    have hw9 : Below w2.heap.size w2 w' := (HB9.out.trans (HD9.out.mono HB9.out.size)).trans (hb'.mono (by have := HLB.out;omega))
    exact ⟨_,results_tmps_two rfl _ _,rfl,by rw [HSS.out];exact HB2.out.trans (hw9.mono (by have := HB2.out.size;rw [HSS.out] at this;exact this))⟩
end Go.Proofs.YtjcpjhlclpdpjaaGreat
namespace Go.Proofs.YtjcpjhlclpdpjaaGreat
open Go.RowKit
attribute [local go_sem] Oper.semAt_some
abbrev zEst : Value := .agg #[.slice none 0 0,.slice none 0 0,.slice none 0 0,.slice none 0 0,.slice none 0 0]
theorem enter_zero (w : World) : Calls Tryz.prog 13 #[zEst] w fun r w' => ∃ cs : Array Value,cs.size = 5 ∧ r = .returned (.tuple #[.agg cs,.int .i64 520]) ∧ Below w.heap.size w w' := by
 go_enter Tryz.func13,Tryz.ntmps13
 go_wp2
 have hR := Row.new (w.alloc (.cells #[.slice none 0 0,.slice none 0 0,.slice none 0 0,.slice none 0 0,.slice none 0 0] 26)) 48 [.slice none 0 0,.int .u64 0,.int .u64 0,.slice none 0 0,.slice none 0 0]
 rw [World.size_alloc] at hR
 refine bodyPost_ret (results_cell_row_tmp (p := 2) (q := 3) rfl _ _ (w.heap.size + 1) 48 _ (0,0) _ (by rfl) hR Tryz.underlying48 (by rfl) (by kernel_rfl)) rfl ?_
 exact ⟨_,rfl,rfl,((Below.refl _ w).alloc (Nat.le_refl _) _).alloc (by simp) _⟩
theorem check_zero (w : World) : Calls Tryz.prog 4 #[zEst] w fun r w' => r = .returned (.int .i64 520) ∧ Below w.heap.size w w' := by
 go_enter Tryz.func4,Tryz.ntmps4
 go_wp2_with (go_at_call 13;refine (enter_zero _).mono ?_;rintro x w1 ⟨cs,hcs,rfl,hb⟩)
 go_ret
 exact ⟨rfl,((Below.refl _ w).alloc (Nat.le_refl _) _).trans (hb.mono (by simp))⟩
end Go.Proofs.YtjcpjhlclpdpjaaGreat
