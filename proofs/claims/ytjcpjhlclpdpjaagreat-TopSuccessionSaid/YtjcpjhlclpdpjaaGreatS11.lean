import Derived.Test.YtjcpjhlclpdpjaaGreatS10
set_option linter.unusedVariables false
set_option maxRecDepth 100000
set_option maxHeartbeats 16000000
namespace Go.Proofs.YtjcpjhlclpdpjaaGreat
open Go.RowKit
attribute [local go_sem] Oper.semAt_some
theorem Pth.len {D : DjE} {all : List Ent} : ∀ {ws : List Way} {m m' : Nat},Pth D all m ws m' → (all.getD m' dE).s + (ws.length : Int) = (all.getD m dE).s
 | [],m,m',h => by
  have h : m = m' := h
  subst h
  simp
 | v :: ws,m,m',h => by
  have h1 := Pth.len h.2.2.2.2
  have h2 := h.2.2.2.1
  rw [List.length_cons]
  omega
def stepOk (all : List Ent) (c ss : Int) (y : Way) : Prop := stl all y.t ∧ (all.getD y.t dE).c + y.c = c ∧ (all.getD y.t dE).s + 1 = ss
def stepsNone (all : List Ent) (c ss : Int) (l : List Way) : Prop := ∀ y ∈ l,¬ stepOk all c ss y
def PlanR (e : Est) (w : World) (r : Ending) (w' : World) : Prop := Below w.heap.size w w' ∧ ∃ all,Fin e.D all ∧
  ((r = .returned (.tuple #[.slice none 0 0,.int .i64 0,.bool false,.int .i64 0]) ∧ ¬ stl all (e.st e.m.d)) ∨
   (∃ lv ws mE,stl all (e.st e.m.d) ∧ r = .returned (.tuple #[lv,.int .i64 (all.getD (e.st e.m.d) dE).c,.bool true,.int .i64 0]) ∧ Pth e.D all (e.st e.m.d) ws mE ∧ (all.getD mE dE).s = 0 ∧ w'.ownsRow w.heap.size 40 2 lv ws.length (stageCells ws)))
theorem plan_any (e : Est) (w : World) (h : e.Fit w) : Calls Tryz.prog 6 #[.agg e.cells.toArray] w (PlanR e w) := by
 have hX := boxed1 e w
 have HI : Hid ((Tryz.prog.info? 26).map (·.size) = some e.cells.length) := by show _ = _;kernel_rfl
 have HF : Hid (∀ W,Below w.heap.size w W → e.Fit W) := fun W hW => h.below hW
 obtain ⟨CS,hCS⟩ : ∃ CS,e.cells = CS := ⟨_,rfl⟩
 rw [hCS] at HI
 have HCS : Hid (∀ W,Boxed1 e w W → ∀ i v,CS[i]? = some v → W.cell? ⟨w.heap.size,i,none⟩ = some v) := fun W hW i v hv => hW.row i v (by rw [hCS];exact hv)
 obtain ⟨hA,ehA⟩ : ∃ x,e.hA = x := ⟨_,rfl⟩
 obtain ⟨hcc,ehc⟩ : ∃ x,e.hc = x := ⟨_,rfl⟩
 obtain ⟨N,eN⟩ : ∃ x,e.H.length = x := ⟨_,rfl⟩
 obtain ⟨MM,eMM⟩ : ∃ x,e.st e.m.d = x := ⟨_,rfl⟩
 obtain ⟨AM,eAM⟩ : ∃ x,e.st e.a.d = x := ⟨_,rfl⟩
 obtain ⟨nA,enA⟩ : ∃ x,e.n.A = x := ⟨_,rfl⟩
 obtain ⟨nl,enl⟩ : ∃ x,e.n.d.length = x := ⟨_,rfl⟩
 obtain ⟨nc,enc⟩ : ∃ x,e.n.c = x := ⟨_,rfl⟩
 obtain ⟨VN,eVN⟩ : ∃ x,e.V.length = x := ⟨_,rfl⟩
 have HLT : Hid (∀ vb,e.hcells vb = [.slice hA N hcc,.int .u64 (MM : Int),.int .u64 (AM : Int),.slice nA nl nc,.slice (some ⟨vb,0,none⟩) VN VN]) := fun vb => by
  unfold Est.hcells
  rw [ehA,ehc,eN,eMM,eAM,enA,enl,enc,eVN]
 have HEN : Hid (∀ W,Boxed1 e w W → Calls Tryz.prog 13 #[.agg CS.toArray] W fun x w' => ∃ vb,x = .returned (.tuple #[.agg #[.slice hA N hcc,.int .u64 (MM : Int),.int .u64 (AM : Int),.slice nA nl nc,.slice (some ⟨vb,0,none⟩) VN VN],.int .i64 0]) ∧ Row w' vb 45 (e.V.map fun r => .int .u64 ((e.st r.d : Nat) : Int)) ∧ W.heap.size < vb ∧ Below W.heap.size W w') := fun W hW => by
  rw [← hCS]
  refine (Est.enters (h.below hW.bel)).mono ?_
  rintro x w' ⟨vb,rfl,h1⟩
  refine ⟨vb,?_,h1⟩
  rw [HLT.out vb]
 have HEQ : Hid (e.H.length = N ∧ e.st e.m.d = MM ∧ e.st e.a.d = AM) := ⟨eN,eMM,eAM⟩
 have HMP : Hid (2 ≤ e.D.M ∧ e.D.M ≤ 64) := by
  constructor
  ·show 2 ≤ 2 ^ e.H.length
   have h1 := h.right.h1
   exact Nat.le_trans (show 2 ≤ 2 ^ 1 by omega) (Nat.pow_le_pow_right (by omega) h1)
  ·exact pow_le64 h.n
 have HLL : Hid (∀ (W : World) (g vb : Nat),Below w.heap.size w W → g < W.heap.size → Row W g 48 [.slice hA N hcc,.int .u64 (MM : Int),.int .u64 (AM : Int),.slice nA nl nc,.slice (some ⟨vb,0,none⟩) VN VN] → Row W vb 45 (e.V.map fun r => .int .u64 ((e.st r.d : Nat) : Int)) → Calls Tryz.prog 15 #[.pointer (some ⟨g,0,none⟩)] W fun r w' => ∃ ab all,r = .returned (.slice (some ⟨ab,0,none⟩) e.D.M e.D.M) ∧ W.heap.size ≤ ab ∧ QR w' ab e.D.M all ∧ Fin e.D all ∧ Below W.heap.size W w') := fun W g vb hW hg hr hv =>
  Est.leasts (h.below hW) hg (by rw [HLT.out vb];exact hr) hv
 rw [hCS] at hX ⊢
 obtain ⟨M,eM⟩ : ∃ M,e.D.M = M := ⟨_,rfl⟩
 have HM := Lib.hid eM
 rw [eM] at HMP HLL
 clear h hCS ehA ehc eN eMM eAM enA enl enc eVN
 clear eM
 have hX0 : Boxed1 e w ((w.alloc (.cells CS.toArray 26)).alloc (.cells #[.slice none 0 0] 29)) := hX.next ((Below.refl _ _).alloc (Nat.le_refl _) _)
 have HX := Lib.hid hX0
 obtain ⟨s,hs⟩ : ∃ s,w.heap.size = s := ⟨_,rfl⟩
 have HSS := Lib.hid hs
 have hR2 : Row ((w.alloc (.cells CS.toArray 26)).alloc (.cells #[.slice none 0 0] 29)) (s + 1) 29 [.slice none 0 0] := by
  have := Row.new (w.alloc (.cells CS.toArray 26)) 29 [.slice none 0 0]
  rw [World.size_alloc,hs] at this
  exact this
 have HR2 := Lib.hid hR2
 rw [hs] at HCS
 clear hX hX0 hR2
 refine (callsIn_wide (n := 9)).1 ?_
 refine callsIn_of_wp_marks Tryz.func6 rfl trivial ?_ rfl
 simp only [Tryz.ntmps6,List.size_toArray,List.length_cons,List.length_nil,Nat.reduceAdd,Nat.reduceSub,Array.replicate_succ,Array.replicate_zero,List.push_toArray,List.append_toArray,List.nil_append,List.cons_append]
 gi_wp2_with (refine wpListIn_load_cells rfl 26 (.tmp 1) rfl ⟨s,0,none⟩ (by rfl) CS _ (fun i v hv => by rw [Addr.add_flat,Nat.zero_add];exact HCS.out _ HX.out i v hv) Tryz.underlying26 (by rfl) HI.out ?_)
 refine ⟨trivial,(callsIn_wide.2 (HEN.out _ HX.out)).mono ?_⟩
 rintro x w1 ⟨vb,rfl,hv,hb,hbl⟩
 obtain ⟨gh,hgh⟩ : ∃ g,w1.heap.size = g := ⟨_,rfl⟩
 have hRg : Row (w1.alloc (.cells #[.slice hA N hcc,.int .u64 (MM : Int),.int .u64 (AM : Int),.slice nA nl nc,.slice (some ⟨vb,0,none⟩) VN VN] 48)) gh 48 [.slice hA N hcc,.int .u64 (MM : Int),.int .u64 (AM : Int),.slice nA nl nc,.slice (some ⟨vb,0,none⟩) VN VN] := by rw [← hgh];exact Row.new w1 _ _
 have hV2 := hv.alloc (.cells #[.slice hA N hcc,.int .u64 (MM : Int),.int .u64 (AM : Int),.slice nA nl nc,.slice (some ⟨vb,0,none⟩) VN VN] 48)
 have hB1 : Below s w w1 := by
  have := (HX.out.next hbl).bel
  rwa [HSS.out] at this
 have hR1 := HR2.out.below hbl HR2.out.lt
 have hB2 : Below s w (w1.alloc (.cells #[.slice hA N hcc,.int .u64 (MM : Int),.int .u64 (AM : Int),.slice nA nl nc,.slice (some ⟨vb,0,none⟩) VN VN] 48)) := hB1.alloc (by have := hR1.lt;omega) _
 have hls := HLL.out _ gh vb (by rw [HSS.out];exact hB2) hRg.lt hRg hV2
 have HLS := Lib.hid hls
 have hRl := hR1.alloc (.cells #[.slice hA N hcc,.int .u64 (MM : Int),.int .u64 (AM : Int),.slice nA nl nc,.slice (some ⟨vb,0,none⟩) VN VN] 48)
 have HA := Lib.hid (And.intro hRg (And.intro hV2 (And.intro hB2 (And.intro hRl (And.intro (show s + 1 < gh by rw [← hgh];exact hR1.lt) (show s + 1 < vb by have := HR2.out.lt;omega))))))
 clear hv hb hbl hRg hV2 hB1 hR1 hB2 hls hRl HEN HX HR2 HCS HI HLL
 gi_wp2_with fail
 refine ⟨trivial,(callsIn_wide.2 HLS.out).mono ?_⟩
 rintro x w3 ⟨ab,all,rfl,hab,hq,hf,hb3⟩
 obtain ⟨a1,a2,a3,a4,a5,a6⟩ := HA.out
 have hR3g := a1.below hb3 a1.lt
 have hR3v := a2.below hb3 a2.lt
 have hR3l := a4.below hb3 a4.lt
 have hB3 : Below s w w3 := a3.trans (hb3.mono (by have := a4.lt;omega))
 have hab2 : s + 1 < ab := by have := a4.lt;omega
 have hgab : gh < ab ∧ vb < ab := by have h1 := a1.lt;have h2 := a2.lt;omega
 have hmm := Est.st_lt (HF.out w (Below.refl _ _)).right.m
 have hmM : MM < M := by rw [HEQ.out.2.1] at hmm;rw [← HM.out];exact hmm
 obtain ⟨b7,hb7⟩ : ∃ b,w3.heap.size = b := ⟨_,rfl⟩
 have hq7 : QR (w3.alloc (.cells #[.slice (some ⟨ab,0,none⟩) M M] 51)) ab M all := hq.heap (Below.heap_alloc _ _ ab hq.lt)
 have HAL : Hid (all.length = M) := by show _ = _;rw [hf.len,HM.out]
 obtain ⟨x0,x1,x2⟩ := hq7.cell (k := MM) (by rw [HAL.out];exact hmM)
 have hgc := (hR3g.alloc (.cells #[.slice (some ⟨ab,0,none⟩) M M] 51)).cell (i := 1) rfl
 have hidx := hf.idx MM (by rw [HM.out];exact hmM)
 rw [hidx] at x0
 obtain ⟨C,hC⟩ : ∃ C,(all.getD MM dE).c = C := ⟨_,rfl⟩
 obtain ⟨S,hS⟩ : ∃ S,(all.getD MM dE).s = S := ⟨_,rfl⟩
 rw [hC] at x1
 rw [hS] at x2
 have m0 : (0 : Int) ≤ (MM : Int) := by omega
 have m1 : (MM : Int) < (M : Int) := by omega
 have HFI := Lib.hid hf
 have HCS2 : Hid (all.getD MM dE = ⟨MM,C,S⟩) := by
  have h1 := hidx
  show all.getD MM dE = ⟨MM,C,S⟩
  cases hh : all.getD MM dE with
  | mk a b c => rw [hh] at h1 hC hS;simp only at h1 hC hS;rw [h1,hC,hS]
 have HPL : Hid (Row w3 gh 48 [.slice hA N hcc,.int .u64 (MM : Int),.int .u64 (AM : Int),.slice nA nl nc,.slice (some ⟨vb,0,none⟩) VN VN] ∧ Row w3 vb 45 (e.V.map fun r => .int .u64 ((e.st r.d : Nat) : Int)) ∧ Row w3 (s + 1) 29 [.slice none 0 0] ∧ Below s w w3 ∧ QR w3 ab M all ∧ s + 1 < ab ∧ (gh < ab ∧ vb < ab) ∧ s + 1 < gh ∧ s + 1 < vb) := ⟨hR3g,hR3v,hR3l,hB3,hq,hab2,hgab,a5,a6⟩
 have c2 := ((hR3l.alloc (.cells #[.slice (some ⟨ab,0,none⟩) M M] 51)).alloc (.cells #[.int .u64 (MM : Int),.int .i64 C,.int .i64 S] 54)).cell (i := 0) rfl
 have f2 := ((hR3l.alloc (.cells #[.slice (some ⟨ab,0,none⟩) M M] 51)).alloc (.cells #[.int .u64 (MM : Int),.int .i64 C,.int .i64 S] 54)).frozen 0
 clear a1 a2 a3 a4 a5 a6 HA hR3g hR3v hR3l hB3 hq hq7 hf hb3 hab hab2 hgab hmm hidx hC hS HLS hgh
 by_cases hc0 : C < 0
 ·have HNS : Hid (¬ stl all MM) := by show ¬ (0 ≤ (all.getD MM dE).c);rw [HCS2.out];show ¬ (0 ≤ C);omega
  gi_wp2_with fail
  have r2 := (((HPL.out.2.2.1.alloc (.cells #[.slice (some ⟨ab,0,none⟩) M M] 51)).alloc (.cells #[.int .u64 (MM : Int),.int .i64 C,.int .i64 S] 54)).set 0 (.slice none 0 0))
  have hbl := (((HPL.out.2.2.2.1.alloc (by have := HPL.out.2.2.1.lt;omega) (.cells #[.slice (some ⟨ab,0,none⟩) M M] 51)).alloc (by have := HPL.out.2.2.1.lt;simp;omega) (.cells #[.int .u64 (MM : Int),.int .i64 C,.int .i64 S] 54)).setCell (p := ⟨s + 1,0,none⟩) (by show s ≤ s + 1;omega) (.slice none 0 0))
  refine leaves_marks2 [] _ (Marks.nil s 0 _) fun w' hb' hc' => ?_
  exact ⟨_,results_cell_three rfl _ _ (s + 1) (.slice none 0 0) (by rfl) ((World.cell?_of_block ((hc' _ _ r2 rfl).trans r2.symm)).trans (r2.cell (i := 0) rfl)) (isAgg_stages _),by rw [HSS.out];exact hbl.trans hb',all,HFI.out,.inl ⟨rfl,by rw [HEQ.out.2.1];exact HNS.out⟩⟩
 ·have HST : Hid (stl all MM) := by show 0 ≤ (all.getD MM dE).c;rw [HCS2.out];show 0 ≤ C;omega
  gi_wp2_with fail
  have hP0 : PL e s gh vb b7 ab (b7 + 1) (b7 + 2) M w ((w3.alloc (.cells #[.slice (some ⟨ab,0,none⟩) M M] 51)).alloc (.cells #[.int .u64 (MM : Int),.int .i64 C,.int .i64 S] 54)) all (.slice none 0 0) [] MM := by
   obtain ⟨r3g,r3v,r3l,bl3,rq,o1,⟨o2,o3⟩,o4,o5⟩ := HPL.out
   have l1 := r3g.lt
   have l2 := r3v.lt
   have l3 := r3l.lt
   have l4 := rq.lt
   rw [hb7] at l1 l2 l3 l4
   have rb7 : Row ((w3.alloc (.cells #[.slice (some ⟨ab,0,none⟩) M M] 51)).alloc (.cells #[.int .u64 (MM : Int),.int .i64 C,.int .i64 S] 54)) b7 51 [.slice (some ⟨ab,0,none⟩) M M] := by rw [← hb7];exact (Row.new w3 _ _).alloc _
   have rb8 : Row ((w3.alloc (.cells #[.slice (some ⟨ab,0,none⟩) M M] 51)).alloc (.cells #[.int .u64 (MM : Int),.int .i64 C,.int .i64 S] 54)) (b7 + 1) 54 [.int .u64 (MM : Int),.int .i64 C,.int .i64 S] := by
    have := Row.new (w3.alloc (.cells #[.slice (some ⟨ab,0,none⟩) M M] 51)) 54 [.int .u64 (MM : Int),.int .i64 C,.int .i64 S]
    rw [World.size_alloc,hb7] at this
    exact this
   refine ⟨(r3l.alloc _).alloc _,World.ownsRow_nil _ _ _ _,?_,(r3v.alloc _).alloc _,rb7,?_,?_,(bl3.alloc (by omega) _).alloc (by simp;omega) _,?_⟩
   ·rw [HLT.out vb];exact (r3g.alloc _).alloc _
   ·exact rq.heap ((Below.heap_alloc _ _ ab (by simp;omega)).trans (Below.heap_alloc _ _ ab (by omega)))
   ·rw [HCS2.out];exact rb8
   ·simp;omega
  generalize ((w3.alloc (.cells #[.slice (some ⟨ab,0,none⟩) M M] 51)).alloc (.cells #[.int .u64 (MM : Int),.int .i64 C,.int .i64 S] 54)) = w5 at hP0 ⊢
  have HP0 := Lib.hid hP0
  clear hP0 HPL c2 f2 x0 x1 x2 hgc hb7
  have HC0 : Hid ((all.getD MM dE).c = C) := by show _ = _;rw [HCS2.out]
  obtain ⟨J,hJ⟩ : ∃ J : Nat → Act → World → Prop,J = fun n a' w' => ∃ (ws : List Way) (m : Nat) (lv : Value),a'.tmps.size = 71 ∧ a'.tmps.getD 2 undef = .pointer (some ⟨s + 1,0,none⟩) ∧ a'.tmps.getD 3 undef = .int .i64 C ∧ a'.tmps.getD 6 undef = .pointer (some ⟨gh,0,none⟩) ∧ a'.tmps.getD 7 undef = .pointer (some ⟨b7,0,none⟩) ∧ a'.tmps.getD 8 undef = .pointer (some ⟨b7 + 1,0,none⟩) ∧
   Marks (b7 + 2) w'.heap.size a'.defers w' ∧ PL e s gh vb b7 ab (b7 + 1) (b7 + 2) M w w' all lv ws m ∧ Pth e.D all MM ws m ∧ n = (all.getD m dE).s.toNat := ⟨_,rfl⟩
  refine wpIn_loop_ghost J ?_ ?_
  ·rw [hJ]
   exact ⟨_,[],MM,_,rfl,rfl,rfl,rfl,rfl,rfl,Marks.nil _ _ _,HP0.out,rfl,rfl⟩
  ·clear HP0
   have HJ := Lib.hid hJ
   intro n a' wr hinv
   rw [hJ] at hinv
   clear hJ
   obtain ⟨ws,m,lv,h71,e2,e3,e6,e7,e8,hm,hP,hpt,hn⟩ := hinv
   obtain ⟨T,ds⟩ := a'
   dsimp only at h71 e2 e3 e6 e7 e8 hm
   obtain ⟨v,hT,hv⟩ := arr_fun T 71 h71
   have e' : ((List.range 71).map v).toArray = #[v 0,v 1,v 2,v 3,v 4,v 5,v 6,v 7,v 8,v 9,v 10,v 11,v 12,v 13,v 14,v 15,v 16,v 17,v 18,v 19,v 20,v 21,v 22,v 23,v 24,v 25,v 26,v 27,v 28,v 29,v 30,v 31,v 32,v 33,v 34,v 35,v 36,v 37,v 38,v 39,v 40,v 41,v 42,v 43,v 44,v 45,v 46,v 47,v 48,v 49,v 50,v 51,v 52,v 53,v 54,v 55,v 56,v 57,v 58,v 59,v 60,v 61,v 62,v 63,v 64,v 65,v 66,v 67,v 68,v 69,v 70] := rfl
   rw [show v 2 = _ from (hv 2).symm.trans e2,show v 3 = _ from (hv 3).symm.trans e3,show v 6 = _ from (hv 6).symm.trans e6,show v 7 = _ from (hv 7).symm.trans e7,show v 8 = _ from (hv 8).symm.trans e8] at e'
   rw [hT,e']
   have hok := Est.djok (HF.out w (Below.refl _ _)).right (HF.out w (Below.refl _ _)).n e.D.vs e.D.am
   have HOK : Hid e.D.ok := hok
   have hml := Pth.lt HOK.out (by rw [HM.out];exact hmM) HST.out hpt
   have hmi := HFI.out.idx m hml.1
   have HJS := Lib.hid (HFI.out.jst m hml.1 hml.2)
   have hsk := HFI.out.sk m hml.1 hml.2
   have h8 := hP.r8
   obtain ⟨c,hc⟩ : ∃ c,(all.getD m dE).c = c := ⟨_,rfl⟩
   obtain ⟨ss,hss⟩ : ∃ c,(all.getD m dE).s = c := ⟨_,rfl⟩
   have HMC : Hid (all.getD m dE = ⟨m,c,ss⟩) := by
    show all.getD m dE = ⟨m,c,ss⟩
    cases hh : all.getD m dE with
    | mk a b c' => rw [hh] at hmi hc hss;simp only at hmi hc hss;rw [hmi,hc,hss]
   rw [HMC.out] at h8
   have p0 : wr.cell? ⟨b7 + 1,0,none⟩ = some (.int .u64 (m : Int)) := h8.cell (i := 0) rfl
   have p1 : wr.cell? ⟨b7 + 1,1,none⟩ = some (.int .i64 c) := h8.cell (i := 1) rfl
   have p2 : wr.cell? ⟨b7 + 1,2,none⟩ = some (.int .i64 ss) := h8.cell (i := 2) rfl
   have HP := Lib.hid hP
   have HMK := Lib.hid hm
   have HPT := Lib.hid (And.intro hpt hn)
   have HML := Lib.hid hml
   have hm64 : m < 64 := by have := HMP.out.2;have := HM.out;have := HML.out.1;omega
   have hss64 : ss < 64 := by rw [← hss];exact hsk
   have hss0 : 0 ≤ ss := by have := HJS.out.s0;rw [hss] at this;exact this
   clear hT hv e' e2 e3 e6 e7 e8 h71 hm hP hpt hn hml hmi hsk h8 hc hss hok
   by_cases hs0 : 0 < ss
   ·clear hss0
    gi_wp2_with (refine ⟨trivial,?_⟩;gi_at_call 16;refine (callsIn_wide.2 (ways_any _ _ _)).mono ?_;rintro e w' ⟨rfl,rfl⟩)
    clear p0 p1 p2
    obtain ⟨z2,hz2⟩ : ∃ z,wr.heap.size = z := ⟨_,rfl⟩
    have hb67 : Below wr.heap.size wr ((wr.alloc (.cells #[.pointer (some ⟨gh,0,none⟩)] 87)).alloc (.cells #[.int .u64 (m : Int)] 45)) := ((Below.refl _ wr).alloc (Nat.le_refl _) _).alloc (by simp) _
    have hP7 : PL e s gh vb b7 ab (b7 + 1) (b7 + 2) M w ((wr.alloc (.cells #[.pointer (some ⟨gh,0,none⟩)] 87)).alloc (.cells #[.int .u64 (m : Int)] 45)) all lv ws m := HP.out.below hb67
    have hM7 : Marks (b7 + 2) ((wr.alloc (.cells #[.pointer (some ⟨gh,0,none⟩)] 87)).alloc (.cells #[.int .u64 (m : Int)] 45)).heap.size ds ((wr.alloc (.cells #[.pointer (some ⟨gh,0,none⟩)] 87)).alloc (.cells #[.int .u64 (m : Int)] 45)) := (HMK.out.keep hb67).more hb67.size
    have hRh : Row ((wr.alloc (.cells #[.pointer (some ⟨gh,0,none⟩)] 87)).alloc (.cells #[.int .u64 (m : Int)] 45)) z2 87 [.pointer (some ⟨gh,0,none⟩)] := by rw [← hz2];exact (Row.new wr _ _).alloc _
    have hRm : Row ((wr.alloc (.cells #[.pointer (some ⟨gh,0,none⟩)] 87)).alloc (.cells #[.int .u64 (m : Int)] 45)) (z2 + 1) 45 [.int .u64 (m : Int)] := by
     have := Row.new (wr.alloc (.cells #[.pointer (some ⟨gh,0,none⟩)] 87)) 45 [.int .u64 (m : Int)]
     rw [World.size_alloc,hz2] at this
     exact this
    rw [hz2]
    generalize ((wr.alloc (.cells #[.pointer (some ⟨gh,0,none⟩)] 87)).alloc (.cells #[.int .u64 (m : Int)] 45)) = W7 at hP7 hM7 hRh hRm ⊢
    clear hz2 hb67 HP HMK
    obtain ⟨o1,o2,o3,o4,o5,o6,o7,o8,o9,o10,o11,o12,o13,o14,o15⟩ := hP7.ord
    have hft := HF.out W7 (by rw [HSS.out];exact hP7.bel)
    have HMC1 : Hid ((all.getD m dE).c = c ∧ (all.getD m dE).s = ss) := by show _ ∧ _;rw [HMC.out];exact ⟨rfl,rfl⟩
    have HOR := Lib.hid hP7.ord
    refine wpIn_rangeFunc_ownH rfl (by omega) (gf := 40) (lb := #[.pointer (some ⟨z2,0,none⟩),.pointer (some ⟨z2 + 1,0,none⟩)]) rfl trivial (enters_of Tryz.func40 (by kernel_rfl) rfl)
     (encs := fun y : {y : Way // y ∈ e.wall m} => encW y.1) (Kp := KeepQ (fun _ _ => False)) (S := fun ys => ys.map Subtype.val = e.wall m) (Sp := fun pre => e.wpre m (pre.map Subtype.val)) (N := 12) (w0 := W7)
     (ways_seq Fence.wide (9 - 1) trivial (fun _ => trivial) rfl (by omega) z2 (z2 + 1) gh W7.heap.size _ e m hft.n hm64 hft.right.h1 (fun _ _ _ h => h) hP7.r6.lt (fun h => h) (fun h => h) W7 (fun _ _ h => h) hRh hRm (hP7.r6.cell (i := 0) rfl) hP7.r6.lt hft.ok.h (Nat.le_refl _) hft.ok.hc)
     (fun h1 h2 => h1.trans h2) (fun W lo ob ob' h1 h2 h3 h4 => KeepQ.putObj W lo ob ob' h2 h3) (Below.refl _ _) (fun _ => rfl)
     (fun pre W => Below W7.heap.size W7 W ∧ stepsNone all c ss (pre.map Subtype.val))
     (fun cc pre W => cc = .exit 2 ∧ ∃ (y : Way) (lv' : Value),y ∈ e.wall m ∧ stepOk all c ss y ∧ PL e s gh vb b7 ab (b7 + 1) (b7 + 2) M w W all lv' (ws ++ [y]) y.t ∧ Chg (fun k => k = s + 1 ∨ k = b7 + 1 ∨ lv.ownBlock = some k) W7 W)
     (fun pre W W' row h hg hr => ⟨h.1.grown hg h.1.size (fun r e => (hr r e).1),h.2⟩)
     (fun cc pre W W' row h hg hr => by
      obtain ⟨h0,y,lv',h1,h2,h3,h4⟩ := h
      exact ⟨h0,y,lv',h1,h2,h3.grown hg (fun r e => ⟨by have := (hr r e).1;omega,(hr r e).2⟩),h4.trans (Chg.of_grown (ex := fun k => W7.heap.size ≤ k) hg (fun r e => (hr r e).1)) (fun i hi hx => by omega)⟩)
     ⟨Below.refl _ _,fun y hy => by simp at hy⟩
     (fun y a' W => ∃ Bb,W7.heap.size ≤ Bb ∧ (Row W Bb 59 [.int .i64 y.1.k,.int .i64 y.1.p,.int .u64 (y.1.t : Int),.int .i64 y.1.c]) ∧ a'.tmps.size = 71 ∧ a'.tmps.getD 2 undef = .pointer (some ⟨s + 1,0,none⟩) ∧ a'.tmps.getD 7 undef = .pointer (some ⟨b7,0,none⟩) ∧ a'.tmps.getD 8 undef = .pointer (some ⟨b7 + 1,0,none⟩) ∧ a'.tmps.getD 9 undef = .pointer (some ⟨Bb,0,none⟩) ∧ a'.defers = [])
     (fun y a' _ X' Y' row hs hg hr' => by
      obtain ⟨Bb,h0,h1,h2⟩ := hs
      exact ⟨Bb,h0,(grownBy_keeps_cells hg (fun r e => (hr' r e).2) h1 rfl).trans h1,h2⟩)
     ?assign ?body ?done ?stop
    case assign =>
     rintro lo pre y W K hI hK
     gi_wp2
     exact hK _ _ ((KeepsOthers.alloc _ _).from _) ((KeepQ.refl _).alloc _) ⟨hI.1.alloc hI.1.size _,hI.2⟩ ⟨W.heap.size,hI.1.size,Row.new W _ _,rfl,rfl,rfl,rfl,rfl,rfl⟩
    case body =>
     rintro lo pre ⟨⟨yk,yp,yt,yc⟩,hy⟩ a' W hlo _ hI ⟨Bb,hBb,hRb,h71,e2,e7,e8,e9,hdf⟩ hlen
     obtain ⟨T2,ds2⟩ := a'
     dsimp only at h71 e2 e7 e8 e9 hdf hRb
     subst hdf
     obtain ⟨v2,hT,hv⟩ := arr_fun T2 71 h71
     have e' : ((List.range 71).map v2).toArray = #[v2 0,v2 1,v2 2,v2 3,v2 4,v2 5,v2 6,v2 7,v2 8,v2 9,v2 10,v2 11,v2 12,v2 13,v2 14,v2 15,v2 16,v2 17,v2 18,v2 19,v2 20,v2 21,v2 22,v2 23,v2 24,v2 25,v2 26,v2 27,v2 28,v2 29,v2 30,v2 31,v2 32,v2 33,v2 34,v2 35,v2 36,v2 37,v2 38,v2 39,v2 40,v2 41,v2 42,v2 43,v2 44,v2 45,v2 46,v2 47,v2 48,v2 49,v2 50,v2 51,v2 52,v2 53,v2 54,v2 55,v2 56,v2 57,v2 58,v2 59,v2 60,v2 61,v2 62,v2 63,v2 64,v2 65,v2 66,v2 67,v2 68,v2 69,v2 70] := rfl
     rw [show v2 2 = _ from (hv 2).symm.trans e2,show v2 7 = _ from (hv 7).symm.trans e7,show v2 8 = _ from (hv 8).symm.trans e8,show v2 9 = _ from (hv 9).symm.trans e9] at e'
     rw [hT,e']
     obtain ⟨t1,t2,t3,t4⟩ := HOK.out.tt m HML.out.1 _ hy
     have t1 : yt < M := by rw [← HM.out];exact t1
     have t2 : 0 ≤ yc := t2
     have t3 : yc ≤ 1048576 := t3
     have hP := hP7.below hI.1
     have c7 := hP.r7.cell (i := 0) rfl
     have h8 := hP.r8
     rw [HMC.out] at h8
     have p1 : W.cell? ⟨b7 + 1,1,none⟩ = some (.int .i64 c) := h8.cell (i := 1) rfl
     have p2 : W.cell? ⟨b7 + 1,2,none⟩ = some (.int .i64 ss) := h8.cell (i := 2) rfl
     have b2 := hRb.cell (i := 2) rfl
     have b3 := hRb.cell (i := 3) rfl
     obtain ⟨x0,x1,x2⟩ := hP.ra.cell (k := yt) (by rw [HAL.out];exact t1)
     have hyi := HFI.out.idx yt (by rw [HM.out];exact t1)
     obtain ⟨C2,hC2⟩ : ∃ C,(all.getD yt dE).c = C := ⟨_,rfl⟩
     obtain ⟨S2,hS2⟩ : ∃ C,(all.getD yt dE).s = C := ⟨_,rfl⟩
     rw [hyi] at x0
     rw [hC2] at x1
     rw [hS2] at x2
     have HC2 : Hid (all.getD yt dE = ⟨yt,C2,S2⟩) := by
      show all.getD yt dE = ⟨yt,C2,S2⟩
      cases hh : all.getD yt dE with
      | mk a b c' => rw [hh] at hyi hC2 hS2;simp only at hyi hC2 hS2;rw [hyi,hC2,hS2]
     have i0 : (0 : Int) ≤ (yt : Int) := by omega
     have i1 : (yt : Int) < (M : Int) := by omega
     have HIB := Lib.hid (And.intro hI (And.intro hP hRb))
     have HYY := Lib.hid hy
     have HNM : Hid (¬ stepOk all c ss ⟨yk,yp,yt,yc⟩ → stepsNone all c ss ((pre ++ [(⟨⟨yk,yp,yt,yc⟩,hy⟩ : {y : Way // y ∈ e.wall m})]).map Subtype.val)) := fun hn y hy => by
      rw [List.map_append,List.mem_append] at hy
      rcases hy with hy | hy
      ·exact hI.2 y hy
      ·rw [List.map_singleton,List.mem_singleton] at hy
       rw [hy];exact hn
     have HSO : Hid (stepOk all c ss ⟨yk,yp,yt,yc⟩ ↔ (0 ≤ C2 ∧ C2 + yc = c ∧ S2 + 1 = ss)) := by
      show _ ↔ _
      unfold stepOk stl
      show (0 ≤ (all.getD yt dE).c ∧ (all.getD yt dE).c + yc = c ∧ (all.getD yt dE).s + 1 = ss) ↔ _
      rw [hC2,hS2]
     have hst2 : 0 ≤ C2 → C2 ≤ 67108864 ∧ S2 < 64 ∧ 0 ≤ S2 := fun h => by
      have hs' : stl all yt := by unfold stl;rw [hC2];exact h
      have hj := HFI.out.jst yt (by rw [HM.out];exact t1) hs'
      have hcb := hj.cb
      have hs0' := hj.s0
      have hsk := HFI.out.sk yt (by rw [HM.out];exact t1) hs'
      rw [hC2,hS2] at hcb
      rw [hS2] at hs0' hsk
      omega
     have l1 : Bb < W.heap.size := hRb.lt
     have l2 : b7 + 1 < W.heap.size := h8.lt
     clear hT hv e' e2 e7 e8 e9 h71 hyi hC2 hS2 hI hP hRb h8 t4
     by_cases hk2 : 0 ≤ C2
     ·obtain ⟨g1,g2,g3⟩ := hst2 hk2
      clear hst2
      by_cases hk3 : C2 + yc = c
      ·have q3 : (C2 + yc == c) = true := by simp [hk3]
       by_cases hk4 : S2 + 1 = ss
       ·have q4 : (S2 + 1 == ss) = true := by simp [hk4]
        have hso : stepOk all c ss ⟨yk,yp,yt,yc⟩ := HSO.out.2 ⟨hk2,hk3,hk4⟩
        have HS9 := Lib.hid hso
        clear hk3 hk4 HNM HSO hso
        gi_wp2_with fail
        clear x0 x1 x2 c7 p1 p2 b2 b3 i0 i1
        have hP1 : PL e s gh vb b7 ab (b7 + 1) (b7 + 2) M w (W.alloc (.cells #[.int .u64 (yt : Int),.int .i64 C2,.int .i64 S2] 54)) all lv ws m := HIB.out.2.1.below ((Below.refl _ _).alloc (Nat.le_refl _) _)
        have hR1 : Row (W.alloc (.cells #[.int .u64 (yt : Int),.int .i64 C2,.int .i64 S2] 54)) Bb 59 [.int .i64 yk,.int .i64 yp,.int .u64 (yt : Int),.int .i64 yc] := HIB.out.2.2.alloc _
        obtain ⟨zb,hzb⟩ : ∃ z,W.heap.size = z := ⟨_,rfl⟩
        have hX1 : Row (W.alloc (.cells #[.int .u64 (yt : Int),.int .i64 C2,.int .i64 S2] 54)) zb 54 [.int .u64 (yt : Int),.int .i64 C2,.int .i64 S2] := by rw [← hzb];exact Row.new W _ _
        have hk1 : Below W.heap.size W (W.alloc (.cells #[.int .u64 (yt : Int),.int .i64 C2,.int .i64 S2] 54)) := (Below.refl _ _).alloc (Nat.le_refl _) _
        have hb1 : Below W7.heap.size W7 (W.alloc (.cells #[.int .u64 (yt : Int),.int .i64 C2,.int .i64 S2] 54)) := HIB.out.1.1.alloc HIB.out.1.1.size _
        rw [hzb]
        generalize (W.alloc (.cells #[.int .u64 (yt : Int),.int .i64 C2,.int .i64 S2] 54)) = W1 at hP1 hR1 hX1 hk1 hb1 ⊢
        have HK1 := Lib.hid hk1
        have HB1 := Lib.hid hb1
        have HP1 := Lib.hid hP1
        have HR1 := Lib.hid hR1
        have HX1 := Lib.hid hX1
        have HZ1 : Hid (b7 + 2 ≤ zb) := by show _ ≤ _;rw [← hzb];have := HIB.out.1.1.size;omega
        clear hP1 hR1 hX1 hk1 hb1 hzb l1 l2
        obtain ⟨A,n1,cp,hlv⟩ : ∃ A n1 cp,lv = .slice A n1 cp := by
         rcases HP1.out.rl.2 with ⟨h1,_⟩ | ⟨g,cap,cur,h1,_⟩
         ·exact ⟨_,_,_,h1⟩
         ·exact ⟨_,_,_,h1⟩
        subst hlv
        rename_i Kz Qz hKz
        refine wpIn_region_treeM (fun w' => Row w' Bb 59 [.int .i64 yk,.int .i64 yp,.int .u64 (yt : Int),.int .i64 yc] ∧ Row w' zb 54 [.int .u64 (yt : Int),.int .i64 C2,.int .i64 S2]) (.take 1 (.take 2 (.take 5 (.two 0 (.one 3 (.one 4 (.one 6 (.one 7 .done)))) 3 (.one 0 (.one 4 (.one 6 (.one 7 .done)))))))) (by kernel_rfl) (by kernel_rfl) (by kernel_rfl) (by kernel_rfl) (by kernel_rfl) ⟨HR1.out,HX1.out⟩ ?_
        have c2 : W1.drew.cell? ⟨s + 1,0,none⟩ = some (.slice A n1 cp) := HP1.out.r2.cell (i := 0) rfl
        iterate 3 (refine wpOTI_take rfl _ (by rfl) (fun _ => rfl) (by intro w' hS;obtain ⟨hB,hX⟩ := hS;have d0 := hB.cell (i := 0) rfl;have d1 := hB.cell (i := 1) rfl;have y0 := hX.cell (i := 0) rfl;have y1 := hX.cell (i := 1) rfl;have y2 := hX.cell (i := 2) rfl;go_simp;try with_reducible rfl) fun KK hKK => ?_;go_simp;refine hKK _ ?_;clear hKK KK)
        refine wpOTI_two rfl (by rfl) rfl (by rfl) (fun KK hKK => ?_) (fun KK hKK => ?_)
        ·go_simp
         refine hKK _ _ ⟨HR1.out,HX1.out⟩ ?_
         clear hKK KK
         refine wpOTI_one rfl (by rfl) fun KK hKK => ?_
         go_simp
         refine hKK _ _ ⟨HR1.out.alloc _,HX1.out.alloc _⟩ ?_
         clear hKK KK
         obtain ⟨nb,hnb⟩ : ∃ z,W1.heap.size = z := ⟨_,rfl⟩
         have hP2 : PL e s gh vb b7 ab (b7 + 1) (b7 + 2) M w ((W1.alloc (.cells #[.int .i64 yk,.int .i64 yp] 40)).drew) all (.slice A n1 cp) ws m := HP1.out.below (((Below.refl _ _).alloc (Nat.le_refl _) _).drew)
         have hN2 : Row ((W1.alloc (.cells #[.int .i64 yk,.int .i64 yp] 40)).drew) nb 40 [.int .i64 yk,.int .i64 yp] := by rw [← hnb];exact Row.new W1 _ _
         have hR2 : Row ((W1.alloc (.cells #[.int .i64 yk,.int .i64 yp] 40)).drew) Bb 59 [.int .i64 yk,.int .i64 yp,.int .u64 (yt : Int),.int .i64 yc] := HR1.out.alloc _
         have hX2 : Row ((W1.alloc (.cells #[.int .i64 yk,.int .i64 yp] 40)).drew) zb 54 [.int .u64 (yt : Int),.int .i64 C2,.int .i64 S2] := HX1.out.alloc _
         have hk2 : Below W1.heap.size W1 ((W1.alloc (.cells #[.int .i64 yk,.int .i64 yp] 40)).drew) := ((Below.refl _ _).alloc (Nat.le_refl _) _).drew
         rw [hnb]
         generalize (W1.alloc (.cells #[.int .i64 yk,.int .i64 yp] 40)).drew = W2 at hP2 hN2 hR2 hX2 hk2 ⊢
         clear hnb c2
         have hlen := Pth.len HPT.out.1
         have hS0 := HFI.out.sk MM (by rw [HM.out];exact hmM) HST.out
         have hwl : ws.length < 64 := by rw [HMC1.out.2] at hlen;omega
         clear hlen hS0
         refine wpOTI_one rfl (by rfl) fun KK hKK => ?_
         refine wpIn_append_rd (.tmp 63) (.tmp 66) 29 rfl (b7 + 2) 40 _ (.agg #[.int .i64 0,.int .i64 0]) 2 16 Tryz.underlying29 rfl rfl rfl rfl rfl (by omega) (.slice A n1 cp) ws.length (stageCells ws) (by rfl) hP2.rl W2.heap.size (some ⟨nb,0,none⟩) 1 1 [.int .i64 yk,.int .i64 yp] (by rfl) ⟨rfl,fun _ => ⟨nb,0,rfl,hN2.lt,fun i v hiv => hN2.cell (i := 0 + i) (by rw [Nat.zero_add];exact hiv)⟩⟩ (by intro u hu;simp at hu;rcases hu with rfl | rfl <;> rfl) (by unfold maxLen;omega) (by omega) hP2.ord.2.2.2.2.2.2.2.2.2.2.2.2.2.2 ?_
         intro v' w3 ho3 hg3 hor3
         obtain ⟨g',cap',rfl⟩ := ownsRow_succ ho3
         go_simp
         have hgB : ∀ g,(Value.slice A n1 cp).ownBlock = some g → b7 + 2 ≤ g := fun g hg => (hP2.rl.lt g hg).1
         have hne : ∀ k,k < b7 + 2 → some k ≠ (Value.slice A n1 cp).ownBlock := fun k hk e' => by have := hgB k e'.symm;omega
         have hoc : ∀ k,(Value.slice A n1 cp).ownBlock = some k → ∃ cur,W2.heap[k]? = some (.cells cur 40 (0,0)) := fun k hk => by
          rcases hP2.rl.2 with ⟨h1,_⟩ | ⟨g,cap,cur,h1,h2,h3,_⟩
          ·rw [h1] at hk;cases hk
          ·rw [h1] at hk;cases hk;exact ⟨cur,h3⟩
         have hnt : ∀ {k : Nat} {t : TypeId} {cs : List Value},Row W2 k t cs → t ≠ 40 → some k ≠ (Value.slice A n1 cp).ownBlock := fun hr ht e' => by
          obtain ⟨cur,hc⟩ := hoc _ e'.symm
          rw [show W2.heap[_]? = _ from hr] at hc
          cases hc
          exact ht rfl
         have hR3 : Row w3 Bb 59 [.int .i64 yk,.int .i64 yp,.int .u64 (yt : Int),.int .i64 yc] := hR2.grown hg3 (hnt hR2 (by decide))
         have hX3 : Row w3 zb 54 [.int .u64 (yt : Int),.int .i64 C2,.int .i64 S2] := hX2.grown hg3 (hnt hX2 (by decide))
         have hL3 : Row w3 (s + 1) 29 [.slice A n1 cp] := hP2.r2.grown hg3 (hne _ (by omega))
         have h83 : Row w3 (b7 + 1) 54 [.int .u64 (m : Int),.int .i64 c,.int .i64 ss] := by
          have := hP2.r8.grown hg3 (hne _ (by omega))
          rwa [HMC.out] at this
         refine hKK _ _ ⟨hR3,hX3⟩ ?_
         clear hKK KK
         have c3 := hL3.cell (i := 0) rfl
         have f3 := hL3.frozen 0
         have hBz : s + 1 < Bb ∧ b7 + 2 ≤ zb := ⟨by omega,HZ1.out⟩
         have HS3 := Lib.hid (And.intro hP2 (And.intro ho3 (And.intro hg3 (And.intro hk2 (And.intro hoc hBz)))))
         have HR3 := Lib.hid (And.intro hR3 (And.intro hX3 h83))
         clear hP2 ho3 hg3 hor3 hk2 hoc hgB hne hnt hR2 hX2 hN2 hR3 hX3 hL3 h83
         refine wpOTI_one rfl (by rfl) fun KK hKK => ?_
         go_simp
         obtain ⟨r1,r2,r3⟩ := HR3.out
         obtain ⟨z1,z2'⟩ := HS3.out.2.2.2.2.2
         have e1 : Row (w3.setCell ⟨s + 1,0,none⟩ (.slice (some ⟨g',0,none⟩) (ws.length + 1) cap')) Bb 59 [.int .i64 yk,.int .i64 yp,.int .u64 (yt : Int),.int .i64 yc] := (Chg.set w3 (s + 1) 0 _).row r1 (by omega)
         have e2 : Row (w3.setCell ⟨s + 1,0,none⟩ (.slice (some ⟨g',0,none⟩) (ws.length + 1) cap')) zb 54 [.int .u64 (yt : Int),.int .i64 C2,.int .i64 S2] := (Chg.set w3 (s + 1) 0 _).row r2 (by omega)
         have e3 : Row (w3.setCell ⟨s + 1,0,none⟩ (.slice (some ⟨g',0,none⟩) (ws.length + 1) cap')) (b7 + 1) 54 [.int .u64 (m : Int),.int .i64 c,.int .i64 ss] := (Chg.set w3 (s + 1) 0 _).row r3 (by omega)
         refine hKK _ _ ⟨e1,e2⟩ ?_
         clear hKK KK
         refine wpOTI_one rfl (by rfl) fun KK hKK => ?_
         refine wpIn_store_row 54 (.tmp 8) (.tmp 68) rfl (b7 + 1) 54 _ [.int .u64 (yt : Int),.int .i64 C2,.int .i64 S2] (by rfl) (by rfl) e3 rfl (by kernel_rfl) (by intro u hu;simp at hu;rcases hu with rfl | rfl | rfl <;> rfl) ?_
         intro w4 hr4 hg4
         go_simp
         refine hKK _ _ ⟨e1.grown hg4 (fun e' => by have := Option.some.inj e';omega),e2.grown hg4 (fun e' => by have := Option.some.inj e';omega)⟩ ?_
         clear hKK KK
         have HR4 := Lib.hid (And.intro hr4 hg4)
         clear e1 e2 e3 r1 r2 r3 hr4 hg4 c3 f3 z1 z2'
         refine wpOTI_done ?_
         show Kz _ _
         refine hKz _ _ ?_
         go_simp
         gi_wp2_with fail
         obtain ⟨u1,u2,u3,u4,u5,u6⟩ := HS3.out
         obtain ⟨v3,v4⟩ := HR4.out
         have hst := PL.step (y := ⟨yk,yp,yt,yc⟩) u1 u3 u2 rfl v4 (by rw [HC2.out];exact v3)
         have hc1 : Chg (fun k => k = s + 1 ∨ k = b7 + 1 ∨ (Value.slice A n1 cp).ownBlock = some k) W w4 :=
          (Chg.of_below HK1.out).trans ((Chg.of_below (ex := fun k => k = s + 1 ∨ k = b7 + 1 ∨ (Value.slice A n1 cp).ownBlock = some k) u4).trans hst.2 (fun _ _ h => h)) (fun _ _ h => h)
         have hc7 : Chg (fun k => k = s + 1 ∨ k = b7 + 1 ∨ (Value.slice A n1 cp).ownBlock = some k) W7 w4 := (Chg.of_below HIB.out.1.1).trans hc1 (fun _ _ h => h)
         refine ⟨chg_keepsFrom hc1 ?_,rfl,⟨yk,yp,yt,yc⟩,_,HYY.out,HS9.out,hst.1,hc7⟩
         rintro k' (rfl | rfl | e') o' ho'
         ·rw [show W.heap[s + 1]? = _ from HIB.out.2.1.r2] at ho';cases ho';rfl
         ·rw [show W.heap[b7 + 1]? = _ from HIB.out.2.1.r8] at ho';cases ho';rfl
         ·rcases HIB.out.2.1.rl.2 with ⟨h1,_⟩ | ⟨g,cap,cur,h1,h2,h3,_⟩
          ·rw [h1] at e';cases e'
          ·rw [h1] at e';cases e';rw [h3] at ho';cases ho';rfl
        ·go_simp
         refine hKK _ _ ⟨HR1.out.alloc _,HX1.out.alloc _⟩ ?_
         clear hKK KK
         have c2 : (W1.alloc (.cells #[.int .i64 yk,.int .i64 yp] 40)).drew.cell? ⟨s + 1,0,none⟩ = some (.slice A n1 cp) := (HP1.out.r2.alloc _).cell (i := 0) rfl
         refine wpOTI_one rfl (by rfl) fun KK hKK => ?_
         go_simp
         refine hKK _ _ ⟨HR1.out.alloc _,HX1.out.alloc _⟩ ?_
         clear hKK KK
         obtain ⟨nb,hnb⟩ : ∃ z,W1.heap.size = z := ⟨_,rfl⟩
         have hP2 : PL e s gh vb b7 ab (b7 + 1) (b7 + 2) M w ((W1.alloc (.cells #[.int .i64 yk,.int .i64 yp] 40)).drew) all (.slice A n1 cp) ws m := HP1.out.below (((Below.refl _ _).alloc (Nat.le_refl _) _).drew)
         have hN2 : Row ((W1.alloc (.cells #[.int .i64 yk,.int .i64 yp] 40)).drew) nb 40 [.int .i64 yk,.int .i64 yp] := by rw [← hnb];exact Row.new W1 _ _
         have hR2 : Row ((W1.alloc (.cells #[.int .i64 yk,.int .i64 yp] 40)).drew) Bb 59 [.int .i64 yk,.int .i64 yp,.int .u64 (yt : Int),.int .i64 yc] := HR1.out.alloc _
         have hX2 : Row ((W1.alloc (.cells #[.int .i64 yk,.int .i64 yp] 40)).drew) zb 54 [.int .u64 (yt : Int),.int .i64 C2,.int .i64 S2] := HX1.out.alloc _
         have hk2 : Below W1.heap.size W1 ((W1.alloc (.cells #[.int .i64 yk,.int .i64 yp] 40)).drew) := ((Below.refl _ _).alloc (Nat.le_refl _) _).drew
         rw [hnb]
         generalize (W1.alloc (.cells #[.int .i64 yk,.int .i64 yp] 40)).drew = W2 at hP2 hN2 hR2 hX2 hk2 ⊢
         clear hnb c2
         have hlen := Pth.len HPT.out.1
         have hS0 := HFI.out.sk MM (by rw [HM.out];exact hmM) HST.out
         have hwl : ws.length < 64 := by rw [HMC1.out.2] at hlen;omega
         clear hlen hS0
         refine wpOTI_one rfl (by rfl) fun KK hKK => ?_
         refine wpIn_append_rd (.tmp 63) (.tmp 66) 29 rfl (b7 + 2) 40 _ (.agg #[.int .i64 0,.int .i64 0]) 2 16 Tryz.underlying29 rfl rfl rfl rfl rfl (by omega) (.slice A n1 cp) ws.length (stageCells ws) (by rfl) hP2.rl W2.heap.size (some ⟨nb,0,none⟩) 1 1 [.int .i64 yk,.int .i64 yp] (by rfl) ⟨rfl,fun _ => ⟨nb,0,rfl,hN2.lt,fun i v hiv => hN2.cell (i := 0 + i) (by rw [Nat.zero_add];exact hiv)⟩⟩ (by intro u hu;simp at hu;rcases hu with rfl | rfl <;> rfl) (by unfold maxLen;omega) (by omega) hP2.ord.2.2.2.2.2.2.2.2.2.2.2.2.2.2 ?_
         intro v' w3 ho3 hg3 hor3
         obtain ⟨g',cap',rfl⟩ := ownsRow_succ ho3
         go_simp
         have hgB : ∀ g,(Value.slice A n1 cp).ownBlock = some g → b7 + 2 ≤ g := fun g hg => (hP2.rl.lt g hg).1
         have hne : ∀ k,k < b7 + 2 → some k ≠ (Value.slice A n1 cp).ownBlock := fun k hk e' => by have := hgB k e'.symm;omega
         have hoc : ∀ k,(Value.slice A n1 cp).ownBlock = some k → ∃ cur,W2.heap[k]? = some (.cells cur 40 (0,0)) := fun k hk => by
          rcases hP2.rl.2 with ⟨h1,_⟩ | ⟨g,cap,cur,h1,h2,h3,_⟩
          ·rw [h1] at hk;cases hk
          ·rw [h1] at hk;cases hk;exact ⟨cur,h3⟩
         have hnt : ∀ {k : Nat} {t : TypeId} {cs : List Value},Row W2 k t cs → t ≠ 40 → some k ≠ (Value.slice A n1 cp).ownBlock := fun hr ht e' => by
          obtain ⟨cur,hc⟩ := hoc _ e'.symm
          rw [show W2.heap[_]? = _ from hr] at hc
          cases hc
          exact ht rfl
         have hR3 : Row w3 Bb 59 [.int .i64 yk,.int .i64 yp,.int .u64 (yt : Int),.int .i64 yc] := hR2.grown hg3 (hnt hR2 (by decide))
         have hX3 : Row w3 zb 54 [.int .u64 (yt : Int),.int .i64 C2,.int .i64 S2] := hX2.grown hg3 (hnt hX2 (by decide))
         have hL3 : Row w3 (s + 1) 29 [.slice A n1 cp] := hP2.r2.grown hg3 (hne _ (by omega))
         have h83 : Row w3 (b7 + 1) 54 [.int .u64 (m : Int),.int .i64 c,.int .i64 ss] := by
          have := hP2.r8.grown hg3 (hne _ (by omega))
          rwa [HMC.out] at this
         refine hKK _ _ ⟨hR3,hX3⟩ ?_
         clear hKK KK
         have c3 := hL3.cell (i := 0) rfl
         have f3 := hL3.frozen 0
         have hBz : s + 1 < Bb ∧ b7 + 2 ≤ zb := ⟨by omega,HZ1.out⟩
         have HS3 := Lib.hid (And.intro hP2 (And.intro ho3 (And.intro hg3 (And.intro hk2 (And.intro hoc hBz)))))
         have HR3 := Lib.hid (And.intro hR3 (And.intro hX3 h83))
         clear hP2 ho3 hg3 hor3 hk2 hoc hgB hne hnt hR2 hX2 hN2 hR3 hX3 hL3 h83
         refine wpOTI_one rfl (by rfl) fun KK hKK => ?_
         go_simp
         obtain ⟨r1,r2,r3⟩ := HR3.out
         obtain ⟨z1,z2'⟩ := HS3.out.2.2.2.2.2
         have e1 : Row (w3.setCell ⟨s + 1,0,none⟩ (.slice (some ⟨g',0,none⟩) (ws.length + 1) cap')) Bb 59 [.int .i64 yk,.int .i64 yp,.int .u64 (yt : Int),.int .i64 yc] := (Chg.set w3 (s + 1) 0 _).row r1 (by omega)
         have e2 : Row (w3.setCell ⟨s + 1,0,none⟩ (.slice (some ⟨g',0,none⟩) (ws.length + 1) cap')) zb 54 [.int .u64 (yt : Int),.int .i64 C2,.int .i64 S2] := (Chg.set w3 (s + 1) 0 _).row r2 (by omega)
         have e3 : Row (w3.setCell ⟨s + 1,0,none⟩ (.slice (some ⟨g',0,none⟩) (ws.length + 1) cap')) (b7 + 1) 54 [.int .u64 (m : Int),.int .i64 c,.int .i64 ss] := (Chg.set w3 (s + 1) 0 _).row r3 (by omega)
         refine hKK _ _ ⟨e1,e2⟩ ?_
         clear hKK KK
         refine wpOTI_one rfl (by rfl) fun KK hKK => ?_
         refine wpIn_store_row 54 (.tmp 8) (.tmp 68) rfl (b7 + 1) 54 _ [.int .u64 (yt : Int),.int .i64 C2,.int .i64 S2] (by rfl) (by rfl) e3 rfl (by kernel_rfl) (by intro u hu;simp at hu;rcases hu with rfl | rfl | rfl <;> rfl) ?_
         intro w4 hr4 hg4
         go_simp
         refine hKK _ _ ⟨e1.grown hg4 (fun e' => by have := Option.some.inj e';omega),e2.grown hg4 (fun e' => by have := Option.some.inj e';omega)⟩ ?_
         clear hKK KK
         have HR4 := Lib.hid (And.intro hr4 hg4)
         clear e1 e2 e3 r1 r2 r3 hr4 hg4 c3 f3 z1 z2'
         refine wpOTI_done ?_
         show Kz _ _
         refine hKz _ _ ?_
         go_simp
         gi_wp2_with fail
         obtain ⟨u1,u2,u3,u4,u5,u6⟩ := HS3.out
         obtain ⟨v3,v4⟩ := HR4.out
         have hst := PL.step (y := ⟨yk,yp,yt,yc⟩) u1 u3 u2 rfl v4 (by rw [HC2.out];exact v3)
         have hc1 : Chg (fun k => k = s + 1 ∨ k = b7 + 1 ∨ (Value.slice A n1 cp).ownBlock = some k) W w4 :=
          (Chg.of_below HK1.out).trans ((Chg.of_below (ex := fun k => k = s + 1 ∨ k = b7 + 1 ∨ (Value.slice A n1 cp).ownBlock = some k) u4).trans hst.2 (fun _ _ h => h)) (fun _ _ h => h)
         have hc7 : Chg (fun k => k = s + 1 ∨ k = b7 + 1 ∨ (Value.slice A n1 cp).ownBlock = some k) W7 w4 := (Chg.of_below HIB.out.1.1).trans hc1 (fun _ _ h => h)
         refine ⟨chg_keepsFrom hc1 ?_,rfl,⟨yk,yp,yt,yc⟩,_,HYY.out,HS9.out,hst.1,hc7⟩
         rintro k' (rfl | rfl | e') o' ho'
         ·rw [show W.heap[s + 1]? = _ from HIB.out.2.1.r2] at ho';cases ho';rfl
         ·rw [show W.heap[b7 + 1]? = _ from HIB.out.2.1.r8] at ho';cases ho';rfl
         ·rcases HIB.out.2.1.rl.2 with ⟨h1,_⟩ | ⟨g,cap,cur,h1,h2,h3,_⟩
          ·rw [h1] at e';cases e'
          ·rw [h1] at e';cases e';rw [h3] at ho';cases ho';rfl
       ·have q4 : (S2 + 1 == ss) = false := by simp [hk4]
        have HNO := Lib.hid (HNM.out (fun h => hk4 (HSO.out.1 h).2.2))
        clear hk3 hk4 HNM HSO
        gi_wp2_with fail
        exact ⟨(KeepsOthers.alloc _ _).from _,(KeepQ.refl _).alloc _,HIB.out.1.1.alloc HIB.out.1.1.size _,HNO.out⟩
      ·have q3 : (C2 + yc == c) = false := by simp [hk3]
       have HNO := Lib.hid (HNM.out (fun h => hk3 (HSO.out.1 h).2.1))
       clear hk3 HNM HSO
       gi_wp2_with fail
       exact ⟨(KeepsOthers.alloc _ _).from _,(KeepQ.refl _).alloc _,HIB.out.1.1.alloc HIB.out.1.1.size _,HNO.out⟩
     ·have HNO := Lib.hid (HNM.out (fun h => hk2 (HSO.out.1 h).1))
      clear HNM HSO hst2
      gi_wp2_with fail
      exact ⟨(KeepsOthers.alloc _ _).from _,(KeepQ.refl _).alloc _,HIB.out.1.1.alloc HIB.out.1.1.size _,HNO.out⟩
    case done =>
     rintro Dm ys W hDm hys hI hK
     exfalso
     rcases HJS.out.wy with ⟨h1,_⟩ | ⟨y,h1,h2,h3,h4,h5⟩
     ·rw [HMC1.out.2] at h1;omega
     ·rw [HFI.out.idx m HML.out.1] at h1
      rw [HMC1.out.1] at h4
      rw [HMC1.out.2] at h5
      exact hI.2 y (by rw [show ys.map Subtype.val = _ from hys];exact h1) ⟨h3,h4,h5⟩
    case stop =>
     rintro Dm cc pre W hDm hpre ⟨hcc,y,lv',hy,hso,hP,hch⟩ hD
     subst hcc
     have HSP := Lib.hid (And.intro hDm (And.intro hy (And.intro hso (And.intro hP (And.intro hch hD)))))
     clear hDm hpre hy hso hP hch hD
     gi_wp2_with fail
     obtain ⟨q1,q2,q3,q4,q5,q6⟩ := HSP.out
     rw [HJ.out]
     refine ⟨(all.getD y.t dE).s.toNat,?_,ws ++ [y],y.t,lv',rfl,rfl,rfl,rfl,rfl,rfl,?_,q4,?_,rfl⟩
     ·have h1 := HPT.out.2
      have h2 := q3.2.2
      rw [HMC1.out.2] at h1
      omega
     ·refine (hM7.chg q5 ?_ (Nat.le_refl _)).cons (by omega) q1 (heap_lt q6) q6
      rintro k' (rfl | rfl | e') o' ho'
      ·rw [show W7.heap[s + 1]? = _ from hP7.r2] at ho';cases ho';rfl
      ·rw [show W7.heap[b7 + 1]? = _ from hP7.r8] at ho';cases ho';rfl
      ·rcases hP7.rl.2 with ⟨h1,_⟩ | ⟨g,cap,cur,h1,h2,h3,_⟩
       ·rw [h1] at e';cases e'
       ·rw [h1] at e';cases e';rw [h3] at ho';cases ho';rfl
     ·exact Pth.snoc HPT.out.1 q2 q3.1 (by rw [HMC1.out.1];exact q3.2.1) (by rw [HMC1.out.2];exact q3.2.2)
   ·have c2 := HP.out.r2.cell (i := 0) rfl
    have f2 := HP.out.r2.frozen 0
    have HS0 : Hid (ss = 0) := by show _ = _;omega
    obtain ⟨A,n1,cp,hlv⟩ : ∃ A n1 cp,lv = .slice A n1 cp := by
     rcases HP.out.rl.2 with ⟨h1,_⟩ | ⟨g,cap,cur,h1,_⟩
     ·exact ⟨_,_,_,h1⟩
     ·exact ⟨_,_,_,h1⟩
    subst hlv
    gi_wp2_with fail
    have r2 := HP.out.r2.set 0 (.slice A n1 cp)
    have hch := Chg.set wr (s + 1) 0 (.slice A n1 cp)
    have hbl := HP.out.bel.setCell (p := ⟨s + 1,0,none⟩) (by show s ≤ s + 1;omega) (.slice A n1 cp)
    have hB := HP.out.ord
    refine leaves_marks2 ds _ (HMK.out.chg hch (by
     intro k' e' o' ho'
     subst e'
     rw [show wr.heap[s + 1]? = _ from HP.out.r2] at ho';cases ho';rfl) (Nat.le_refl _)) fun w' hb' hc' => ?_
    have hol : (wr.setCell ⟨s + 1,0,none⟩ (.slice A n1 cp)).ownsRow (b7 + 2) 40 2 (.slice A n1 cp) ws.length (stageCells ws) := by
     refine HP.out.rl.kept (row := some (s + 1)) (grownBy_setCell' wr (s + 1) _) ?_
     cases hv : (Value.slice A n1 cp).ownBlock with
     | none => exact .inl rfl
     | some g => right;intro e;have := (HP.out.rl.lt g hv).1;have := Option.some.inj e;omega
    refine ⟨_,results_cell_three rfl _ _ (s + 1) (.slice A n1 cp) (by rfl) ((World.cell?_of_block ((hc' _ _ r2 rfl).trans r2.symm)).trans (r2.cell (i := 0) rfl)) (isAgg_stages _),by rw [HSS.out];exact hbl.trans (hb'.mono (by omega)),all,HFI.out,.inr ⟨.slice A n1 cp,ws,m,by rw [HEQ.out.2.1];exact HST.out,?_,by rw [HEQ.out.2.1];exact HPT.out.1,by rw [HMC.out];exact HS0.out,?_⟩⟩
    ·rw [HEQ.out.2.1,HC0.out];rfl
    ·rw [HSS.out]
     refine ownsRow_mono (b' := b7 + 2) (by omega) ⟨hol.1,?_⟩
     rcases hol.2 with h1 | ⟨g,cap,cur,h1,h2,h3,h4⟩
     ·exact .inl h1
     ·exact .inr ⟨g,cap,cur,h1,h2,hc' _ _ h3 rfl,h4⟩
end Go.Proofs.YtjcpjhlclpdpjaaGreat
