import Derived.Test.YtjcpjhlclpdpjaaGreatS09
set_option linter.unusedVariables false
set_option maxRecDepth 100000
set_option maxHeartbeats 16000000
namespace Go.Proofs.YtjcpjhlclpdpjaaGreat
open Go.RowKit
attribute [local go_sem] Oper.semAt_some
theorem ownsRow_mono {w : World} {b b' : Nat} {e : TypeId} {size : Nat} {v : Value} {n : Nat} {xs : List Value} (h : b ≤ b') (ho : w.ownsRow b' e size v n xs) : w.ownsRow b e size v n xs :=
 ⟨ho.1,ho.2.imp id fun ⟨g,cap,cur,h1,h2,h3⟩ => ⟨g,cap,cur,h1,Nat.le_trans h h2,h3⟩⟩
theorem Fin.le {D : DjE} (ok : D.ok) {all all' : List Ent} (h : Fin D all) (h' : Fin D all') : ∀ (n i : Nat),i < D.M → stl all i → (all.getD i dE).s.toNat = n → stl all' i ∧ (all'.getD i dE).c ≤ (all.getD i dE).c
 | n,i,hi,hs,hn => by
  have hj := h.jst i hi hs
  have hm := h.idx i hi
  rcases hj.wy with ⟨h1,h2,h3⟩ | ⟨w,hw,h1,h2,h3,h4⟩
  ·rw [hm] at h3
   have h5 := h'.lv i hi (by have := hj.sf;rwa [hm] at this) h3
   exact ⟨h5.1,by rw [h2,h5.2.2];exact Int.le_refl _⟩
  ·rw [hm] at hw
   have h0 := (h.jst w.t h1 h2).s0
   have h5 := Fin.le ok h h' (all.getD w.t dE).s.toNat w.t h1 h2 rfl
   have h6 := h'.edge i hi (by have := hj.sf;rwa [hm] at this) w hw h5.1
   exact ⟨h6.1,by omega⟩
termination_by n _ _ _ _ => n
decreasing_by
 have h0 := (h.jst w.t h1 h2).s0
 omega
theorem Fin.cost {D : DjE} (ok : D.ok) {all all' : List Ent} (h : Fin D all) (h' : Fin D all') {i : Nat} (hi : i < D.M) : (all.getD i dE).c = (all'.getD i dE).c := by
 rcases h.cs i hi with h1 | h1
 ·rcases h'.cs i hi with h2 | h2
  ·omega
  ·have h3 := Fin.le ok h' h _ i hi h2 rfl
   have := h3.1
   unfold stl at this
   omega
 ·have h2 := Fin.le ok h h' _ i hi h1 rfl
  have h3 := Fin.le ok h' h _ i hi h2.1 rfl
  omega
theorem prove_any (e : Est) (w : World) (h : e.Fit w) : Calls Tryz.prog 7 #[.agg e.cells.toArray] w fun r w' => ∃ pb cap all,r = .returned (.tuple #[.slice (some ⟨pb,0,none⟩) e.D.M cap,.int .i64 0]) ∧ w.heap.size ≤ pb ∧ w'.ownsRow w.heap.size 3 1 (.slice (some ⟨pb,0,none⟩) e.D.M cap) e.D.M (all.map fun x => .int .i64 x.c) ∧ Fin e.D all ∧ Below w.heap.size w w' := by
 have hX := boxed1 e w
 have HI : Hid ((Tryz.prog.info? 26).map (·.size) = some e.cells.length) := by show _ = _;kernel_rfl
 have HF : Hid (∀ W,Below w.heap.size w W → e.Fit W) := fun W hW => h.below hW
 obtain ⟨CS,hCS⟩ : ∃ CS,e.cells = CS := ⟨_,rfl⟩
 rw [hCS] at HI
 have HCS : Hid (∀ W,Boxed1 e w W → ∀ i v,CS[i]? = some v → W.cell? ⟨w.heap.size,i,none⟩ = some v) := fun W hW i v hv => hW.row i v (by rw [hCS];exact hv)
 obtain ⟨hA,ehA⟩ : ∃ x,e.hA = x := ⟨_,rfl⟩
 obtain ⟨hcc,ehc⟩ : ∃ x,e.hc = x := ⟨_,rfl⟩
 obtain ⟨N,eN⟩ : ∃ x,e.H.length = x := ⟨_,rfl⟩
 obtain ⟨MM,eMM⟩ : ∃ x,e.st e.m.d = x := ⟨_,rfl⟩
 obtain ⟨AM,eAM⟩ : ∃ x,e.st e.a.d = x := ⟨_,rfl⟩
 obtain ⟨nA,enA⟩ : ∃ x,e.n.A = x := ⟨_,rfl⟩
 obtain ⟨nl,enl⟩ : ∃ x,e.n.d.length = x := ⟨_,rfl⟩
 obtain ⟨nc,enc⟩ : ∃ x,e.n.c = x := ⟨_,rfl⟩
 obtain ⟨VN,eVN⟩ : ∃ x,e.V.length = x := ⟨_,rfl⟩
 have HLT : Hid (∀ vb,e.hcells vb = [.slice hA N hcc,.int .u64 (MM : Int),.int .u64 (AM : Int),.slice nA nl nc,.slice (some ⟨vb,0,none⟩) VN VN]) := fun vb => by
  unfold Est.hcells
  rw [ehA,ehc,eN,eMM,eAM,enA,enl,enc,eVN]
 have HEN : Hid (∀ W,Boxed1 e w W → Calls Tryz.prog 13 #[.agg CS.toArray] W fun x w' => ∃ vb,x = .returned (.tuple #[.agg #[.slice hA N hcc,.int .u64 (MM : Int),.int .u64 (AM : Int),.slice nA nl nc,.slice (some ⟨vb,0,none⟩) VN VN],.int .i64 0]) ∧ Row w' vb 45 (e.V.map fun r => .int .u64 ((e.st r.d : Nat) : Int)) ∧ W.heap.size < vb ∧ Below W.heap.size W w') := fun W hW => by
  rw [← hCS]
  refine (Est.enters (h.below hW.bel)).mono ?_
  rintro x w' ⟨vb,rfl,h1⟩
  refine ⟨vb,?_,h1⟩
  rw [HLT.out vb]
 have HEQ : Hid (e.H.length = N ∧ e.st e.m.d = MM ∧ e.st e.a.d = AM) := ⟨eN,eMM,eAM⟩
 have HMP : Hid (2 ≤ e.D.M ∧ e.D.M ≤ 64) := by
  constructor
  ·show 2 ≤ 2 ^ e.H.length
   have h1 := h.right.h1
   exact Nat.le_trans (show 2 ≤ 2 ^ 1 by omega) (Nat.pow_le_pow_right (by omega) h1)
  ·exact pow_le64 h.n
 have HLL : Hid (∀ (W : World) (g vb : Nat),Below w.heap.size w W → g < W.heap.size → Row W g 48 [.slice hA N hcc,.int .u64 (MM : Int),.int .u64 (AM : Int),.slice nA nl nc,.slice (some ⟨vb,0,none⟩) VN VN] → Row W vb 45 (e.V.map fun r => .int .u64 ((e.st r.d : Nat) : Int)) → Calls Tryz.prog 15 #[.pointer (some ⟨g,0,none⟩)] W fun r w' => ∃ ab all,r = .returned (.slice (some ⟨ab,0,none⟩) e.D.M e.D.M) ∧ W.heap.size ≤ ab ∧ QR w' ab e.D.M all ∧ Fin e.D all ∧ Below W.heap.size W w') := fun W g vb hW hg hr hv =>
  Est.leasts (h.below hW) hg (by rw [HLT.out vb];exact hr) hv
 rw [hCS] at hX ⊢
 obtain ⟨M,eM⟩ : ∃ M,e.D.M = M := ⟨_,rfl⟩
 have HM := Lib.hid eM
 rw [eM] at HMP HLL
 clear h hCS ehA ehc eN eMM eAM enA enl enc eVN
 rw [eM]
 clear eM
 have HX := Lib.hid hX
 clear hX
 go_enter Tryz.func7,Tryz.ntmps7
 go_wp2_with (first | (refine wpList_load_cells rfl 26 (.tmp 1) rfl ⟨w.heap.size,0,none⟩ (by rfl) CS _ (fun i v hv => by rw [Addr.add_flat,Nat.zero_add];exact HCS.out _ HX.out i v hv) Tryz.underlying26 (by rfl) HI.out ?_) | fail)
 refine (HEN.out _ HX.out).mono ?_
 rintro x w1 ⟨vb,rfl,hv,hb,hbl⟩
 have hbel1 := (HX.out.next hbl).bel
 obtain ⟨g,hg⟩ : ∃ g,w1.heap.size = g := ⟨_,rfl⟩
 have hR2 : Row (w1.alloc (.cells #[.slice hA N hcc,.int .u64 (MM : Int),.int .u64 (AM : Int),.slice nA nl nc,.slice (some ⟨vb,0,none⟩) VN VN] 48)) g 48 [.slice hA N hcc,.int .u64 (MM : Int),.int .u64 (AM : Int),.slice nA nl nc,.slice (some ⟨vb,0,none⟩) VN VN] := by rw [← hg];exact Row.new w1 _ _
 have hV2 := hv.alloc (.cells #[.slice hA N hcc,.int .u64 (MM : Int),.int .u64 (AM : Int),.slice nA nl nc,.slice (some ⟨vb,0,none⟩) VN VN] 48)
 have hB2 : Below w.heap.size w (w1.alloc (.cells #[.slice hA N hcc,.int .u64 (MM : Int),.int .u64 (AM : Int),.slice nA nl nc,.slice (some ⟨vb,0,none⟩) VN VN] 48)) := hbel1.alloc hbel1.size _
 have HLS := Lib.hid (HLL.out _ g vb hB2 hR2.lt hR2 hV2)
 have HB2 := Lib.hid hB2
 clear hv hb hbl hbel1 hR2 hV2 hB2 HEN
 go_wp2_with fail
 refine HLS.out.mono ?_
 rintro x w2 ⟨ab,all,rfl,hab,hq,hf,hb2⟩
 have hBW : Below w.heap.size w w2 := HB2.out.trans (hb2.mono HB2.out.size)
 have HAL : Hid (all.length = M) := by show _ = _;rw [hf.len,HM.out]
 have HFI := Lib.hid hf
 have HBW := Lib.hid hBW
 have HQ0 := Lib.hid hq
 have HQL := Lib.hid hq.lt
 obtain ⟨m1,m2⟩ := HMP.out
 obtain ⟨B2,hB2⟩ : ∃ B,w2.heap.size = B := ⟨_,rfl⟩
 have HBS : Hid (w2.heap.size = B2) := hB2
 have HQB : Hid (ab < B2) := by show _ < _;rw [← hB2];exact hq.lt
 have HWB : Hid (w.heap.size ≤ B2) := by show _ ≤ _;rw [← hB2];exact hBW.size
 clear hab hq hf hb2 hBW HLS HB2 hg hB2
 obtain ⟨ii,hii,hzz⟩ := Option.map_eq_some_iff.1 (show (Tryz.prog.info? 3).map (fun i => (i.zero,i.size,i.bytes)) = some (some (.int .i64 0),1,8) by kernel_rfl)
 simp only [Prod.mk.injEq] at hzz
 have HII : Hid (Tryz.prog.info? 3 = some ii ∧ ii.zero = some (.int .i64 0) ∧ ii.size = 1 ∧ ii.bytes = 8) := ⟨hii,hzz⟩
 clear hii hzz
 go_wp2_with fail
 go_loopw [2,17] (fun u i wr => ∃ (k : Nat) (v : Value),k ≤ M ∧ i = .int .i64 k ∧ v = u ∧ wr.ownsRow B2 3 1 v k ((all.take k).map fun x => .int .i64 x.c) ∧ Below w.heap.size w wr ∧ QR wr ab M all ∧ B2 ≤ wr.heap.size) (fun _ i _ => M - (intOf i).toNat)
 case atStart => exact ⟨0,_,Nat.zero_le _,rfl,rfl,World.ownsRow_nil _ _ _ _,HBW.out,HQ0.out,by rw [HBS.out];exact Nat.le_refl _⟩
 case round =>
  clear HQ0 HBW HQL
  obtain ⟨k,v,hk,rfl,hvv,hown,hb,hq,hsz⟩ := hrel
  subst hvv
  have HO := Lib.hid hown
  have HB := Lib.hid hb
  have HQ := Lib.hid hq
  clear hown hb hq
  by_cases hlt : k < M
  ·have k1 : (k : Int) < (M : Int) := by omega
   have k0 : (0 : Int) ≤ (k : Int) := by omega
   obtain ⟨x0,x1,x2⟩ := HQ.out.cell (k := k) (by rw [HAL.out];exact hlt)
   have hT : (all.take (k + 1)).map (fun x => Value.int .i64 x.c) = ((all.take k).map fun x => Value.int .i64 x.c) ++ [.int .i64 (all.getD k dE).c] := by
    have hx : all[k]? = some (all.getD k dE) := by rw [List.getD_eq_getElem?_getD,List.getElem?_eq_getElem (by rw [HAL.out];exact hlt)];rfl
    rw [List.take_add_one,hx,List.map_append];rfl
   obtain ⟨em,eem⟩ : ∃ x,(all.getD k dE).m = x := ⟨_,rfl⟩
   obtain ⟨ec,eec⟩ : ∃ x,(all.getD k dE).c = x := ⟨_,rfl⟩
   obtain ⟨es,ees⟩ : ∃ x,(all.getD k dE).s = x := ⟨_,rfl⟩
   rw [eem] at x0
   rw [eec] at x1 hT
   rw [ees] at x2
   have HT := Lib.hid hT
   obtain ⟨XS,hXS⟩ : ∃ X,(all.take k).map (fun x => Value.int .i64 x.c) = X := ⟨_,rfl⟩
   rw [hXS] at HO HT
   obtain ⟨z,hz⟩ : ∃ z,wr.heap.size = z := ⟨_,rfl⟩
   have HZ := Lib.hid hz
   have HRD : Hid (Rd ((wr.alloc (.cells #[.int .u64 (em : Int),.int .i64 ec,.int .i64 es] 54)).alloc (.cells #[.int .i64 ec] 3)) (z + 2) 1 (some ⟨z + 1,0,none⟩) 1 [.int .i64 ec]) := by
    refine ⟨rfl,fun _ => ⟨z + 1,0,rfl,by omega,fun i v hv => ?_⟩⟩
    have h1 := heap_alloc_new (wr.alloc (.cells #[.int .u64 (em : Int),.int .i64 ec,.int .i64 es] 54)) (.cells #[.int .i64 ec] 3)
    rw [World.size_alloc,hz] at h1
    rw [cell_of_row _ (z + 1) (0 + i) _ _ _ h1,Nat.zero_add]
    simpa using hv
   have HOW : Hid (((wr.alloc (.cells #[.int .u64 (em : Int),.int .i64 ec,.int .i64 es] 54)).alloc (.cells #[.int .i64 ec] 3)).ownsRow B2 3 1 v k XS) := (HO.out.alloc _).alloc _
   have HBW2 : Hid (Below w.heap.size w ((wr.alloc (.cells #[.int .u64 (em : Int),.int .i64 ec,.int .i64 es] 54)).alloc (.cells #[.int .i64 ec] 3))) := (HB.out.alloc HB.out.size _).alloc (by have := HB.out.size;simp;omega) _
   have HQW : Hid (QR ((wr.alloc (.cells #[.int .u64 (em : Int),.int .i64 ec,.int .i64 es] 54)).alloc (.cells #[.int .i64 ec] 3)) ab M all) := HQ.out.heap ((Below.heap_alloc _ _ ab (by have := HQ.out.lt;simp;omega)).trans (Below.heap_alloc _ _ ab HQ.out.lt))
   clear eem eec ees hXS hT
   go_wp2_with (refine wpList_append_rd _ rfl (.tmp 21) (.tmp 24) 23 rfl B2 3 ii (.int .i64 0) 1 8 Tryz.underlying23 HII.out.1 HII.out.2.1 HII.out.2.2.1 HII.out.2.2.2 rfl (by decide) v k XS rfl HOW.out (z + 2) (some ⟨z + 1,0,none⟩) 1 1 [.int .i64 ec] rfl HRD.out (by intro u hu;simp at hu;rw [hu];rfl) (by unfold maxLen;omega) (by omega) (by simp;omega) ?_;intro v' w' hown' hgrow' _;have HE := Lib.hid (And.intro hown' hgrow');clear hown' hgrow')
   go_roundw
   case rel =>
    have hr : ∀ g,v.ownBlock = some g → B2 ≤ g := fun g hg => (HOW.out.lt g hg).1
    refine ⟨k + 1,v',by omega,by go_num,rfl,by rw [HT.out];exact HE.out.1,HBW2.out.grown HE.out.2 (by have := HB.out.size;simp;omega) (fun g hg => by have := hr g hg;have := HWB.out;omega),HQW.out.heap (HE.out.2.block ab HQW.out.lt (fun e' => by have := hr ab e'.symm;have := HQB.out;omega)),?_⟩
    have := HE.out.2.size
    simp at this
    omega
   case measure => simp [intOf];omega
  ·obtain rfl : k = M := by omega
   obtain ⟨pb,cap,hv⟩ : ∃ pb cap,v = .slice (some ⟨pb,0,none⟩) k cap := by
    rcases HO.out.2 with ⟨_,h0⟩ | ⟨pb,cap,cur,h1,_⟩
    ·omega
    ·exact ⟨pb,cap,h1⟩
   subst hv
   go_wp2_with fail
   go_ret2
   have h2 := HO.out
   rw [List.take_of_length_le (by rw [HAL.out];exact Nat.le_refl _)] at h2
   have h3 := (h2.lt pb rfl).1
   exact ⟨pb,cap,all,rfl,by have := HWB.out;omega,ownsRow_mono HWB.out h2,HFI.out,HB.out⟩
end Go.Proofs.YtjcpjhlclpdpjaaGreat
namespace Go.Proofs.YtjcpjhlclpdpjaaGreat
open Go.RowKit
attribute [local go_sem] Oper.semAt_some
structure HsAll (e : Est) (g : Nat) (B : Nat) (w : World) : Prop where
 ptr : ∀ W,Below B w W → W.cell? ⟨g,0,none⟩ = some (.slice e.hA e.H.length e.hc) ∧ W.cell? ⟨g,2,none⟩ = some (.int .u64 ((e.st e.a.d : Nat) : Int))
 safe : ∀ (m : Nat) (W : World),m < e.D.M → Below B w W → Calls Tryz.prog 18 #[.pointer (some ⟨g,0,none⟩),.int .u64 (m : Int)] W fun r w' => r = .returned (.bool (e.sf e.D.vs m)) ∧ Below W.heap.size W w'
 enough : ∀ (m : Nat) (W : World),m < e.D.M → Below B w W → Calls Tryz.prog 19 #[.pointer (some ⟨g,0,none⟩),.int .u64 (m : Int),.int .u64 ((e.st e.a.d : Nat) : Int)] W fun r w' => r = .returned (.bool (e.en m e.D.am)) ∧ Drw W w'
 hs : ∀ W,Below B w W → Rd W B 3 e.hA e.H.length (e.H.flatMap Heir.cells)
 g : g < B
 B : B ≤ w.heap.size
 hc : e.H.length ≤ e.hc
theorem Est.Fit.all {e : Est} {w : World} (h : e.Fit w) {g vb : Nat} (hg : g < w.heap.size) (hr : Row w g 48 (e.hcells vb)) (hvr : Row w vb 45 (e.V.map fun r => .int .u64 ((e.st r.d : Nat) : Int))) : HsAll e g w.heap.size w := by
 have hH := Est.hs h.ok hg hvr.lt hr hvr
 have hN := Est.hsn h.ok h.right h.n h.v g vb
 refine ⟨fun W hW => ⟨(hH.below hW).c0,(hH.below hW).c2⟩,fun m W hm hW => safe_any e (e.hv g vb) m W ((hH.below hW).more hW.size) hN hm,fun m W hm hW => enough_any e (e.hv g vb) w.heap.size m _ W (hH.below hW) hN hm hN.am,fun W hW => (hH.below hW).ok.h,hg,Nat.le_refl _,h.ok.hc⟩
theorem HsAll.below {e : Est} {g B : Nat} {w w1 : World} (h : HsAll e g B w) (hb : Below B w w1) : HsAll e g B w1 :=
 ⟨fun W hW => h.ptr W (hb.trans hW),fun m W hm hW => h.safe m W hm (hb.trans hW),fun m W hm hW => h.enough m W hm (hb.trans hW),fun W hW => h.hs W (hb.trans hW),h.g,Nat.le_trans h.B hb.size,h.hc⟩
theorem HsAll.more {e : Est} {g B B' : Nat} {w : World} (h : HsAll e g B w) (hB : B ≤ B') (hB' : B' ≤ w.heap.size) : HsAll e g B' w :=
 ⟨fun W hW => h.ptr W (hW.mono hB),fun m W hm hW => h.safe m W hm (hW.mono hB),fun m W hm hW => h.enough m W hm (hW.mono hB),fun W hW => (h.hs W (hW.mono hB)).more hB,Nat.lt_of_lt_of_le h.g hB,hB',h.hc⟩
theorem wrap_pow2 : ∀ N ≤ 6,IntKind.i64.wrap ((2 : Int) ^ N) = ((2 ^ N : Nat) : Int) := by decide +kernel
structure PM (s g pb M cap : Nat) (w W : World) : Prop where
 r2 : Row W s 87 [.pointer (some ⟨g,0,none⟩)]
 r3 : Row W (s + 1) 23 [.slice (some ⟨pb,0,none⟩) M cap]
 r4 : Row W (s + 1 + 1) 4 [.bool false]
 bel : Below s w W
theorem PM.below {s g pb M cap : Nat} {w W W' : World} (h : PM s g pb M cap w W) (hb : Below W.heap.size W W') : PM s g pb M cap w W' :=
 ⟨h.r2.below hb h.r2.lt,h.r3.below hb h.r3.lt,h.r4.below hb h.r4.lt,h.bel.trans (hb.mono (by have := h.r2.lt;omega))⟩
theorem results_cell_one {P : Program} {fn : Func} {p : Tmp} {ty : TypeId} (h : fn.results = #[.cell p ty]) (tmps : Array Value) (w : World) (g : Nat) (v : Value)
  (hp : tmps.getD p undef = .pointer (some ⟨g,0,none⟩)) (hc : w.cell? ⟨g,0,none⟩ = some v) (ha : (isAgg ty).run P w = .ok false w) : (results fn tmps).run P w = .ok v w := by
 have hp' : tmps[p]?.getD undef = .pointer (some ⟨g,0,none⟩) := by simpa using hp
 simp [results,h,hp',asAddr,loadVar,ha,hc]
theorem isAgg_bool (w : World) : (isAgg 4).run Tryz.prog w = .ok false w := by kernel_rfl
theorem proof_any (e : Est) (g : Nat) (pb cap : Nat) (all : List Ent) (w : World) (hH : HsAll e g w.heap.size w) (hR : e.Right) (hn6 : e.H.length ≤ 6) (hF : Fin e.D all) (hpb : pb < w.heap.size) (hcap : e.D.M ≤ cap ∧ cap ≤ maxLen)
  (hp : ∀ j,j < e.D.M → w.cell? ⟨pb,j,none⟩ = some (.int .i64 (all.getD j dE).c)) :
  Calls Tryz.prog 17 #[.pointer (some ⟨g,0,none⟩),.slice (some ⟨pb,0,none⟩) e.D.M cap] w fun r w' => r = .returned (.bool true) ∧ Below w.heap.size w w' := by
 have hpos := hR.h1
 have hok := Est.djok hR hn6 e.D.vs e.D.am
 have HOK : Hid e.D.ok := hok
 obtain ⟨hA,ehA⟩ : ∃ x,e.hA = x := ⟨_,rfl⟩
 have HM : Hid (e.D.M = 2 ^ e.H.length ∧ e.D.M ≤ 64) := ⟨rfl,pow_le64 hn6⟩
 obtain ⟨N,eN⟩ : ∃ N,e.H.length = N := ⟨_,rfl⟩
 obtain ⟨M,eM⟩ : ∃ M,e.D.M = M := ⟨_,rfl⟩
 obtain ⟨hc,ehc⟩ : ∃ x,e.hc = x := ⟨_,rfl⟩
 obtain ⟨s,hs⟩ : ∃ s,w.heap.size = s := ⟨_,rfl⟩
 have hw64 : IntKind.i64.wrap ((2 : Int) ^ N) = (M : Int) := by rw [← eM,HM.out.1,eN];exact wrap_pow2 N (by rw [← eN];exact hn6)
 have HHA := Lib.hid hH
 have HFI := Lib.hid hF
 have HPC : Hid (∀ W,Below s w W → ∀ j,j < M → W.cell? ⟨pb,j,none⟩ = some (.int .i64 (all.getD j dE).c)) := fun W hW j hj => (hW.cell (p := ⟨pb,j,none⟩) (by rw [← hs];exact hpb)).trans (hp j (by rw [eM];exact hj))
 have HPT : Hid (∀ W,Below s w W → W.cell? ⟨g,0,none⟩ = some (.slice hA N hc) ∧ W.cell? ⟨g,2,none⟩ = some (.int .u64 ((e.st e.a.d : Nat) : Int))) := fun W hW => by
  have := hH.ptr W (by rw [hs];exact hW)
  rwa [ehA,eN,ehc] at this
 have hM64 := HM.out.2
 have HEQ : Hid (e.H.length = N ∧ e.D.M = M ∧ e.hc = hc ∧ e.hA = hA) := ⟨eN,eM,ehc,ehA⟩
 have hcap2 := hcap.2
 unfold maxLen at hcap2
 have hcap1 := hcap.1
 rw [eM] at hM64 hcap1 ⊢
 rw [eN] at hn6 hpos
 have HSS := Lib.hid hs
 have hg2 : g < s := by rw [← hs];exact hH.g
 have hpb2 : pb < s := by rw [← hs];exact hpb
 obtain ⟨AM,eAM⟩ : ∃ x,e.st e.a.d = x := ⟨_,rfl⟩
 rw [eAM] at HPT
 have HAM := Lib.hid eAM
 have HHC : Hid (N ≤ hc) := by show _ ≤ _;rw [← eN,← ehc];exact hH.hc
 clear hH hR hF hp hcap hok eN eM ehc ehA hpb eAM
 refine (callsIn_wide (n := 9)).1 ?_
 refine callsIn_of_wp_marks Tryz.func17 rfl trivial ?_ rfl
 simp only [Tryz.ntmps17,List.size_toArray,List.length_cons,List.length_nil,Nat.reduceAdd,Nat.reduceSub,Array.replicate_succ,Array.replicate_zero,List.push_toArray,List.append_toArray,List.nil_append,List.cons_append]
 gi_wp2_with fail
 clear hs
 have HP0 : Hid (PM s g pb M cap w (((w.alloc (.cells #[.pointer (some ⟨g,0,none⟩)] 87)).alloc (.cells #[.slice (some ⟨pb,0,none⟩) M cap] 23)).alloc (.cells #[.bool false] 4))) := by
  have e0 := HSS.out
  have r2 := ((Row.new w 87 [.pointer (some ⟨g,0,none⟩)]).alloc (.cells #[.slice (some ⟨pb,0,none⟩) M cap] 23)).alloc (.cells #[.bool false] 4)
  have r3 := (Row.new (w.alloc (.cells #[.pointer (some ⟨g,0,none⟩)] 87)) 23 [.slice (some ⟨pb,0,none⟩) M cap]).alloc (.cells #[.bool false] 4)
  have r4 := Row.new ((w.alloc (.cells #[.pointer (some ⟨g,0,none⟩)] 87)).alloc (.cells #[.slice (some ⟨pb,0,none⟩) M cap] 23)) 4 [.bool false]
  simp only [World.size_alloc,e0] at r2 r3 r4
  have hb := (((Below.refl w.heap.size w).alloc (Nat.le_refl _) (.cells #[.pointer (some ⟨g,0,none⟩)] 87)).alloc (by simp) (.cells #[.slice (some ⟨pb,0,none⟩) M cap] 23)).alloc (by simp;omega) (.cells #[.bool false] 4)
  rw [e0] at hb
  exact ⟨r2,r3,r4,hb⟩
 generalize (((w.alloc (.cells #[.pointer (some ⟨g,0,none⟩)] 87)).alloc (.cells #[.slice (some ⟨pb,0,none⟩) M cap] 23)).alloc (.cells #[.bool false] 4)) = w0 at HP0 ⊢
 rename_i Kz hKz
 refine wpIn_region_treeM (fun w' => PM s g pb M cap w w') (.take 0 (.take 1 (.take 2 (.take 3 (.take 4 (.take 5 (.take 6 (.take 7 (.take 8 .done))))))))) (by kernel_rfl) (by kernel_rfl) (by kernel_rfl) (by kernel_rfl) (by kernel_rfl) (HP0.out.below (Below.refl _ _).drew) ?_
 iterate 9 (refine wpOTI_take rfl _ (by rfl) (fun _ => rfl) (by intro w' hS;have c2 := hS.r2.cell (i := 0) rfl;have c3 := hS.r3.cell (i := 0) rfl;obtain ⟨c5,c6⟩ := HPT.out _ hS.bel;go_simp;try with_reducible rfl) fun KK hKK => ?_;go_simp;refine hKK _ ?_;clear hKK KK)
 refine wpOTI_done ?_
 show Kz _ _
 refine hKz _ _ ?_
 go_simp
 have HP1 : Hid (PM s g pb M cap w w0.drew) := HP0.out.below (Below.refl _ _).drew
 generalize w0.drew = w1 at HP1 ⊢
 clear HP0 hw64
 have c3 := HP1.out.r3.cell (i := 0) rfl
 gi_wp2_with fail
 obtain ⟨J,hJ⟩ : ∃ J : Nat → Act → World → Prop,J = fun n a' w' => ∃ k : Nat,k ≤ M ∧ n = M - k ∧ a'.tmps.size = 81 ∧ a'.tmps.getD 2 undef = .pointer (some ⟨s,0,none⟩) ∧ a'.tmps.getD 3 undef = .pointer (some ⟨s + 1,0,none⟩) ∧ a'.tmps.getD 4 undef = .pointer (some ⟨s + 1 + 1,0,none⟩) ∧ a'.tmps.getD 19 undef = .slice (some ⟨pb,0,none⟩) M cap ∧ a'.tmps.getD 20 undef = .int .i64 (M : Int) ∧ a'.tmps.getD 21 undef = .int .i64 (k : Int) ∧
  Marks (s + 1 + 1 + 1) w'.heap.size a'.defers w' ∧ PM s g pb M cap w w' := ⟨_,rfl⟩
 refine wpIn_loop_ghost J ?_ ?_
 ·rw [hJ]
  exact ⟨_,0,Nat.zero_le _,rfl,rfl,rfl,rfl,rfl,rfl,rfl,rfl,Marks.nil _ _ _,HP1.out⟩
 ·clear HP1 c3
  have HJ := Lib.hid hJ
  intro n a' wr hinv
  rw [hJ] at hinv
  clear hJ
  obtain ⟨k,hk,hn,h81,e2,e3,e4,e19,e20,e21,hm,hP⟩ := hinv
  obtain ⟨T,ds⟩ := a'
  dsimp only at h81 e2 e3 e4 e19 e20 e21 hm
  obtain ⟨v,hT,hv⟩ := arr_fun T 81 h81
  have e' : ((List.range 81).map v).toArray = #[v 0,v 1,v 2,v 3,v 4,v 5,v 6,v 7,v 8,v 9,v 10,v 11,v 12,v 13,v 14,v 15,v 16,v 17,v 18,v 19,v 20,v 21,v 22,v 23,v 24,v 25,v 26,v 27,v 28,v 29,v 30,v 31,v 32,v 33,v 34,v 35,v 36,v 37,v 38,v 39,v 40,v 41,v 42,v 43,v 44,v 45,v 46,v 47,v 48,v 49,v 50,v 51,v 52,v 53,v 54,v 55,v 56,v 57,v 58,v 59,v 60,v 61,v 62,v 63,v 64,v 65,v 66,v 67,v 68,v 69,v 70,v 71,v 72,v 73,v 74,v 75,v 76,v 77,v 78,v 79,v 80] := rfl
  rw [show v 2 = _ from (hv 2).symm.trans e2,show v 3 = _ from (hv 3).symm.trans e3,show v 4 = _ from (hv 4).symm.trans e4,show v 19 = _ from (hv 19).symm.trans e19,show v 20 = _ from (hv 20).symm.trans e20,show v 21 = _ from (hv 21).symm.trans e21] at e'
  rw [hT,e']
  have HP := Lib.hid hP
  have HMK := Lib.hid hm
  have HNK := Lib.hid hn
  clear hT hv e' e2 e3 e4 e19 e20 e21 h81 hP hm hn
  by_cases hlt : k < M
  ·have k1 : (k : Int) < (M : Int) := by omega
   have k0 : (0 : Int) ≤ (k : Int) := by omega
   have cp := HPC.out _ HP.out.bel k hlt
   obtain ⟨C,hC⟩ : ∃ C,(all.getD k dE).c = C := ⟨_,rfl⟩
   rw [hC] at cp
   have HCC := Lib.hid hC
   have hkM : k < e.D.M := by rw [HEQ.out.2.1];exact hlt
   have hcs := HFI.out.cs k hkM
   unfold stl at hcs
   rw [hC] at hcs
   have hCm : -1 ≤ C := by omega
   clear hcs hC
   obtain ⟨T,hTT⟩ : ∃ T,e.sf e.D.vs k = T := ⟨_,rfl⟩
   obtain ⟨z,hz⟩ : ∃ z,wr.heap.size = z := ⟨_,rfl⟩
   have HPa : Hid (PM s g pb M cap w (wr.alloc (.cells #[.int .i64 C] 3))) := HP.out.below ((Below.refl _ _).alloc (Nat.le_refl _) _)
   have c2 := HPa.out.r2.cell (i := 0) rfl
   have HRn : Hid (Row (wr.alloc (.cells #[.int .i64 C] 3)) z 3 [.int .i64 C]) := by rw [← hz];exact Row.new wr _ _
   have HSC := HHA.out.safe k (wr.alloc (.cells #[.int .i64 C] 3)) hkM (by rw [HSS.out];exact HPa.out.bel)
   rw [hTT] at HSC
   have HSC := Lib.hid HSC
   have HTT := Lib.hid hTT
   have HMa : Hid (Marks (s + 1 + 1 + 1) (z + 1) ds (wr.alloc (.cells #[.int .i64 C] 3))) := by
    have := (HMK.out.keep ((Below.refl _ wr).alloc (Nat.le_refl _) (.cells #[.int .i64 C] 3)))
    rw [hz] at this
    exact this.more (by omega)
   have HZ := Lib.hid hz
   clear hTT
   cases T with
   | false =>
    have hC1 : C = -1 := by
     rcases HFI.out.cs k hkM with h1 | h1
     ·rw [HCC.out] at h1;exact h1
     ·have h2 := (HFI.out.jst k hkM h1).sf
      rw [HFI.out.idx k hkM] at h2
      have h3 : e.sf e.D.vs k = true := h2
      rw [HTT.out] at h3;cases h3
    have hne : (C != -1) = false := by simp [hC1]
    have HC1 := Lib.hid hC1
    clear hC1
    gi_wp2_with fail
    refine ⟨trivial,(callsIn_wide.2 HSC.out).mono ?_⟩
    rintro x w5 ⟨rfl,hb5⟩
    have HP5 := Lib.hid (HPa.out.below hb5)
    have HR5 := Lib.hid (HRn.out.below hb5 HRn.out.lt)
    have HM5 := Lib.hid ((HMa.out.keep (hb5.mono (by rw [World.size_alloc,HZ.out];exact Nat.le_refl _))).more (C' := w5.heap.size) (by have := hb5.size;rw [World.size_alloc,HZ.out] at this;exact this))
    have cn := HR5.out.cell (i := 0) rfl
    clear hb5
    gi_wp2_with fail
    rw [HJ.out]
    refine ⟨M - (k + 1),by have := HNK.out;omega,k + 1,by omega,rfl,rfl,rfl,rfl,rfl,rfl,rfl,?_,HM5.out,HP5.out⟩
    show Value.int .i64 ((k : Int) + 1) = _
    go_num
   | true =>
    obtain ⟨U,hU⟩ : ∃ U,e.en k e.D.am = U := ⟨_,rfl⟩
    have HU := Lib.hid hU
    have d1 : decide (C < -1) = false := decide_eq_false (by omega)
    clear hU
    gi_wp2_with fail
    refine ⟨trivial,(callsIn_wide.2 HSC.out).mono ?_⟩
    rintro x w5 ⟨rfl,hb5⟩
    have HP5 := Lib.hid (HPa.out.below hb5)
    have HR5 := Lib.hid (HRn.out.below hb5 HRn.out.lt)
    have HM5 := Lib.hid ((HMa.out.keep (hb5.mono (by rw [World.size_alloc,HZ.out];exact Nat.le_refl _))).more (C' := w5.heap.size) (by have := hb5.size;rw [World.size_alloc,HZ.out] at this;exact this))
    have hec := HHA.out.enough k w5.drew hkM (by rw [HSS.out];exact (HP5.out.below (Below.refl _ _).drew).bel)
    rw [HAM.out,HU.out] at hec
    have HEC := Lib.hid hec
    clear hb5 hec c2 cp
    gi_wp2_with fail
    rename_i Kz hKz
    cases U with
    | true =>
     have hC0 : (C != 0) = false := by
      have h1 := HFI.out.lv k hkM HTT.out HU.out
      rw [HCC.out] at h1
      simp [h1.2.2]
     refine wpIn_region_treeM (fun w' => PM s g pb M cap w w' ∧ w'.cell? ⟨z,0,none⟩ = some (.int .i64 C)) (.take 0 (.take 1 (.take 2 (.take 3 (.take 4 (.take 5 (.take 6 (.take 7 (.take 8 (.one 9 (.take 10 (.take 11 (.take 12 (.take 13 (.take 14 (.take 15 .done)))))))))))))))) (by kernel_rfl) (by kernel_rfl) (by kernel_rfl) (by kernel_rfl) (by kernel_rfl) ⟨HP5.out.below (Below.refl _ _).drew,HR5.out.cell (i := 0) rfl⟩ ?_
     iterate 9 (refine wpOTI_take rfl _ (by rfl) (fun _ => rfl) (by intro w' hS;obtain ⟨hP,cn⟩ := hS;have c2 := hP.r2.cell (i := 0) rfl;have c6 := (HPT.out _ hP.bel).2;go_simp;try with_reducible rfl) fun KK hKK => ?_;go_simp;refine hKK _ ?_;clear hKK KK)
     refine wpOTI_one rfl (by rfl) fun KK hKK => ?_
     go_simp
     refine ⟨trivial,(callsIn_wide.2 HEC.out).mono ?_⟩
     rintro x w6 ⟨rfl,hb6⟩
     have hbb : Below w5.heap.size w5 w6 := (Below.refl _ _).drew.trans (hb6.below _)
     refine hKK _ _ ⟨HP5.out.below hbb,(HR5.out.below hbb HR5.out.lt).cell (i := 0) rfl⟩ ?_
     clear hKK KK
     have HP6 := Lib.hid (HP5.out.below hbb)
     have HR6 := Lib.hid (HR5.out.below hbb HR5.out.lt)
     have HM6 := Lib.hid ((HM5.out.keep hbb).more hbb.size)
     clear hb6 hbb
     iterate 6 (refine wpOTI_take rfl _ (by rfl) (fun _ => rfl) (by intro w' hS;obtain ⟨hP,cn⟩ := hS;have c2 := hP.r2.cell (i := 0) rfl;have c6 := (HPT.out _ hP.bel).2;go_simp;try with_reducible rfl) fun KK hKK => ?_;go_simp;refine hKK _ ?_;clear hKK KK)
     refine wpOTI_done ?_
     show Kz _ _
     refine hKz _ _ ?_
     go_simp
     have c2 := HP6.out.r2.cell (i := 0) rfl
     gi_wp2_with (refine ⟨trivial,?_⟩;gi_at_call 16;refine (callsIn_wide.2 (ways_any _ _ _)).mono ?_;rintro e w' ⟨rfl,rfl⟩)
     clear c2
     obtain ⟨z2,hz2⟩ : ∃ z,w6.heap.size = z := ⟨_,rfl⟩
     have hb67 : Below w6.heap.size w6 ((w6.alloc (.cells #[.pointer (some ⟨g,0,none⟩)] 87)).alloc (.cells #[.int .u64 (k : Int)] 45)) := ((Below.refl _ w6).alloc (Nat.le_refl _) _).alloc (by simp) _
     have hP7 : PM s g pb M cap w ((w6.alloc (.cells #[.pointer (some ⟨g,0,none⟩)] 87)).alloc (.cells #[.int .u64 (k : Int)] 45)) := HP6.out.below hb67
     have hR7 : Row ((w6.alloc (.cells #[.pointer (some ⟨g,0,none⟩)] 87)).alloc (.cells #[.int .u64 (k : Int)] 45)) z 3 [.int .i64 C] := HR6.out.below hb67 HR6.out.lt
     have hM7 : Marks (s + 1 + 1 + 1) ((w6.alloc (.cells #[.pointer (some ⟨g,0,none⟩)] 87)).alloc (.cells #[.int .u64 (k : Int)] 45)).heap.size ds ((w6.alloc (.cells #[.pointer (some ⟨g,0,none⟩)] 87)).alloc (.cells #[.int .u64 (k : Int)] 45)) := (HM6.out.keep hb67).more hb67.size
     have hRh : Row ((w6.alloc (.cells #[.pointer (some ⟨g,0,none⟩)] 87)).alloc (.cells #[.int .u64 (k : Int)] 45)) z2 87 [.pointer (some ⟨g,0,none⟩)] := by rw [← hz2];exact (Row.new w6 _ _).alloc _
     have hRm : Row ((w6.alloc (.cells #[.pointer (some ⟨g,0,none⟩)] 87)).alloc (.cells #[.int .u64 (k : Int)] 45)) (z2 + 1) 45 [.int .u64 (k : Int)] := by
      have := Row.new (w6.alloc (.cells #[.pointer (some ⟨g,0,none⟩)] 87)) 45 [.int .u64 (k : Int)]
      rw [World.size_alloc,hz2] at this
      exact this
     rw [hz2]
     generalize ((w6.alloc (.cells #[.pointer (some ⟨g,0,none⟩)] 87)).alloc (.cells #[.int .u64 (k : Int)] 45)) = W7 at hP7 hR7 hM7 hRh hRm ⊢
     clear hz2 hb67 HP6 HR6 HM6 HP5 HR5 HM5 HEC
     have hs7 : s ≤ W7.heap.size := by have := hP7.r2.lt;omega
     have hhs := HHA.out.hs W7 (by rw [HSS.out];exact hP7.bel)
     have hpt := (HHA.out.ptr W7 (by rw [HSS.out];exact hP7.bel)).1
     rw [HSS.out] at hhs
     refine wpIn_rangeFunc_ownH rfl (by omega) (gf := 40) (lb := #[.pointer (some ⟨z2,0,none⟩),.pointer (some ⟨z2 + 1,0,none⟩)]) rfl trivial (enters_of Tryz.func40 (by kernel_rfl) rfl)
      (encs := fun y : {y : Way // y ∈ e.wall k} => encW y.1) (Kp := KeepQ (fun _ _ => False)) (S := fun ys => ys.map Subtype.val = e.wall k) (Sp := fun pre => e.wpre k (pre.map Subtype.val)) (N := 12) (w0 := W7)
      (ways_seq Fence.wide (9 - 1) trivial (fun _ => trivial) rfl (by omega) z2 (z2 + 1) g s _ e k (by rw [HEQ.out.1];exact hn6) (by omega) (by rw [HEQ.out.1];exact hpos) (fun _ _ _ h => h) hg2 (fun h => h) (fun h => h) W7 (fun _ _ h => h) hRh hRm hpt (by omega) hhs hs7 (by rw [HEQ.out.1,HEQ.out.2.2.1];exact HHC.out))
      (fun h1 h2 => h1.trans h2) (fun W lo ob ob' h1 h2 h3 h4 => KeepQ.putObj W lo ob ob' h2 h3) (Below.refl _ _) (fun _ => rfl)
      (fun pre W => Below W7.heap.size W7 W) (fun _ _ _ => False)
      (fun pre W W' row h hg hr => h.grown hg h.size (fun r e => (hr r e).1)) (fun _ _ _ _ _ h _ _ => h) (Below.refl _ _)
      (fun y a' W => ∃ Bb,(Row W Bb 59 [.int .i64 y.1.k,.int .i64 y.1.p,.int .u64 (y.1.t : Int),.int .i64 y.1.c]) ∧ a'.tmps.size = 81 ∧ a'.tmps.getD 2 undef = .pointer (some ⟨s,0,none⟩) ∧ a'.tmps.getD 3 undef = .pointer (some ⟨s + 1,0,none⟩) ∧ a'.tmps.getD 6 undef = .pointer (some ⟨z,0,none⟩) ∧ a'.tmps.getD 8 undef = .pointer (some ⟨Bb,0,none⟩) ∧ a'.defers = [])
      (fun y a' _ X' Y' row hs hg hr' => by
       obtain ⟨Bb,h1,h2⟩ := hs
       exact ⟨Bb,(grownBy_keeps_cells hg (fun r e => (hr' r e).2) h1 rfl).trans h1,h2⟩)
      ?assign ?body ?done ?stop
     case assign =>
      rintro lo pre y W K hI hK
      gi_wp2
      exact hK _ _ ((KeepsOthers.alloc _ _).from _) ((KeepQ.refl _).alloc _) (hI.alloc hI.size _) ⟨W.heap.size,Row.new W _ _,rfl,rfl,rfl,rfl,rfl,rfl⟩
     case body =>
      rintro lo pre ⟨⟨yk,yp,yt,yc⟩,hy⟩ a' W hlo _ hI ⟨Bb,hRb,h81,e2,e3,e6,e8,hdf⟩ hlen
      obtain ⟨T2,ds2⟩ := a'
      dsimp only at h81 e2 e3 e6 e8 hdf hRb
      subst hdf
      obtain ⟨v2,hT,hv⟩ := arr_fun T2 81 h81
      have e' : ((List.range 81).map v2).toArray = #[v2 0,v2 1,v2 2,v2 3,v2 4,v2 5,v2 6,v2 7,v2 8,v2 9,v2 10,v2 11,v2 12,v2 13,v2 14,v2 15,v2 16,v2 17,v2 18,v2 19,v2 20,v2 21,v2 22,v2 23,v2 24,v2 25,v2 26,v2 27,v2 28,v2 29,v2 30,v2 31,v2 32,v2 33,v2 34,v2 35,v2 36,v2 37,v2 38,v2 39,v2 40,v2 41,v2 42,v2 43,v2 44,v2 45,v2 46,v2 47,v2 48,v2 49,v2 50,v2 51,v2 52,v2 53,v2 54,v2 55,v2 56,v2 57,v2 58,v2 59,v2 60,v2 61,v2 62,v2 63,v2 64,v2 65,v2 66,v2 67,v2 68,v2 69,v2 70,v2 71,v2 72,v2 73,v2 74,v2 75,v2 76,v2 77,v2 78,v2 79,v2 80] := rfl
      rw [show v2 2 = _ from (hv 2).symm.trans e2,show v2 3 = _ from (hv 3).symm.trans e3,show v2 6 = _ from (hv 6).symm.trans e6,show v2 8 = _ from (hv 8).symm.trans e8] at e'
      rw [hT,e']
      have htt := HOK.out.tt k hkM _ hy
      rw [HEQ.out.2.1] at htt
      obtain ⟨t1,t2,t3,t4⟩ := htt
      have t1 : yt < M := t1
      have t2 : 0 ≤ yc := t2
      have t3 : yc ≤ 1048576 := t3
      have hP := hP7.below hI
      have c2 := hP.r2.cell (i := 0) rfl
      have c3 := hP.r3.cell (i := 0) rfl
      have cn := (hR7.below hI hR7.lt).cell (i := 0) rfl
      have b2 := hRb.cell (i := 2) rfl
      have b3 := hRb.cell (i := 3) rfl
      have ca := HPC.out W hP.bel yt t1
      obtain ⟨K2,hK2⟩ : ∃ C,(all.getD yt dE).c = C := ⟨_,rfl⟩
      rw [hK2] at ca
      have HK2 := Lib.hid hK2
      have i0 : (0 : Int) ≤ (yt : Int) := by omega
      have i1 : (yt : Int) < (M : Int) := by omega
      have HIB := Lib.hid (And.intro hI (And.intro hP hRb))
      have HYY := Lib.hid hy
      clear hT hv e' e2 e3 e6 e8 h81 hK2 hI hP hRb
      by_cases hk2 : 0 ≤ K2
      ·have hsc := HHA.out.safe yt W (by rw [HEQ.out.2.1];exact t1) (by rw [HSS.out];exact HIB.out.2.1.bel)
       obtain ⟨T2,hT2⟩ : ∃ T,e.sf e.D.vs yt = T := ⟨_,rfl⟩
       rw [hT2] at hsc
       have HS2 := Lib.hid hsc
       have HT2 := Lib.hid hT2
       clear hsc hT2
       gi_wp2_with fail
       refine ⟨trivial,(CallsIn.inRound lo (callsIn_wide.2 HS2.out)).mono ?_⟩
       rintro e5 w8 ⟨rfl,hb8⟩
       have HB8 := Lib.hid hb8
       have cn := ((hR7.below HIB.out.1 hR7.lt).below hb8 (hR7.below HIB.out.1 hR7.lt).lt).cell (i := 0) rfl
       have b3 := (HIB.out.2.2.below hb8 HIB.out.2.2.lt).cell (i := 3) rfl
       clear hb8 ca c2 c3
       cases T2 with
       | false =>
        gi_wp2_with fail
        exact ⟨chg_keepsFrom (Chg.of_below (ex := fun _ => False) HB8.out) (fun _ h => h.elim),⟨HB8.out.size,fun i cs t fr hi _ => HB8.out.block i (heap_lt hi)⟩,HIB.out.1.trans (HB8.out.mono HIB.out.1.size)⟩
       | true =>
        have hed := HFI.out.edge k hkM HTT.out _ HYY.out (by show 0 ≤ (all.getD yt dE).c;rw [HK2.out];exact hk2)
        have hst := hed.1
        unfold stl at hst
        rw [HCC.out] at hst
        have hle := hed.2
        rw [HCC.out] at hle
        have hle : C ≤ K2 + yc := by rw [← HK2.out];exact hle
        have hj := HFI.out.jst k hkM hed.1
        have hcb := hj.cb
        have hsk := HFI.out.sk k hkM hed.1
        rw [HCC.out] at hcb
        have hC2 : C ≤ 67108864 := by omega
        have nlt : ¬ K2 < C - yc := by omega
        have dd : decide (K2 < C - yc) = false := decide_eq_false nlt
        clear hed hle hj hcb hsk
        gi_wp2_with fail
        exact ⟨chg_keepsFrom (Chg.of_below (ex := fun _ => False) HB8.out) (fun _ h => h.elim),⟨HB8.out.size,fun i cs t fr hi _ => HB8.out.block i (heap_lt hi)⟩,HIB.out.1.trans (HB8.out.mono HIB.out.1.size)⟩
      ·gi_wp2_with fail
       refine ⟨trivial,?_⟩
       gi_wp2_with fail
       exact ⟨KeepsFrom.refl _ _,KeepQ.refl _,HIB.out.1⟩
     case done =>
      rintro Dm ys W hDm hys hI hK
      have HI := Lib.hid hI
      have HK := Lib.hid (And.intro hDm hK)
      clear hI hK hDm hys
      gi_wp2_with fail
      rw [HJ.out]
      refine ⟨M - (k + 1),by have := HNK.out;omega,k + 1,by omega,rfl,rfl,rfl,rfl,rfl,rfl,rfl,?_,(hM7.keep HI.out).cons (by have := HK.out.1;have := hP7.r4.lt;omega) HK.out.1 (heap_lt HK.out.2) HK.out.2,hP7.below HI.out⟩
      show Value.int .i64 ((k : Int) + 1) = _
      go_num
     case stop =>
      rintro Dm c pre W _ _ h _
      exact h.elim
    | false =>
     refine wpIn_region_treeM (fun w' => PM s g pb M cap w w' ∧ w'.cell? ⟨z,0,none⟩ = some (.int .i64 C)) (.take 0 (.take 1 (.take 2 (.take 3 (.take 4 (.take 5 (.take 6 (.take 7 (.take 8 (.one 9 (.take 10 (.take 11 (.take 12 (.take 13 (.take 14 (.take 15 .done)))))))))))))))) (by kernel_rfl) (by kernel_rfl) (by kernel_rfl) (by kernel_rfl) (by kernel_rfl) ⟨HP5.out.below (Below.refl _ _).drew,HR5.out.cell (i := 0) rfl⟩ ?_
     iterate 9 (refine wpOTI_take rfl _ (by rfl) (fun _ => rfl) (by intro w' hS;obtain ⟨hP,cn⟩ := hS;have c2 := hP.r2.cell (i := 0) rfl;have c6 := (HPT.out _ hP.bel).2;go_simp;try with_reducible rfl) fun KK hKK => ?_;go_simp;refine hKK _ ?_;clear hKK KK)
     refine wpOTI_one rfl (by rfl) fun KK hKK => ?_
     go_simp
     refine ⟨trivial,(callsIn_wide.2 HEC.out).mono ?_⟩
     rintro x w6 ⟨rfl,hb6⟩
     have hbb : Below w5.heap.size w5 w6 := (Below.refl _ _).drew.trans (hb6.below _)
     refine hKK _ _ ⟨HP5.out.below hbb,(HR5.out.below hbb HR5.out.lt).cell (i := 0) rfl⟩ ?_
     clear hKK KK
     have HP6 := Lib.hid (HP5.out.below hbb)
     have HR6 := Lib.hid (HR5.out.below hbb HR5.out.lt)
     have HM6 := Lib.hid ((HM5.out.keep hbb).more hbb.size)
     clear hb6 hbb
     refine wpOTI_take rfl _ (by rfl) (fun _ => rfl) (by intro w' hS;obtain ⟨hP,cn⟩ := hS;have c2 := hP.r2.cell (i := 0) rfl;have c6 := (HPT.out _ hP.bel).2;go_simp;try with_reducible rfl) fun KK hKK => ?_
     iterate 2 (go_simp;refine hKK _ ?_;clear hKK KK;refine wpOTI_skip rfl (by rfl) (fun _ => rfl) fun KK hKK => ?_)
     iterate 3 (go_simp;refine hKK _ ?_;clear hKK KK;refine wpOTI_take rfl _ (by rfl) (fun _ => rfl) (by intro w' hS;obtain ⟨hP,cn⟩ := hS;have c2 := hP.r2.cell (i := 0) rfl;have c6 := (HPT.out _ hP.bel).2;go_simp;try with_reducible rfl) fun KK hKK => ?_)
     go_simp
     refine hKK _ ?_
     clear hKK KK
     refine wpOTI_done ?_
     show Kz _ _
     refine hKz _ _ ?_
     go_simp
     have c2 := HP6.out.r2.cell (i := 0) rfl
     gi_wp2_with (refine ⟨trivial,?_⟩;gi_at_call 16;refine (callsIn_wide.2 (ways_any _ _ _)).mono ?_;rintro e w' ⟨rfl,rfl⟩)
     clear c2
     obtain ⟨z2,hz2⟩ : ∃ z,w6.heap.size = z := ⟨_,rfl⟩
     have hb67 : Below w6.heap.size w6 ((w6.alloc (.cells #[.pointer (some ⟨g,0,none⟩)] 87)).alloc (.cells #[.int .u64 (k : Int)] 45)) := ((Below.refl _ w6).alloc (Nat.le_refl _) _).alloc (by simp) _
     have hP7 : PM s g pb M cap w ((w6.alloc (.cells #[.pointer (some ⟨g,0,none⟩)] 87)).alloc (.cells #[.int .u64 (k : Int)] 45)) := HP6.out.below hb67
     have hR7 : Row ((w6.alloc (.cells #[.pointer (some ⟨g,0,none⟩)] 87)).alloc (.cells #[.int .u64 (k : Int)] 45)) z 3 [.int .i64 C] := HR6.out.below hb67 HR6.out.lt
     have hM7 : Marks (s + 1 + 1 + 1) ((w6.alloc (.cells #[.pointer (some ⟨g,0,none⟩)] 87)).alloc (.cells #[.int .u64 (k : Int)] 45)).heap.size ds ((w6.alloc (.cells #[.pointer (some ⟨g,0,none⟩)] 87)).alloc (.cells #[.int .u64 (k : Int)] 45)) := (HM6.out.keep hb67).more hb67.size
     have hRh : Row ((w6.alloc (.cells #[.pointer (some ⟨g,0,none⟩)] 87)).alloc (.cells #[.int .u64 (k : Int)] 45)) z2 87 [.pointer (some ⟨g,0,none⟩)] := by rw [← hz2];exact (Row.new w6 _ _).alloc _
     have hRm : Row ((w6.alloc (.cells #[.pointer (some ⟨g,0,none⟩)] 87)).alloc (.cells #[.int .u64 (k : Int)] 45)) (z2 + 1) 45 [.int .u64 (k : Int)] := by
      have := Row.new (w6.alloc (.cells #[.pointer (some ⟨g,0,none⟩)] 87)) 45 [.int .u64 (k : Int)]
      rw [World.size_alloc,hz2] at this
      exact this
     rw [hz2]
     generalize ((w6.alloc (.cells #[.pointer (some ⟨g,0,none⟩)] 87)).alloc (.cells #[.int .u64 (k : Int)] 45)) = W7 at hP7 hR7 hM7 hRh hRm ⊢
     clear hz2 hb67 HP6 HR6 HM6 HP5 HR5 HM5 HEC
     have hs7 : s ≤ W7.heap.size := by have := hP7.r2.lt;omega
     have hhs := HHA.out.hs W7 (by rw [HSS.out];exact hP7.bel)
     have hpt := (HHA.out.ptr W7 (by rw [HSS.out];exact hP7.bel)).1
     rw [HSS.out] at hhs
     refine wpIn_rangeFunc_ownH rfl (by omega) (gf := 40) (lb := #[.pointer (some ⟨z2,0,none⟩),.pointer (some ⟨z2 + 1,0,none⟩)]) rfl trivial (enters_of Tryz.func40 (by kernel_rfl) rfl)
      (encs := fun y : {y : Way // y ∈ e.wall k} => encW y.1) (Kp := KeepQ (fun _ _ => False)) (S := fun ys => ys.map Subtype.val = e.wall k) (Sp := fun pre => e.wpre k (pre.map Subtype.val)) (N := 12) (w0 := W7)
      (ways_seq Fence.wide (9 - 1) trivial (fun _ => trivial) rfl (by omega) z2 (z2 + 1) g s _ e k (by rw [HEQ.out.1];exact hn6) (by omega) (by rw [HEQ.out.1];exact hpos) (fun _ _ _ h => h) hg2 (fun h => h) (fun h => h) W7 (fun _ _ h => h) hRh hRm hpt (by omega) hhs hs7 (by rw [HEQ.out.1,HEQ.out.2.2.1];exact HHC.out))
      (fun h1 h2 => h1.trans h2) (fun W lo ob ob' h1 h2 h3 h4 => KeepQ.putObj W lo ob ob' h2 h3) (Below.refl _ _) (fun _ => rfl)
      (fun pre W => Below W7.heap.size W7 W) (fun _ _ _ => False)
      (fun pre W W' row h hg hr => h.grown hg h.size (fun r e => (hr r e).1)) (fun _ _ _ _ _ h _ _ => h) (Below.refl _ _)
      (fun y a' W => ∃ Bb,(Row W Bb 59 [.int .i64 y.1.k,.int .i64 y.1.p,.int .u64 (y.1.t : Int),.int .i64 y.1.c]) ∧ a'.tmps.size = 81 ∧ a'.tmps.getD 2 undef = .pointer (some ⟨s,0,none⟩) ∧ a'.tmps.getD 3 undef = .pointer (some ⟨s + 1,0,none⟩) ∧ a'.tmps.getD 6 undef = .pointer (some ⟨z,0,none⟩) ∧ a'.tmps.getD 8 undef = .pointer (some ⟨Bb,0,none⟩) ∧ a'.defers = [])
      (fun y a' _ X' Y' row hs hg hr' => by
       obtain ⟨Bb,h1,h2⟩ := hs
       exact ⟨Bb,(grownBy_keeps_cells hg (fun r e => (hr' r e).2) h1 rfl).trans h1,h2⟩)
      ?assign ?body ?done ?stop
     case assign =>
      rintro lo pre y W K hI hK
      gi_wp2
      exact hK _ _ ((KeepsOthers.alloc _ _).from _) ((KeepQ.refl _).alloc _) (hI.alloc hI.size _) ⟨W.heap.size,Row.new W _ _,rfl,rfl,rfl,rfl,rfl,rfl⟩
     case body =>
      rintro lo pre ⟨⟨yk,yp,yt,yc⟩,hy⟩ a' W hlo _ hI ⟨Bb,hRb,h81,e2,e3,e6,e8,hdf⟩ hlen
      obtain ⟨T2,ds2⟩ := a'
      dsimp only at h81 e2 e3 e6 e8 hdf hRb
      subst hdf
      obtain ⟨v2,hT,hv⟩ := arr_fun T2 81 h81
      have e' : ((List.range 81).map v2).toArray = #[v2 0,v2 1,v2 2,v2 3,v2 4,v2 5,v2 6,v2 7,v2 8,v2 9,v2 10,v2 11,v2 12,v2 13,v2 14,v2 15,v2 16,v2 17,v2 18,v2 19,v2 20,v2 21,v2 22,v2 23,v2 24,v2 25,v2 26,v2 27,v2 28,v2 29,v2 30,v2 31,v2 32,v2 33,v2 34,v2 35,v2 36,v2 37,v2 38,v2 39,v2 40,v2 41,v2 42,v2 43,v2 44,v2 45,v2 46,v2 47,v2 48,v2 49,v2 50,v2 51,v2 52,v2 53,v2 54,v2 55,v2 56,v2 57,v2 58,v2 59,v2 60,v2 61,v2 62,v2 63,v2 64,v2 65,v2 66,v2 67,v2 68,v2 69,v2 70,v2 71,v2 72,v2 73,v2 74,v2 75,v2 76,v2 77,v2 78,v2 79,v2 80] := rfl
      rw [show v2 2 = _ from (hv 2).symm.trans e2,show v2 3 = _ from (hv 3).symm.trans e3,show v2 6 = _ from (hv 6).symm.trans e6,show v2 8 = _ from (hv 8).symm.trans e8] at e'
      rw [hT,e']
      have htt := HOK.out.tt k hkM _ hy
      rw [HEQ.out.2.1] at htt
      obtain ⟨t1,t2,t3,t4⟩ := htt
      have t1 : yt < M := t1
      have t2 : 0 ≤ yc := t2
      have t3 : yc ≤ 1048576 := t3
      have hP := hP7.below hI
      have c2 := hP.r2.cell (i := 0) rfl
      have c3 := hP.r3.cell (i := 0) rfl
      have cn := (hR7.below hI hR7.lt).cell (i := 0) rfl
      have b2 := hRb.cell (i := 2) rfl
      have b3 := hRb.cell (i := 3) rfl
      have ca := HPC.out W hP.bel yt t1
      obtain ⟨K2,hK2⟩ : ∃ C,(all.getD yt dE).c = C := ⟨_,rfl⟩
      rw [hK2] at ca
      have HK2 := Lib.hid hK2
      have i0 : (0 : Int) ≤ (yt : Int) := by omega
      have i1 : (yt : Int) < (M : Int) := by omega
      have HIB := Lib.hid (And.intro hI (And.intro hP hRb))
      have HYY := Lib.hid hy
      clear hT hv e' e2 e3 e6 e8 h81 hK2 hI hP hRb
      by_cases hk2 : 0 ≤ K2
      ·have hsc := HHA.out.safe yt W (by rw [HEQ.out.2.1];exact t1) (by rw [HSS.out];exact HIB.out.2.1.bel)
       obtain ⟨T2,hT2⟩ : ∃ T,e.sf e.D.vs yt = T := ⟨_,rfl⟩
       rw [hT2] at hsc
       have HS2 := Lib.hid hsc
       have HT2 := Lib.hid hT2
       clear hsc hT2
       gi_wp2_with fail
       refine ⟨trivial,(CallsIn.inRound lo (callsIn_wide.2 HS2.out)).mono ?_⟩
       rintro e5 w8 ⟨rfl,hb8⟩
       have HB8 := Lib.hid hb8
       have cn := ((hR7.below HIB.out.1 hR7.lt).below hb8 (hR7.below HIB.out.1 hR7.lt).lt).cell (i := 0) rfl
       have b3 := (HIB.out.2.2.below hb8 HIB.out.2.2.lt).cell (i := 3) rfl
       clear hb8 ca c2 c3
       cases T2 with
       | false =>
        gi_wp2_with fail
        exact ⟨chg_keepsFrom (Chg.of_below (ex := fun _ => False) HB8.out) (fun _ h => h.elim),⟨HB8.out.size,fun i cs t fr hi _ => HB8.out.block i (heap_lt hi)⟩,HIB.out.1.trans (HB8.out.mono HIB.out.1.size)⟩
       | true =>
        have hed := HFI.out.edge k hkM HTT.out _ HYY.out (by show 0 ≤ (all.getD yt dE).c;rw [HK2.out];exact hk2)
        have hst := hed.1
        unfold stl at hst
        rw [HCC.out] at hst
        have hle := hed.2
        rw [HCC.out] at hle
        have hle : C ≤ K2 + yc := by rw [← HK2.out];exact hle
        have hj := HFI.out.jst k hkM hed.1
        have hcb := hj.cb
        have hsk := HFI.out.sk k hkM hed.1
        rw [HCC.out] at hcb
        have hC2 : C ≤ 67108864 := by omega
        have nlt : ¬ K2 < C - yc := by omega
        have dd : decide (K2 < C - yc) = false := decide_eq_false nlt
        clear hed hle hj hcb hsk
        gi_wp2_with fail
        exact ⟨chg_keepsFrom (Chg.of_below (ex := fun _ => False) HB8.out) (fun _ h => h.elim),⟨HB8.out.size,fun i cs t fr hi _ => HB8.out.block i (heap_lt hi)⟩,HIB.out.1.trans (HB8.out.mono HIB.out.1.size)⟩
      ·gi_wp2_with fail
       refine ⟨trivial,?_⟩
       gi_wp2_with fail
       exact ⟨KeepsFrom.refl _ _,KeepQ.refl _,HIB.out.1⟩
     case done =>
      rintro Dm ys W hDm hys hI hK
      have HI := Lib.hid hI
      have HK := Lib.hid (And.intro hDm hK)
      clear hI hK hDm hys
      gi_wp2_with fail
      rw [HJ.out]
      refine ⟨M - (k + 1),by have := HNK.out;omega,k + 1,by omega,rfl,rfl,rfl,rfl,rfl,rfl,rfl,?_,(hM7.keep HI.out).cons (by have := HK.out.1;have := hP7.r4.lt;omega) HK.out.1 (heap_lt HK.out.2) HK.out.2,hP7.below HI.out⟩
      show Value.int .i64 ((k : Int) + 1) = _
      go_num
     case stop =>
      rintro Dm c pre W _ _ h _
      exact h.elim
  ·obtain rfl : k = M := by omega
   have f4 := HP.out.r4.frozen 0
   have c4 := HP.out.r4.cell (i := 0) rfl
   gi_wp2_with fail
   have hch := Chg.set wr (s + 1 + 1) 0 (.bool true)
   have hr4 := HP.out.r4.set 0 (.bool true)
   refine leaves_marks ds _ (HMK.out.chg hch (by
    intro k' e' o' ho'
    subst e'
    rw [show wr.heap[s + 1 + 1]? = _ from HP.out.r4] at ho';cases ho';rfl) (Nat.le_refl _)) fun w' hb' => ?_
   exact ⟨_,results_cell_one rfl _ _ (s + 1 + 1) (.bool true) (by rfl) ((hb'.cell (p := ⟨s + 1 + 1,0,none⟩) (by show s + 1 + 1 < _;omega)).trans (hr4.cell (i := 0) rfl)) (isAgg_bool _),rfl,by rw [HSS.out];exact (HP.out.bel.setCell (p := ⟨s + 1 + 1,0,none⟩) (by show s ≤ s + 1 + 1;omega) _).trans (hb'.mono (by omega))⟩
end Go.Proofs.YtjcpjhlclpdpjaaGreat
namespace Go.Proofs.YtjcpjhlclpdpjaaGreat
open Go.RowKit
theorem leaves_marks2 {F : Fence} {n : Nat} {P : Program} {fn : Func} {tmps : Array Value} {R : Ending → World → Prop} {B C : Nat} : ∀ (ds : List Deferred) (w : World),Marks B C ds w →
  (∀ w',Below B w w' → (∀ (k : Nat) (o : Obj),w.heap[k]? = some o → o.isCells = true → w'.heap[k]? = some o) → LeavesIn F n P fn tmps R [] .returning w') → LeavesInM F n P fn tmps R ds .returning w
 | [],w,_,h => h w (Below.refl _ _) (fun _ _ h _ => h)
 | d :: ds,w,hm,h => by
  obtain ⟨h1,h2⟩ := hm
  obtain ⟨D,rfl,hB,hC,hD⟩ := h1 d List.mem_cons_self
  have h3 := List.pairwise_cons.1 h2
  refine ⟨by simp,.inl ⟨D,_,rfl,run_takeDeferred hD,?_⟩⟩
  have hb : Below B w (w.putObj D (.deferred none)) := (Below.refl B w).grown (grownBy_putObj' w D _) (by have := (Array.getElem?_eq_some_iff.1 hD).1;omega) (fun k e => by cases e;exact hB)
  refine leaves_marks2 (C := C) ds _ ⟨fun d' hd' => ?_,h3.2⟩ (fun w' hb' hc' => h w' (hb.trans hb') (fun k o hk ho => hc' k o ?_ ho))
  ·obtain ⟨D',rfl,hB',hC',hD'⟩ := h1 d' (List.mem_cons_of_mem _ hd')
   have hne : D' ≠ D := fun e => h3.1 _ hd' (by rw [e])
   exact ⟨D',rfl,hB',hC',by rw [(grownBy_putObj' w D (.deferred none)).block D' (Array.getElem?_eq_some_iff.1 hD').1 (by simpa using hne)];exact hD'⟩
  ·have hne : k ≠ D := fun e => by
    rw [e] at hk
    have := hk.symm.trans hD
    cases this
    cases ho
   rw [(grownBy_putObj' w D (.deferred none)).block k (Array.getElem?_eq_some_iff.1 hk).1 (by simpa using hne)]
   exact hk
def Pth (D : DjE) (all : List Ent) : Nat → List Way → Nat → Prop
 | m,[],m' => m = m'
 | m,w :: ws,m' => w ∈ D.e.wall m ∧ stl all w.t ∧ (all.getD w.t dE).c + w.c = (all.getD m dE).c ∧ (all.getD w.t dE).s + 1 = (all.getD m dE).s ∧ Pth D all w.t ws m'
theorem Pth.snoc {D : DjE} {all : List Ent} {w : Way} : ∀ {ws : List Way} {m m' : Nat},Pth D all m ws m' → w ∈ D.e.wall m' → stl all w.t → (all.getD w.t dE).c + w.c = (all.getD m' dE).c → (all.getD w.t dE).s + 1 = (all.getD m' dE).s → Pth D all m (ws ++ [w]) w.t
 | [],m,m',h,h1,h2,h3,h4 => by
  have h : m = m' := h
  subst h
  exact ⟨h1,h2,h3,h4,rfl⟩
 | v :: ws,m,m',h,h1,h2,h3,h4 => ⟨h.1,h.2.1,h.2.2.1,h.2.2.2.1,Pth.snoc h.2.2.2.2 h1 h2 h3 h4⟩
theorem Pth.lt {D : DjE} (ok : D.ok) {all : List Ent} : ∀ {ws : List Way} {m m' : Nat},m < D.M → stl all m → Pth D all m ws m' → m' < D.M ∧ stl all m'
 | [],m,m',hm,hs,h => by
  have h : m = m' := h
  rw [← h]
  exact ⟨hm,hs⟩
 | v :: ws,m,m',hm,hs,h => Pth.lt ok (ok.tt m hm v h.1).1 h.2.1 h.2.2.2.2
def stageCells (ws : List Way) : List Value := ws.flatMap fun w => [.int .i64 w.k,.int .i64 w.p]
theorem stageCells_snoc (ws : List Way) (w : Way) : stageCells (ws ++ [w]) = stageCells ws ++ [.int .i64 w.k,.int .i64 w.p] := by simp [stageCells]
structure PL (e : Est) (s gh ve b7 ab b8 B M : Nat) (w W : World) (all : List Ent) (lv : Value) (ws : List Way) (m : Nat) : Prop where
 r2 : Row W (s + 1) 29 [lv]
 rl : W.ownsRow B 40 2 lv ws.length (stageCells ws)
 r6 : Row W gh 48 (e.hcells ve)
 rv : Row W ve 45 (e.V.map fun r => .int .u64 ((e.st r.d : Nat) : Int))
 r7 : Row W b7 51 [.slice (some ⟨ab,0,none⟩) M M]
 ra : QR W ab M all
 r8 : Row W b8 54 (all.getD m dE).cells
 bel : Below s w W
 ord : s + 1 < gh ∧ s + 1 < ve ∧ s + 1 < b7 ∧ s + 1 < ab ∧ s + 1 < b8 ∧ gh < B ∧ ve < B ∧ b7 < B ∧ ab < B ∧ b8 < B ∧ b8 ≠ gh ∧ b8 ≠ ve ∧ b8 ≠ b7 ∧ b8 ≠ ab ∧ B ≤ W.heap.size
theorem PL.below {e : Est} {s gh ve b7 ab b8 B M : Nat} {w W W' : World} {all : List Ent} {lv : Value} {ws : List Way} {m : Nat} (h : PL e s gh ve b7 ab b8 B M w W all lv ws m) (hb : Below W.heap.size W W') : PL e s gh ve b7 ab b8 B M w W' all lv ws m :=
 ⟨h.r2.below hb h.r2.lt,h.rl.kept ⟨hb.os,hb.tape,hb.output,hb.size,fun k hk _ => hb.block k hk⟩ (row := none) (by cases lv.ownBlock <;> simp),h.r6.below hb h.r6.lt,h.rv.below hb h.rv.lt,h.r7.below hb h.r7.lt,h.ra.heap (hb.block _ h.ra.lt),h.r8.below hb h.r8.lt,h.bel.trans (hb.mono (by have := h.r2.lt;omega)),by have := h.ord;have := hb.size;omega⟩
theorem PL.grown {e : Est} {s gh ve b7 ab b8 B M : Nat} {w W W' : World} {all : List Ent} {lv : Value} {ws : List Way} {m : Nat} (h : PL e s gh ve b7 ab b8 B M w W all lv ws m) {row : Option Nat} (hg : W.grownBy W' row) (hr : ∀ r,row = some r → s ≤ r ∧ ∃ o : Obj,W.heap[r]? = some o ∧ o.isCells = false) : PL e s gh ve b7 ab b8 B M w W' all lv ws m := by
 have hc : ∀ {k : Nat} {o : Obj},W.heap[k]? = some o → o.isCells = true → W'.heap[k]? = W.heap[k]? := fun hk ho => grownBy_keeps_cells hg (fun r e => (hr r e).2) hk ho
 have hq : W'.heap[ab]? = W.heap[ab]? := by obtain ⟨cur,hcur,_⟩ := h.ra;exact hc hcur rfl
 refine ⟨(hc h.r2 rfl).trans h.r2,?_,(hc h.r6 rfl).trans h.r6,(hc h.rv rfl).trans h.rv,(hc h.r7 rfl).trans h.r7,h.ra.heap hq,(hc h.r8 rfl).trans h.r8,h.bel.grown hg (by have := h.r2.lt;omega) (fun r e => (hr r e).1),by have := h.ord;have := hg.size;omega⟩
 refine h.rl.kept hg ?_
 rcases h.rl.2 with ⟨h1,_⟩ | ⟨g,cap,cur,h1,h2,h3,_⟩
 ·left;rw [h1];rfl
 ·right
  rw [h1]
  intro e
  obtain ⟨_,o,ho,hoc⟩ := hr g e.symm
  rw [h3] at ho
  cases ho
  cases hoc
theorem PL.step {e : Est} {s gh ve b7 ab b8 B M : Nat} {w W W1 W2 W3 : World} {all : List Ent} {lv lv' : Value} {ws : List Way} {m : Nat} {y : Way} (h : PL e s gh ve b7 ab b8 B M w W all lv ws m)
  (hg : W.grownBy W1 lv.ownBlock) (ho : W1.ownsRow B 40 2 lv' (ws.length + 1) (stageCells ws ++ [.int .i64 y.k,.int .i64 y.p])) (h2 : W2 = W1.setCell ⟨s + 1,0,none⟩ lv') (h3 : W2.grownBy W3 (some b8)) (h4 : Row W3 b8 54 (all.getD y.t dE).cells) :
  PL e s gh ve b7 ab b8 B M w W3 all lv' (ws ++ [y]) y.t ∧ Chg (fun k => k = s + 1 ∨ k = b8 ∨ lv.ownBlock = some k) W W3 := by
 have hB : ∀ g,lv.ownBlock = some g → B ≤ g := fun g hg => (h.rl.lt g hg).1
 obtain ⟨o1,o2,o3,o4,o5,o6,o7,o8,o9,o10,o11,o12,o13,o14,o15⟩ := h.ord
 have c1 : Chg (fun k => k = s + 1 ∨ k = b8 ∨ lv.ownBlock = some k) W W1 := Chg.of_grown hg (fun g e => .inr (.inr e))
 have c2 : Chg (fun k => k = s + 1) W1 W2 := by rw [h2];exact Chg.set W1 (s + 1) 0 lv'
 have c3 : Chg (fun k => k = b8) W2 W3 := Chg.of_grown h3 (fun g e => (Option.some.inj e).symm)
 have c12 := c1.trans c2 (fun i _ hx => .inl hx)
 have c := c12.trans c3 (fun i _ hx => .inr (.inl hx))
 have ne : ∀ k,k < B → k ≠ s + 1 → k ≠ b8 → ¬ (k = s + 1 ∨ k = b8 ∨ lv.ownBlock = some k) := fun k hk h1 h2 hx => by
  rcases hx with hx | hx | hx
  ·exact h1 hx
  ·exact h2 hx
  ·have := hB k hx;omega
 have r2' : Row W2 (s + 1) 29 [lv'] := by
  have h5 : Row W1 (s + 1) 29 [lv] := h.r2.grown hg (fun e => by have := hB _ e.symm;omega)
  rw [h2]
  exact h5.set 0 lv'
 refine ⟨⟨c3.row r2' (by omega),?_,c.row h.r6 (ne gh o6 (by omega) (by omega)),c.row h.rv (ne ve o7 (by omega) (by omega)),c.row h.r7 (ne b7 o8 (by omega) (by omega)),c.qr h.ra (ne ab o9 (by omega) (by omega)),h4,?_,?_⟩,c⟩
 ·rw [stageCells_snoc,List.length_append,List.length_singleton]
  have hb' : ∀ g,lv'.ownBlock = some g → B ≤ g := fun g hg => (ho.lt g hg).1
  have h5 : W2.ownsRow B 40 2 lv' (ws.length + 1) (stageCells ws ++ [.int .i64 y.k,.int .i64 y.p]) := by
   rw [h2]
   refine ho.kept (row := some (s + 1)) (grownBy_setCell' W1 (s + 1) lv') ?_
   cases hv : lv'.ownBlock with
   | none => exact .inl rfl
   | some g => right;intro e;have := hb' g hv;have := Option.some.inj e;omega
  refine h5.kept h3 ?_
  cases hv : lv'.ownBlock with
  | none => exact .inl rfl
  | some g => right;intro e;have := hb' g hv;have := Option.some.inj e;omega
 ·refine h.bel.trans (c.below (by have := h.r2.lt;omega) (fun i hi hx => ?_))
  rcases hx with hx | hx | hx
  ·omega
  ·omega
  ·have := hB i hx;omega
 ·have := c.size;omega
theorem results_cell_three {P : Program} {fn : Func} {p q r u : Tmp} {ty : TypeId} (h : fn.results = #[.cell p ty,.tmp q,.tmp r,.tmp u]) (tmps : Array Value) (w : World) (g : Nat) (v : Value)
  (hp : tmps.getD p undef = .pointer (some ⟨g,0,none⟩)) (hc : w.cell? ⟨g,0,none⟩ = some v) (ha : (isAgg ty).run P w = .ok false w) : (results fn tmps).run P w = .ok (.tuple #[v,tmps.getD q undef,tmps.getD r undef,tmps.getD u undef]) w := by
 have hp' : tmps[p]?.getD undef = .pointer (some ⟨g,0,none⟩) := by simpa using hp
 simp [results,h,hp',asAddr,loadVar,ha,hc]
theorem isAgg_stages (w : World) : (isAgg 29).run Tryz.prog w = .ok false w := by kernel_rfl
section
variable {F : Fence} {nF : Nat} {P : Program}
theorem wpIn_append_rd {w : World} {o : Oper} {a : Act} {K : Act → World → Prop} {Q : Exit → Act → World → Prop} (s x : Operand) (t : TypeId)
  (ho : o.op = .call { callee := .builtin .append,args := #[s,x],argTypes := #[t,t] })
  (base : Nat) (e : TypeId) (i : TypeInfo) (z : Value) (size bytes : Nat) (ht : P.underlying t = some (.slice e)) (hi : P.info? e = some i) (hz : i.zero = some z)
  (hsize : i.size = size) (hby : i.bytes = bytes) (hzs : z.cells.size = size) (hsz : 0 < size)
  (v : Value) (n : Nat) (xs : List Value) (hs : a.eval s = v) (hown : w.ownsRow base e size v n xs)
  (B : Nat) (A : Option Addr) (m c : Nat) (news : List Value) (hx : a.eval x = .slice A m c) (hr : Rd w B size A m news) (h1 : ∀ u ∈ news,u.oneCell' = true)
  (h63 : n + m ≤ maxLen) (hbytes : (n + m) * bytes ≤ 140737488355328) (hbase : base ≤ w.heap.size)
  (h : ∀ v' w',w'.ownsRow base e size v' (n + m) (xs ++ news) → w.grownBy w' v.ownBlock → (v'.ownBlock = v.ownBlock ∨ v'.ownBlock = some w.heap.size) → K (a.put o.dst v') w') : o.wpIn F nF P a w K Q := by
 obtain ⟨v',w',hrun,h2,h3,h4⟩ := run_append_rd (P := P) w base t o.type e i z size bytes ht hi hz hsize hby hzs hsz v n xs hown B A m c news hr h1 h63 hbytes hbase
 unfold Oper.wpIn
 refine ⟨by simp [Oper.about,ho,resolve,Target.leads],?_⟩
 rw [Oper.semAt_plain F _ _ (by rw [ho];intro c hc';cases hc')]
 simp [execOp,ho,resolve,invoke,builtin,hs,hx,hrun,Result.andThen]
 exact h v' w' h2 h3 h4
theorem wpIn_store_row {w : World} {o : Oper} {a : Act} {K : Act → World → Prop} {Q : Exit → Act → World → Prop} (ty : TypeId) (x y : Operand) (ho : o.op = .store ty x y)
  (g : Nat) (t : TypeId) (old cs : List Value) (hx : a.eval x = .pointer (some ⟨g,0,none⟩)) (hy : a.eval y = .agg cs.toArray) (hg : Row w g t old) (hl : old.length = cs.length) (hi : (P.info? ty).map (·.size) = some cs.length) (h1 : ∀ u ∈ cs,u.oneCell' = true)
  (h : ∀ w',Row w' g t cs → w.grownBy w' (some g) → K (a.put o.dst undef) w') : o.wpIn F nF P a w K Q := by
 have hrun := run_storeCells_at P g 0 t cs 0 old.toArray w hg (by simp;omega) h1
 simp only [Nat.add_zero] at hrun
 have hsv : (storeVar ty ⟨g,0,none⟩ (.agg cs.toArray)).run P w = .ok () (w.setRow g (old.toArray.toList.take 0 ++ cs ++ old.toArray.toList.drop (0 + cs.length)).toArray) := by
  cases hq : P.info? ty with
  | none => simp [hq] at hi
  | some i =>
   have hs : cs.length = i.size := by simp [hq] at hi;omega
   simp [storeVar,sizeOf,typeInfo,hq,Value.cells,← hs,hrun]
 unfold Oper.wpIn
 refine ⟨by simp [Oper.about,ho],?_⟩
 rw [Oper.semAt_plain F _ _ (by rw [ho];intro c hc';cases hc')]
 unfold execOp
 simp only [ho,hx,hy,Instr.storeAt,Instr.sureAddr,Sem.run_bind,Sem.run_pure,Result.andThen_ok,hsv]
 refine h _ ?_ (grown_row _)
 have h2 := setRow_heap w g old.toArray ((old.toArray.toList.take 0 ++ cs ++ old.toArray.toList.drop (0 + cs.length)).toArray) t (0,0) hg
 rw [show (old.toArray.toList.take 0 ++ cs ++ old.toArray.toList.drop (0 + cs.length)) = cs by simp [hl,List.drop_of_length_le]] at h2 ⊢
 exact h2
end
end Go.Proofs.YtjcpjhlclpdpjaaGreat
