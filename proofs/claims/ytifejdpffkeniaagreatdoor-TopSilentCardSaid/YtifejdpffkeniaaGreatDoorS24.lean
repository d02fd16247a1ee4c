import Derived.BigQuiet
import Derived.Deep.QuietTactic
import Derived.Test.YtifejdpffkeniaaGreatDoorS23
set_option linter.unusedVariables false
set_option maxRecDepth 100000
set_option maxHeartbeats 40000000
namespace Go.Proofs.YtifejdpffkeniaaGreatDoor
open Go.RowKit
theorem numL_bytes : ∀ (u : Nat),∀ x ∈ Cd.numL u,Sh.Byt x := by
 intro u
 induction u using Nat.strongRecOn with
 | ind u ih =>
  intro x hx
  by_cases h : u < 128
  ·rw [Cd.numL_small h] at hx
   obtain rfl : x = u := by simpa using hx
   exact ⟨by omega,by omega⟩
  ·rw [Cd.numL_big h] at hx
   rcases List.mem_cons.1 hx with rfl | hx
   ·exact Sh.wrap8 _
   ·exact ih (u / 128) (by omega) x hx
theorem enc2_bytes (d n : Nat) : ∀ x ∈ enc2 d n,0 ≤ x ∧ x < 256 := by
 intro x hx;unfold enc2 at hx;simp only [List.cons_append,List.nil_append,List.mem_cons,List.mem_append] at hx
 rcases hx with rfl | rfl | rfl | hx | rfl | hx
 ·decide
 ·decide
 ·decide
 ·exact numL_bytes _ x hx
 ·decide
 ·exact numL_bytes _ x hx
theorem enc2_length (d n : Nat) (hd : d < 4611686018427387904) (hn : n < 4611686018427387904) : (enc2 d n).length ≤ 100 := by
 have h1 := Cd.numL_ten (u := 2 * d) (by omega);have h2 := Cd.numL_ten (u := 2 * n) (by omega);unfold enc2;simp only [List.length_append,List.length_cons,List.length_nil];omega
def tagS : ByteArray := ⟨#[116,97,103]⟩
def Du.ho (K : Sh.Cst) (d n : Nat) : Int := Sh.hash K (strInts tagS) (enc2 d n)
theorem rd_two (W : World) (d n : Int) (t : TypeId) : Rd (W.alloc (.cells #[.int .i64 1,.int .i64 d,.string ⟨#[]⟩,.slice none 0 0,.int .i64 1,.int .i64 n,.string ⟨#[]⟩,.slice none 0 0] t)) (W.heap.size + 1) 4 (some ⟨W.heap.size,0,none⟩) 2 (intCells [d,n]) := by
 refine ⟨rfl,fun _ => ⟨W.heap.size,0,rfl,by omega,fun j u hu => ?_⟩⟩;rw [cell_of_row _ W.heap.size (0 + j) _ _ _ (heap_alloc_new W _),Nat.zero_add]
 simpa [intCells] using hu
theorem Laid.drew {w : World} (h : Laid w) : Laid w.drew := ⟨h.start,h.nums,h.size⟩
theorem on_yes (K : Sh.Cst) (a b c : Int) (d n : Nat) (w : World) (hr : Du.right a b c = true) (hp : Du.poss d n = true) (hL : Laid w) :
  Calls Tryz.prog 18 #[silV a b c,.int .i64 d,.int .i64 n] w fun e w' => e = .returned (.tuple #[.iface 147 (occV a b c (Du.ho K d n)),.int .i64 0]) ∧ Below w.heap.size w w' := by
 have hp' := Du.poss_iff.1 hp;have HR := Lib.hid hr;have HP := Lib.hid hp;have hra := right_any a b c;clear hr hp;obtain ⟨_,hd,_,hn⟩ := hp';unfold silV at hra ⊢;go_enter Tryz.func18,Tryz.ntmps18
 go_wp2_with fail
 refine (hra _).mono ?_;rintro e w1 ⟨he,hb1⟩;rw [HR.out] at he;subst he;have hB1 := ((Below.refl w.heap.size w).alloc (Nat.le_refl _) _).trans (hb1.mono (by simp))
 have k0 : ∀ i,i < 3 → w1.cell? ⟨w.heap.size,i,none⟩ = some (.int .i64 ([a,b,c].getD i 0)) := fun i hi => by
  rw [hb1.cell (p := ⟨w.heap.size,i,none⟩) (by simp),cell_of_row _ w.heap.size i _ _ _ (heap_alloc_new w _)]
  match i,hi with
  | 0,_ => rfl
  | 1,_ => rfl
  | 2,_ => rfl
 have hs1 : w.heap.size < w1.heap.size := by have := hb1.size;simp at this;omega
 have K0 := Lib.hid k0;clear k0 hb1 hra
 go_wp2_with fail
 refine (possible_any _ _ _).mono ?_;rintro e w' ⟨he,rfl⟩;rw [HP.out] at he;subst he;have henc := fun g c w h1 h2 => encode_two g c d n w (by omega) (by omega) h1 h2;unfold listV at henc
 go_wp2_with fail
 refine (henc _ _ _ (by rw [World.size_alloc];exact rd_two w1 d n _) (by simp)).mono ?_;clear henc;rintro e w2 ⟨A2,c2,rfl,hR2,hl2,hc2,hb2⟩;have hB2 := (hB1.alloc hB1.size _).trans (hb2.mono (by have := hB1.size;simp;omega));have p0 : w2.cell? ⟨w.heap.size,0,none⟩ = some (.int .i64 a) := (hb2.cell (p := ⟨w.heap.size,0,none⟩) (by simp;omega)).trans ((World.cell?_alloc_lt _ _ _ hs1).trans (K0.out 0 (by omega)));have p1 : w2.cell? ⟨w.heap.size,1,none⟩ = some (.int .i64 b) := (hb2.cell (p := ⟨w.heap.size,1,none⟩) (by simp;omega)).trans ((World.cell?_alloc_lt _ _ _ hs1).trans (K0.out 1 (by omega)));have p2 : w2.cell? ⟨w.heap.size,2,none⟩ = some (.int .i64 c) := (hb2.cell (p := ⟨w.heap.size,2,none⟩) (by simp;omega)).trans ((World.cell?_alloc_lt _ _ _ hs1).trans (K0.out 2 (by omega)));have hs2 : w.heap.size < w2.heap.size := by have := hb2.size;simp at this;omega
 clear hb2;have hel := enc2_length d n (by omega) (by omega);have HEL := Lib.hid hel;have HR2 := Lib.hid hR2;clear hel hR2;have hLw := Lib.hid (hL.below hB2 hL.size);obtain ⟨ln,hln⟩ : ∃ ln,(enc2 d n).length = ln := ⟨_,rfl⟩;rw [hln] at hl2 ⊢;have HLN := Lib.hid hln;clear hln;go_wp2
 go_region_held3 (fun w' => w'.cell? ⟨w.heap.size,0,none⟩ = some (.int .i64 a) ∧ w'.cell? ⟨w.heap.size,1,none⟩ = some (.int .i64 b) ∧ w'.cell? ⟨w.heap.size,2,none⟩ = some (.int .i64 c))
  (first
   | (go_keep;done)
   | exact ⟨(hk3 ⟨w.heap.size,0,none⟩ hs2).trans p0,(hk3 ⟨w.heap.size,1,none⟩ hs2).trans p1,(hk3 ⟨w.heap.size,2,none⟩ hs2).trans p2⟩)
  ((go_at_call 65;(refine (ghash_any K tagS A2 ln c2 (enc2 d n) _ (by decide) (by have h := HLN.out;subst h;exact HR2.out.drew) (enc2_bytes d n) (by have h1 := HLN.out;have h2 := HEL.out;omega) hl2 hc2 hLw.out.drew).mono ?_);rintro e w3 ⟨rfl,hb3⟩;have hk3 := bel_keep hb3))
 have hB3 := hB2.trans (Below.mono ⟨hb3.os,hb3.tape,hb3.output,hb3.size,hb3.block⟩ hB2.size);go_wp2;go_ret2;exact ⟨rfl,hB3⟩
theorem on_silent (a b c d n : Int) (w : World) (hr : Du.right a b c = false) :
  Calls Tryz.prog 18 #[silV a b c,.int .i64 d,.int .i64 n] w fun e w' => e = .returned (.tuple #[.nilIface,.int .i64 470]) ∧ Below w.heap.size w w' := by
 have HR := Lib.hid hr;have hra := right_any a b c;clear hr;unfold silV at hra ⊢;go_enter Tryz.func18,Tryz.ntmps18
 go_wp2_with fail
 refine (hra _).mono ?_;rintro e w1 ⟨he,hb1⟩;rw [HR.out] at he;subst he;have hB1 := ((Below.refl w.heap.size w).alloc (Nat.le_refl _) _).trans (hb1.mono (by simp));clear hb1 hra;go_wp2;go_ret2;exact ⟨rfl,hB1⟩
theorem on_arg (a b c d n : Int) (w : World) (hr : Du.right a b c = true) (hp : Du.poss d n = false) :
  Calls Tryz.prog 18 #[silV a b c,.int .i64 d,.int .i64 n] w fun e w' => e = .returned (.tuple #[.nilIface,.int .i64 1]) ∧ Below w.heap.size w w' := by
 have HR := Lib.hid hr;have HP := Lib.hid hp;have hra := right_any a b c;clear hr hp;unfold silV at hra ⊢;go_enter Tryz.func18,Tryz.ntmps18
 go_wp2_with fail
 refine (hra _).mono ?_;rintro e w1 ⟨he,hb1⟩;rw [HR.out] at he;subst he;have hB1 := ((Below.refl w.heap.size w).alloc (Nat.le_refl _) _).trans (hb1.mono (by simp));clear hb1 hra
 go_wp2_with fail
 refine (possible_any _ _ _).mono ?_;rintro e w' ⟨he,rfl⟩;rw [HP.out] at he;subst he;go_wp2;go_ret2;exact ⟨rfl,hB1⟩
namespace Du
def hoI (K : Sh.Cst) (d n : Int) : Int := ho K d.toNat n.toNat
def tagR (K : Sh.Cst) (a b c d n : Int) (co : Bool) : Int × Int := if right a b c then (if poss d n then (tag a b c (hoI K d n) co,0) else (0,1)) else (0,470)
def readR (K : Sh.Cst) (a b c d n t : Int) : Bool × Bool × Int :=
 if right a b c then (if poss d n then (if num t then ((said a b c (hoI K d n) t).1,(said a b c (hoI K d n) t).2,0) else (false,false,1)) else (false,false,1)) else (false,false,470)
theorem tagR_silent {K : Sh.Cst} {a b c d n : Int} {co : Bool} (h : right a b c = false) : tagR K a b c d n co = (0,470) := by simp [tagR,h]
theorem tagR_arg {K : Sh.Cst} {a b c d n : Int} {co : Bool} (h : right a b c = true) (h2 : poss d n = false) : tagR K a b c d n co = (0,1) := by simp [tagR,h,h2]
theorem tagR_yes {K : Sh.Cst} {a b c d n : Int} {co : Bool} (h : right a b c = true) (h2 : poss d n = true) : tagR K a b c d n co = (tag a b c (hoI K d n) co,0) := by simp [tagR,h,h2]
theorem readR_silent {K : Sh.Cst} {a b c d n t : Int} (h : right a b c = false) : readR K a b c d n t = (false,false,470) := by simp [readR,h]
theorem readR_arg {K : Sh.Cst} {a b c d n t : Int} (h : right a b c = true) (h2 : poss d n = false) : readR K a b c d n t = (false,false,1) := by simp [readR,h,h2]
theorem readR_num {K : Sh.Cst} {a b c d n t : Int} (h : right a b c = true) (h2 : poss d n = true) (h3 : num t = false) : readR K a b c d n t = (false,false,1) := by simp [readR,h,h2,h3]
theorem readR_yes {K : Sh.Cst} {a b c d n t : Int} (h : right a b c = true) (h2 : poss d n = true) (h3 : num t = true) : readR K a b c d n t = ((said a b c (hoI K d n) t).1,(said a b c (hoI K d n) t).2,0) := by simp [readR,h,h2,h3]
end Du
theorem on_yesI (K : Sh.Cst) (a b c d n : Int) (w : World) (hr : Du.right a b c = true) (hp : Du.poss d n = true) (hL : Laid w) :
  Calls Tryz.prog 18 #[silV a b c,.int .i64 d,.int .i64 n] w fun e w' => e = .returned (.tuple #[.iface 147 (occV a b c (Du.hoI K d n)),.int .i64 0]) ∧ Below w.heap.size w w' := by
 have h1 := Du.poss_iff.1 hp;obtain ⟨d',rfl⟩ := Int.eq_ofNat_of_zero_le h1.1;obtain ⟨n',rfl⟩ := Int.eq_ofNat_of_zero_le h1.2.2.1;exact on_yes K a b c d' n' w hr hp hL
theorem ret2_mk {j k : IntKind} {p : Int × Int} {a b : Int} (h : p = (a,b)) : Ending.returned (.tuple #[.int j a,.int k b]) = .returned (.tuple #[.int j p.1,.int k p.2]) := by rw [h]
theorem dtag_any (K : Sh.Cst) (a b c d n : Int) (co : Bool) (w : World) (hL : Laid w) :
  Calls Tryz.prog 4 #[silV a b c,.int .i64 d,.int .i64 n,.bool co] w fun e w' => e = .returned (.tuple #[.int .i64 (Du.tagR K a b c d n co).1,.int .i64 (Du.tagR K a b c d n co).2]) ∧ Below w.heap.size w w' := by
 have hHL := Lib.hid (hL.below ((Below.refl w.heap.size w).alloc (Nat.le_refl _) (.cells #[.int .i64 a,.int .i64 b,.int .i64 c] 37)) hL.size)
 cases hr : Du.right a b c with
 | false =>
  have hon := fun w => on_silent a b c d n w hr;have H := Lib.hid (Du.tagR_silent (K := K) (d := d) (n := n) (co := co) hr);clear hr;generalize Du.tagR K a b c d n co = R at *;unfold silV at hon ⊢;go_enter Tryz.func4,Tryz.ntmps4
  go_wp2_with fail
  refine (hon _).mono ?_;rintro e w1 ⟨rfl,hb1⟩;have hB1 := ((Below.refl w.heap.size w).alloc (Nat.le_refl _) _).trans (hb1.mono (by simp));go_wp2;go_ret2;exact ⟨ret2_mk H.out,hB1⟩
 | true =>
  cases hp : Du.poss d n with
  | false =>
   have hon := fun w => on_arg a b c d n w hr hp;have H := Lib.hid (Du.tagR_arg (K := K) (co := co) hr hp);clear hr hp;generalize Du.tagR K a b c d n co = R at *;unfold silV at hon ⊢;go_enter Tryz.func4,Tryz.ntmps4
   go_wp2_with fail
   refine (hon _).mono ?_;rintro e w1 ⟨rfl,hb1⟩;have hB1 := ((Below.refl w.heap.size w).alloc (Nat.le_refl _) _).trans (hb1.mono (by simp));go_wp2;go_ret2;exact ⟨ret2_mk H.out,hB1⟩
  | true =>
   have hon := fun w hL => on_yesI K a b c d n w hr hp hL;have H := Lib.hid (Du.tagR_yes (K := K) (co := co) hr hp);have ht := tag_any a b c (Du.hoI K d n) co;clear hr hp;generalize Du.tagR K a b c d n co = R at *;generalize Du.hoI K d n = h at *;generalize Du.tag a b c h co = T at *;unfold silV at hon ⊢;unfold occV at hon ht;go_enter Tryz.func4,Tryz.ntmps4
   go_wp2_with fail
   refine (hon _ hHL.out).mono ?_;rintro e w1 ⟨rfl,hb1⟩;have hB1 := ((Below.refl w.heap.size w).alloc (Nat.le_refl _) _).trans (hb1.mono (by simp));clear hb1 hon
   go_wp2_with fail
   refine (ht _).mono ?_;rintro e w2 ⟨rfl,hb2⟩;go_wp2;go_ret2;exact ⟨ret2_mk H.out,hB1.trans (hb2.mono hB1.size)⟩
theorem ret3_mk {k : IntKind} {p : Bool × Bool × Int} {a b : Bool} {c : Int} (h : p = (a,b,c)) : Ending.returned (.tuple #[.bool a,.bool b,.int k c]) = .returned (.tuple #[.bool p.1,.bool p.2.1,.int k p.2.2]) := by rw [h]
theorem dread_any (K : Sh.Cst) (a b c d n t : Int) (w : World) (hL : Laid w) :
  Calls Tryz.prog 54 #[silV a b c,.int .i64 d,.int .i64 n,.int .i64 t] w fun e w' => e = .returned (.tuple #[.bool (Du.readR K a b c d n t).1,.bool (Du.readR K a b c d n t).2.1,.int .i64 (Du.readR K a b c d n t).2.2]) ∧ Below w.heap.size w w' := by
 have hHL := Lib.hid (hL.below ((Below.refl w.heap.size w).alloc (Nat.le_refl _) (.cells #[.int .i64 a,.int .i64 b,.int .i64 c] 37)) hL.size)
 cases hr : Du.right a b c with
 | false =>
  have hon := fun w => on_silent a b c d n w hr;have H := Lib.hid (Du.readR_silent (K := K) (d := d) (n := n) (t := t) hr);clear hr;generalize Du.readR K a b c d n t = R at *;unfold silV at hon ⊢;go_enter Tryz.func54,Tryz.ntmps54
  go_wp2_with fail
  refine (hon _).mono ?_;rintro e w1 ⟨rfl,hb1⟩;have hB1 := ((Below.refl w.heap.size w).alloc (Nat.le_refl _) _).trans (hb1.mono (by simp));go_wp2;go_ret3;exact ⟨ret3_mk H.out,hB1⟩
 | true =>
  cases hp : Du.poss d n with
  | false =>
   have hon := fun w => on_arg a b c d n w hr hp;have H := Lib.hid (Du.readR_arg (K := K) (t := t) hr hp);clear hr hp;generalize Du.readR K a b c d n t = R at *;unfold silV at hon ⊢;go_enter Tryz.func54,Tryz.ntmps54
   go_wp2_with fail
   refine (hon _).mono ?_;rintro e w1 ⟨rfl,hb1⟩;have hB1 := ((Below.refl w.heap.size w).alloc (Nat.le_refl _) _).trans (hb1.mono (by simp));go_wp2;go_ret3;exact ⟨ret3_mk H.out,hB1⟩
  | true =>
   have hon := fun w hL => on_yesI K a b c d n w hr hp hL
   cases hn : Du.num t with
   | false =>
    have H := Lib.hid (Du.readR_num (K := K) hr hp hn);have HN := Lib.hid hn;clear hr hp hn;generalize Du.readR K a b c d n t = R at *;generalize Du.hoI K d n = h at *;unfold silV at hon ⊢;unfold occV at hon;go_enter Tryz.func54,Tryz.ntmps54
    go_wp2_with fail
    refine (hon _ hHL.out).mono ?_;rintro e w1 ⟨rfl,hb1⟩;have hB1 := ((Below.refl w.heap.size w).alloc (Nat.le_refl _) _).trans (hb1.mono (by simp));clear hb1 hon
    go_wp2_with fail
    refine (number_any _ _).mono ?_;rintro e w' ⟨he,rfl⟩;rw [HN.out] at he;subst he;go_wp2;go_ret3;exact ⟨ret3_mk H.out,hB1⟩
   | true =>
    have H := Lib.hid (Du.readR_yes (K := K) hr hp hn);have HN := Lib.hid hn;have ht := read_occ a b c (Du.hoI K d n) t;clear hr hp hn;generalize Du.readR K a b c d n t = R at *;generalize Du.hoI K d n = h at *;generalize Du.said a b c h t = S at *;unfold silV at hon ⊢;unfold occV at hon ht;go_enter Tryz.func54,Tryz.ntmps54
    go_wp2_with fail
    refine (hon _ hHL.out).mono ?_;rintro e w1 ⟨rfl,hb1⟩;have hB1 := ((Below.refl w.heap.size w).alloc (Nat.le_refl _) _).trans (hb1.mono (by simp));clear hb1 hon
    go_wp2_with fail
    refine (number_any _ _).mono ?_;rintro e w' ⟨he,rfl⟩;rw [HN.out] at he;subst he
    go_wp2_with fail
    refine (ht _).mono ?_;rintro e w2 ⟨rfl,hb2⟩;go_wp2;go_ret3;exact ⟨ret3_mk H.out,hB1.trans (hb2.mono hB1.size)⟩
theorem results_cell_tmp2 {P : Program} {fn : Func} {p q r : Tmp} {ty : TypeId} (h : fn.results = #[.cell p ty,.tmp q,.tmp r]) (tmps : Array Value) (w : World) (g : Nat) (t : TypeId) (cs : Array Value) (fr : Nat × Nat) (d : TypeDesc)
  (hp : tmps.getD p undef = .pointer (some ⟨g,0,none⟩)) (hg : w.heap[g]? = some (.cells cs t fr))
  (hu : P.underlying ty = some d) (hd : (match d with | .struct _ | .array _ _ => true | _ => false) = true) (hi : (P.info? ty).map (·.size) = some cs.size) :
  (results fn tmps).run P w = .ok (.tuple #[.agg cs,tmps.getD q undef,tmps.getD r undef]) w := by
 have hp' : tmps[p]?.getD undef = .pointer (some ⟨g,0,none⟩) := by simpa using hp
 simp [results,h,hp',asAddr,run_loadVar_row w g t ty cs fr d hg hu hd hi]
namespace Du
def eitherR (K : Sh.Cst) (a b c d n t : Int) : Int × Int × Int × Bool × Int :=
 if poss d n && num t then
  (if right a b c then
   (if (said a b c (hoI K d n) t).2 then (Fm.ad a (if (said a b c (hoI K d n) t).1 then c else -c),b,c,true,0) else (0,0,0,false,0))
  else (0,0,0,false,470))
 else (0,0,0,false,1)
end Du
def eithV (p : Int × Int × Int × Bool × Int) : Value := .tuple #[silV p.1 p.2.1 p.2.2.1,.bool p.2.2.2.1,.int .i64 p.2.2.2.2]
theorem ret5_mk {p : Int × Int × Int × Bool × Int} {a b c : Int} {o : Bool} {e : Int} (h : p = (a,b,c,o,e)) : Ending.returned (.tuple #[.agg #[.int .i64 a,.int .i64 b,.int .i64 c],.bool o,.int .i64 e]) = .returned (eithV p) := by rw [h];rfl
theorem deither_any (K : Sh.Cst) (a b c d n t : Int) (w : World) (hL : Laid w) :
  Calls Tryz.prog 55 #[.int .i64 d,.int .i64 n,.int .i64 t,silV a b c] w fun e w' => e = .returned (eithV (Du.eitherR K a b c d n t)) ∧ Below w.heap.size w w' := by
 have hHL := Lib.hid (hL.below (((Below.refl w.heap.size w).alloc (Nat.le_refl _) (.cells #[.int .i64 a,.int .i64 b,.int .i64 c] 37)).alloc (by simp) (.cells #[.int .i64 0,.int .i64 0,.int .i64 0] 37)) hL.size);have hS0 := (Ints.new w 37 .i64 [a,b,c]).alloc (.cells #[.int .i64 0,.int .i64 0,.int .i64 0] 37);have hX0 := Ints.new (w.alloc (.cells #[.int .i64 a,.int .i64 b,.int .i64 c] 37)) 37 .i64 [0,0,0];rw [World.size_alloc] at hX0;have hB0 := ((Below.refl w.heap.size w).alloc (Nat.le_refl _) (.cells #[.int .i64 a,.int .i64 b,.int .i64 c] 37)).alloc (by simp) (.cells #[.int .i64 0,.int .i64 0,.int .i64 0] 37);have H0 := Lib.hid (And.intro hS0 (And.intro hX0 hB0));clear hS0 hX0 hB0
 cases hp : Du.poss d n with
 | false =>
  have H := Lib.hid (show Du.eitherR K a b c d n t = (0,0,0,false,1) by simp [Du.eitherR,hp]);have HP := Lib.hid hp;clear hp;generalize Du.eitherR K a b c d n t = R at *;unfold silV;go_enter Tryz.func55,Tryz.ntmps55
  go_wp2_with fail
  refine (possible_any _ _ _).mono ?_;rintro e w' ⟨he,rfl⟩;rw [HP.out] at he;subst he;go_wp2;refine bodyPost_ret (results_cell_tmp2 (p := 8) (q := 9) (r := 10) rfl _ _ (w.heap.size + 1) 37 _ (0,0) _ (by rfl) H0.out.2.1 Tryz.underlying37 (by rfl) (by kernel_rfl)) rfl ?_;exact ⟨ret5_mk H.out,H0.out.2.2⟩
 | true =>
  cases hn : Du.num t with
  | false =>
   have H := Lib.hid (show Du.eitherR K a b c d n t = (0,0,0,false,1) by simp [Du.eitherR,hn]);have HP := Lib.hid hp;have HN := Lib.hid hn;clear hp hn;generalize Du.eitherR K a b c d n t = R at *;unfold silV;go_enter Tryz.func55,Tryz.ntmps55
   go_wp2_with fail
   refine (possible_any _ _ _).mono ?_;rintro e w' ⟨he,rfl⟩;rw [HP.out] at he;subst he
   go_wp2_with fail
   refine (number_any _ _).mono ?_;rintro e w' ⟨he,rfl⟩;rw [HN.out] at he;subst he;go_wp2;refine bodyPost_ret (results_cell_tmp2 (p := 8) (q := 9) (r := 10) rfl _ _ (w.heap.size + 1) 37 _ (0,0) _ (by rfl) H0.out.2.1 Tryz.underlying37 (by rfl) (by kernel_rfl)) rfl ?_;exact ⟨ret5_mk H.out,H0.out.2.2⟩
  | true =>
   have hrd := fun w hL => dread_any K a b c d n t w hL;have HP := Lib.hid hp;have HN := Lib.hid hn
   cases hr : Du.right a b c with
   | false =>
    have H := Lib.hid (show Du.eitherR K a b c d n t = (0,0,0,false,470) by simp [Du.eitherR,hn,hp,hr]);have hR := Du.readR_silent (K := K) (d := d) (n := n) (t := t) hr;rw [hR] at hrd;clear hp hn hr hR;generalize Du.eitherR K a b c d n t = R at *;unfold silV at hrd ⊢;go_enter Tryz.func55,Tryz.ntmps55
    go_wp2_with fail
    refine (possible_any _ _ _).mono ?_;rintro e w' ⟨he,rfl⟩;rw [HP.out] at he;subst he
    go_wp2_with fail
    refine (number_any _ _).mono ?_;rintro e w' ⟨he,rfl⟩;rw [HN.out] at he;subst he
    go_wp2_with fail
    refine (hrd _ hHL.out).mono ?_;rintro e w1 ⟨rfl,hb1⟩;obtain ⟨hS0,hX0,hB0⟩ := H0.out;have hS := hS0.below hb1 (by simp;omega);have hX := hX0.below hb1 (by simp);have hB := hB0.trans (hb1.mono hB0.size);clear hb1 hS0 hX0 hB0 hrd
    go_wp2_with (first | (refine wpList_load_row rfl 37 (.tmp 8) rfl (w.heap.size + 1) (by rfl) 37 _ (0,0) _ hX Tryz.underlying37 (by rfl) (by kernel_rfl) ?_) | (refine wpList_store_same rfl 37 (.tmp 8) (.tmp 38) rfl (w.heap.size + 1) _ (by rfl) (by rfl) 37 hX (by kernel_rfl) (ints_one .i64 _) ?_))
    refine bodyPost_ret (results_cell_tmp2 (p := 8) (q := 9) (r := 10) rfl _ _ (w.heap.size + 1) 37 _ (0,0) _ (by rfl) hX Tryz.underlying37 (by rfl) (by kernel_rfl)) rfl ?_;exact ⟨ret5_mk H.out,hB⟩
   | true =>
    have hR := Du.readR_yes (K := K) hr hp hn;have hcb := Du.right_iff.1 hr;rw [hR] at hrd;clear hR
    cases h2 : (Du.said a b c (Du.hoI K d n) t).2 with
    | false =>
     have H := Lib.hid (show Du.eitherR K a b c d n t = (0,0,0,false,0) by simp [Du.eitherR,hn,hp,hr,h2]);rw [h2] at hrd;clear hp hn hr hcb h2;generalize Du.eitherR K a b c d n t = R at *;generalize (Du.said a b c (Du.hoI K d n) t).1 = s1 at *;unfold silV at hrd ⊢;go_enter Tryz.func55,Tryz.ntmps55
     go_wp2_with fail
     refine (possible_any _ _ _).mono ?_;rintro e w' ⟨he,rfl⟩;rw [HP.out] at he;subst he
     go_wp2_with fail
     refine (number_any _ _).mono ?_;rintro e w' ⟨he,rfl⟩;rw [HN.out] at he;subst he
     go_wp2_with fail
     refine (hrd _ hHL.out).mono ?_;rintro e w1 ⟨rfl,hb1⟩;obtain ⟨hS0,hX0,hB0⟩ := H0.out;have hS := hS0.below hb1 (by simp;omega);have hX := hX0.below hb1 (by simp);have hB := hB0.trans (hb1.mono hB0.size);clear hb1 hS0 hX0 hB0 hrd
     go_wp2_with (first | (refine wpList_load_row rfl 37 (.tmp 8) rfl (w.heap.size + 1) (by rfl) 37 _ (0,0) _ hX Tryz.underlying37 (by rfl) (by kernel_rfl) ?_) | (refine wpList_store_same rfl 37 (.tmp 8) (.tmp 38) rfl (w.heap.size + 1) _ (by rfl) (by rfl) 37 hX (by kernel_rfl) (ints_one .i64 _) ?_))
     refine bodyPost_ret (results_cell_tmp2 (p := 8) (q := 9) (r := 10) rfl _ _ (w.heap.size + 1) 37 _ (0,0) _ (by rfl) hX Tryz.underlying37 (by rfl) (by kernel_rfl)) rfl ?_;exact ⟨ret5_mk H.out,hB⟩
    | true =>
     have HT := Lib.hid h2;rw [h2] at hrd
     cases h1 : (Du.said a b c (Du.hoI K d n) t).1 with
     | false =>
      have H := Lib.hid (show Du.eitherR K a b c d n t = (Fm.ad a (-c),b,c,true,0) by simp [Du.eitherR,hn,hp,hr,h2,h1]);rw [h1] at hrd;obtain ⟨_,_,hc1,hc2⟩ := hcb;clear hp hn hr h1 h2;generalize Du.eitherR K a b c d n t = R at *;unfold silV at hrd ⊢;go_enter Tryz.func55,Tryz.ntmps55
      go_wp2_with fail
      refine (possible_any _ _ _).mono ?_;rintro e w' ⟨he,rfl⟩;rw [HP.out] at he;subst he
      go_wp2_with fail
      refine (number_any _ _).mono ?_;rintro e w' ⟨he,rfl⟩;rw [HN.out] at he;subst he
      go_wp2_with fail
      refine (hrd _ hHL.out).mono ?_;rintro e w1 ⟨rfl,hb1⟩;obtain ⟨hS0,hX0,hB0⟩ := H0.out;have hS := hS0.below hb1 (by simp;omega);have hX := hX0.below hb1 (by simp);have hB := hB0.trans (hb1.mono hB0.size);clear hb1 hS0 hX0 hB0 hrd;have a0 : _ = some (Value.int .i64 a) := hS.cell? 0;have a2 : _ = some (Value.int .i64 c) := hS.cell? 2
      go_wp2_with (first | (refine wpList_load_row rfl 37 (.tmp 7) rfl (w.heap.size) (by rfl) 37 _ (0,0) _ hS Tryz.underlying37 (by rfl) (by kernel_rfl) ?_) | (refine wpList_store_ints rfl 37 (.tmp 8) (.tmp 46) rfl (w.heap.size + 1) .i64 [a,b,c] (by rfl) (by rfl) 37 _ hX (by rfl) (by kernel_rfl) ?_;intro w2 hX2 hg2;have a0' := (hg2.cell a0 (by simp))))
      have hB2 := hB.grown hg2 hB.size (fun g e => by injection e with e;omega);refine (dsum_new _ _ _).mono ?_;rintro e w3 ⟨rfl,hb3⟩;have hX3 := (hX2.alloc (.cells #[.int .i64 a,.int .i64 (-c)] 3)).below hb3 (by have := hX2.lt;omega);have hB3 := (hB2.alloc hB2.size (.cells #[.int .i64 a,.int .i64 (-c)] 3)).trans (hb3.mono (by have := hB2.size;omega));have z0 : _ = some (Value.int .i64 a) := hX3.cell? 0;have f0 := hX3.frozen 0;have hX4 : Ints (w3.setCell ⟨w.heap.size + 1,0,none⟩ (.int .i64 (Fm.ad a (-c)))) (w.heap.size + 1) 37 .i64 [Fm.ad a (-c),b,c] := hX3.set_ 0 _;have hB4 := hB3.setCell (p := ⟨w.heap.size + 1,0,none⟩) (by simp) (.int .i64 (Fm.ad a (-c)));clear hX3 hX2 hb3 hg2 a0 a0' a2
      go_wp2_with (first | (refine wpList_load_row rfl 37 (.tmp 8) rfl (w.heap.size + 1) (by rfl) 37 _ (0,0) _ hX4 Tryz.underlying37 (by rfl) (by kernel_rfl) ?_) | (refine wpList_store_same rfl 37 (.tmp 8) (.tmp 53) rfl (w.heap.size + 1) _ (by rfl) (by rfl) 37 hX4 (by kernel_rfl) (ints_one .i64 _) ?_))
      refine bodyPost_ret (results_cell_tmp2 (p := 8) (q := 9) (r := 10) rfl _ _ (w.heap.size + 1) 37 _ (0,0) _ (by rfl) hX4 Tryz.underlying37 (by rfl) (by kernel_rfl)) rfl ?_;exact ⟨ret5_mk H.out,hB4⟩
     | true =>
      have H := Lib.hid (show Du.eitherR K a b c d n t = (Fm.ad a c,b,c,true,0) by simp [Du.eitherR,hn,hp,hr,h2,h1]);rw [h1] at hrd;obtain ⟨_,_,hc1,hc2⟩ := hcb;clear hp hn hr h1 h2;generalize Du.eitherR K a b c d n t = R at *;unfold silV at hrd ⊢;go_enter Tryz.func55,Tryz.ntmps55
      go_wp2_with fail
      refine (possible_any _ _ _).mono ?_;rintro e w' ⟨he,rfl⟩;rw [HP.out] at he;subst he
      go_wp2_with fail
      refine (number_any _ _).mono ?_;rintro e w' ⟨he,rfl⟩;rw [HN.out] at he;subst he
      go_wp2_with fail
      refine (hrd _ hHL.out).mono ?_;rintro e w1 ⟨rfl,hb1⟩;obtain ⟨hS0,hX0,hB0⟩ := H0.out;have hS := hS0.below hb1 (by simp;omega);have hX := hX0.below hb1 (by simp);have hB := hB0.trans (hb1.mono hB0.size);clear hb1 hS0 hX0 hB0 hrd;have a0 : _ = some (Value.int .i64 a) := hS.cell? 0;have a2 : _ = some (Value.int .i64 c) := hS.cell? 2
      go_wp2_with (first | (refine wpList_load_row rfl 37 (.tmp 7) rfl (w.heap.size) (by rfl) 37 _ (0,0) _ hS Tryz.underlying37 (by rfl) (by kernel_rfl) ?_) | (refine wpList_store_ints rfl 37 (.tmp 8) (.tmp 46) rfl (w.heap.size + 1) .i64 [a,b,c] (by rfl) (by rfl) 37 _ hX (by rfl) (by kernel_rfl) ?_;intro w2 hX2 hg2;have a0' := (hg2.cell a0 (by simp))))
      have hB2 := hB.grown hg2 hB.size (fun g e => by injection e with e;omega);refine (dsum_new _ _ _).mono ?_;rintro e w3 ⟨rfl,hb3⟩;have hX3 := (hX2.alloc (.cells #[.int .i64 a,.int .i64 (c)] 3)).below hb3 (by have := hX2.lt;omega);have hB3 := (hB2.alloc hB2.size (.cells #[.int .i64 a,.int .i64 (c)] 3)).trans (hb3.mono (by have := hB2.size;omega));have z0 : _ = some (Value.int .i64 a) := hX3.cell? 0;have f0 := hX3.frozen 0;have hX4 : Ints (w3.setCell ⟨w.heap.size + 1,0,none⟩ (.int .i64 (Fm.ad a (c)))) (w.heap.size + 1) 37 .i64 [Fm.ad a (c),b,c] := hX3.set_ 0 _;have hB4 := hB3.setCell (p := ⟨w.heap.size + 1,0,none⟩) (by simp) (.int .i64 (Fm.ad a (c)));clear hX3 hX2 hb3 hg2 a0 a0' a2
      go_wp2_with (first | (refine wpList_load_row rfl 37 (.tmp 8) rfl (w.heap.size + 1) (by rfl) 37 _ (0,0) _ hX4 Tryz.underlying37 (by rfl) (by kernel_rfl) ?_) | (refine wpList_store_same rfl 37 (.tmp 8) (.tmp 53) rfl (w.heap.size + 1) _ (by rfl) (by rfl) 37 hX4 (by kernel_rfl) (ints_one .i64 _) ?_))
      refine bodyPost_ret (results_cell_tmp2 (p := 8) (q := 9) (r := 10) rfl _ _ (w.heap.size + 1) 37 _ (0,0) _ (by rfl) hX4 Tryz.underlying37 (by rfl) (by kernel_rfl)) rfl ?_;exact ⟨ret5_mk H.out,hB4⟩
end Go.Proofs.YtifejdpffkeniaaGreatDoor
namespace Go.Proofs.YtifejdpffkeniaaGreatDoor
open Go.RowKit
attribute [local go_sem] Oper.semAt_some
theorem rnum_any (n : Int) (w : World) : Calls Tryz.prog 71 #[.int .i64 n] w fun e w' => e = .returned (.bool (Du.num n)) ∧ w = w' := by
 by_cases h1 : 0 ≤ n
 ·by_cases h2 : n < 1073741789
  ·have H := Lib.hid (show Du.num n = true by simp [Du.num,h1,h2])
   go_enter Tryz.func71,Tryz.ntmps71;go_wp2;go_ret;exact ⟨ret_bool H.out.symm,rfl⟩
  ·have H := Lib.hid (show Du.num n = false by simp [Du.num];omega)
   have h3 : 1073741789 ≤ n := by omega
   go_enter Tryz.func71,Tryz.ntmps71;go_wp2;go_ret;exact ⟨ret_bool H.out.symm,rfl⟩
 ·have H := Lib.hid (show Du.num n = false by simp [Du.num];omega)
  have h3 : n < 0 := by omega
  go_enter Tryz.func71,Tryz.ntmps71;go_wp2;go_ret;exact ⟨ret_bool H.out.symm,rfl⟩
theorem rright_any (a b c : Int) (w : World) : Calls Tryz.prog 23 #[silV a b c] w fun e w' => e = .returned (.bool (Du.right a b c)) ∧ Below w.heap.size w w' := by
 unfold silV
 cases ha : Du.num a with
 | false =>
  have H := Lib.hid (show Du.right a b c = false by simp [Du.right,ha]);have HA := Lib.hid ha;clear ha;go_enter Tryz.func23,Tryz.ntmps23
  go_wp2_with (go_at_call 71;refine (rnum_any _ _).mono ?_;rintro e w' ⟨he,rfl⟩;rw [HA.out] at he;subst he)
  go_ret;exact ⟨ret_bool H.out.symm,(Below.refl _ _).alloc (Nat.le_refl _) _⟩
 | true =>
  have HA := Lib.hid ha
  cases hb : Du.num b with
  | false =>
   have H := Lib.hid (show Du.right a b c = false by simp [Du.right,hb]);have HB := Lib.hid hb;clear ha hb;go_enter Tryz.func23,Tryz.ntmps23
   go_wp2_with fail
   refine (rnum_any _ _).mono ?_;rintro e w' ⟨he,rfl⟩;rw [HA.out] at he;subst he
   go_wp2_with fail
   refine (rnum_any _ _).mono ?_;rintro e w' ⟨he,rfl⟩;rw [HB.out] at he;subst he;go_wp2;go_ret;exact ⟨ret_bool H.out.symm,(Below.refl _ _).alloc (Nat.le_refl _) _⟩
  | true =>
   have HB := Lib.hid hb
   by_cases h1 : 1 ≤ c
   ·by_cases h2 : c < 1073741789
    ·have H := Lib.hid (show Du.right a b c = true by simp [Du.right,ha,hb,h1,h2])
     clear ha hb;go_enter Tryz.func23,Tryz.ntmps23
     go_wp2_with fail
     refine (rnum_any _ _).mono ?_;rintro e w' ⟨he,rfl⟩;rw [HA.out] at he;subst he
     go_wp2_with fail
     refine (rnum_any _ _).mono ?_;rintro e w' ⟨he,rfl⟩;rw [HB.out] at he;subst he;go_wp2;go_ret;exact ⟨ret_bool H.out.symm,(Below.refl _ _).alloc (Nat.le_refl _) _⟩
    ·have H := Lib.hid (show Du.right a b c = false by simp [Du.right];omega)
     have h3 : 1073741789 ≤ c := by omega
     clear ha hb;go_enter Tryz.func23,Tryz.ntmps23
     go_wp2_with fail
     refine (rnum_any _ _).mono ?_;rintro e w' ⟨he,rfl⟩;rw [HA.out] at he;subst he
     go_wp2_with fail
     refine (rnum_any _ _).mono ?_;rintro e w' ⟨he,rfl⟩;rw [HB.out] at he;subst he;go_wp2;go_ret;exact ⟨ret_bool (by rw [H.out];simp;omega),(Below.refl _ _).alloc (Nat.le_refl _) _⟩
   ·have H := Lib.hid (show Du.right a b c = false by simp [Du.right];omega)
    have h3 : c < 1 := by omega
    clear ha hb;go_enter Tryz.func23,Tryz.ntmps23
    go_wp2_with fail
    refine (rnum_any _ _).mono ?_;rintro e w' ⟨he,rfl⟩;rw [HA.out] at he;subst he
    go_wp2_with fail
    refine (rnum_any _ _).mono ?_;rintro e w' ⟨he,rfl⟩;rw [HB.out] at he;subst he;go_wp2;go_ret;exact ⟨ret_bool H.out.symm,(Below.refl _ _).alloc (Nat.le_refl _) _⟩
theorem tag_num (a b c h : Int) (co : Bool) : Du.num (Du.tag a b c h co) = true := by
 unfold Du.tag Du.num
 cases co
 ·rw [if_neg (by decide)];have h1 := Fm.ad_lo a (Fm.ml b h);have h2 := Fm.ad_hi a (Fm.ml b h);simp [h1,h2]
 ·rw [if_pos rfl];have h1 := Fm.ad_lo (Fm.ad a (Fm.ml b h)) c;have h2 := Fm.ad_hi (Fm.ad a (Fm.ml b h)) c;simp [h1,h2]
theorem tag_ne (a b c h : Int) (h1 : 1 ≤ c) (h2 : c < 1073741789) : Du.tag a b c h true ≠ Du.tag a b c h false := by
 show Fm.ad (Fm.ad a (Fm.ml b h)) c ≠ Fm.ad a (Fm.ml b h);have h3 := Fm.ad_lo a (Fm.ml b h);have h4 := Fm.ad_hi a (Fm.ml b h);generalize Fm.ad a (Fm.ml b h) = p at *;unfold Fm.ad;omega
theorem said_plain (a b c h : Int) : Du.said a b c h (Du.tag a b c h false) = (false,true) := by unfold Du.said;rw [if_pos rfl]
theorem said_silent (a b c h : Int) (h1 : 1 ≤ c) (h2 : c < 1073741789) : Du.said a b c h (Du.tag a b c h true) = (true,true) := by unfold Du.said;rw [if_neg (tag_ne a b c h h1 h2),if_pos rfl]
theorem tcall (K : Sh.Cst) (a b c d n : Int) (co : Bool) {x y : Int} (h : Du.tagR K a b c d n co = (x,y)) (w : World) (hL : Laid w) : Calls Tryz.prog 4 #[.agg #[.int .i64 a,.int .i64 b,.int .i64 c],.int .i64 d,.int .i64 n,.bool co] w fun e w' => e = .returned (.tuple #[.int .i64 x,.int .i64 y]) ∧ Below w.heap.size w w' :=
 (dtag_any K a b c d n co w hL).mono fun e w' ⟨he,hb⟩ => ⟨by rw [he,h],hb⟩
theorem rcall (K : Sh.Cst) (a b c d n t : Int) {x y : Bool} {z : Int} (h : Du.readR K a b c d n t = (x,y,z)) (w : World) (hL : Laid w) : Calls Tryz.prog 54 #[.agg #[.int .i64 a,.int .i64 b,.int .i64 c],.int .i64 d,.int .i64 n,.int .i64 t] w fun e w' => e = .returned (.tuple #[.bool x,.bool y,.int .i64 z]) ∧ Below w.heap.size w w' :=
 (dread_any K a b c d n t w hL).mono fun e w' ⟨he,hb⟩ => ⟨by rw [he,h],hb⟩
theorem ad_turn (a m c : Int) : Fm.ad (Fm.ad (Fm.ad a (-c)) m) c = Fm.ad a m := by unfold Fm.ad;omega
theorem ad_swap (a m c : Int) : Fm.ad (Fm.ad a c) m = Fm.ad (Fm.ad a m) c := by unfold Fm.ad;omega
theorem right_ad {a b c : Int} (x : Int) (h : Du.right a b c = true) : Du.right (Fm.ad a x) b c = true := by
 obtain ⟨_,h2,h3⟩ := Du.right_iff.1 h;exact Du.right_iff.2 ⟨⟨Fm.ad_lo a x,Fm.ad_hi a x⟩,h2,h3⟩
theorem ecall (K : Sh.Cst) (a b c d n t : Int) {x y z : Int} {o : Bool} {f : Int} (h : Du.eitherR K a b c d n t = (x,y,z,o,f)) (w : World) (hL : Laid w) : Calls Tryz.prog 55 #[.int .i64 d,.int .i64 n,.int .i64 t,.agg #[.int .i64 a,.int .i64 b,.int .i64 c]] w fun e w' => e = .returned (.tuple #[.agg #[.int .i64 x,.int .i64 y,.int .i64 z],.bool o,.int .i64 f]) ∧ Below w.heap.size w w' :=
 (deither_any K a b c d n t w hL).mono fun e w' ⟨he,hb⟩ => ⟨by rw [he,h];rfl,hb⟩
theorem eitherR_yes {K : Sh.Cst} {a b c d n t : Int} (hr : Du.right a b c = true) (hp : Du.poss d n = true) (hn : Du.num t = true) (co : Bool) (h : Du.said a b c (Du.hoI K d n) t = (co,true)) : Du.eitherR K a b c d n t = (Fm.ad a (if co then c else -c),b,c,true,0) := by
 unfold Du.eitherR;rw [hr,hp,hn,h];rfl
theorem said47_t (a b c d n t q : Int) (w : World) (hL : Laid w) (h1 : ∀ w,Laid w → Calls Tryz.prog 4 #[.agg #[.int .i64 a,.int .i64 b,.int .i64 c],.int .i64 d,.int .i64 n,.bool true] w fun e w' => e = .returned (.tuple #[.int .i64 t,.int .i64 0]) ∧ Below w.heap.size w w') (h2 : ∀ w,Laid w → Calls Tryz.prog 54 #[.agg #[.int .i64 a,.int .i64 b,.int .i64 c],.int .i64 d,.int .i64 n,.int .i64 t] w fun e w' => e = .returned (.tuple #[.bool true,.bool true,.int .i64 0]) ∧ Below w.heap.size w w') (h3 : ∀ w,Laid w → Calls Tryz.prog 55 #[.int .i64 d,.int .i64 n,.int .i64 t,.agg #[.int .i64 a,.int .i64 b,.int .i64 c]] w fun e w' => e = .returned (.tuple #[.agg #[.int .i64 q,.int .i64 b,.int .i64 c],.bool true,.int .i64 0]) ∧ Below w.heap.size w w') (h4 : ∀ w,Laid w → Calls Tryz.prog 54 #[.agg #[.int .i64 q,.int .i64 b,.int .i64 c],.int .i64 d,.int .i64 n,.int .i64 t] w fun e w' => e = .returned (.tuple #[.bool false,.bool true,.int .i64 0]) ∧ Below w.heap.size w w') (h5 : ∀ w,Laid w → Calls Tryz.prog 4 #[.agg #[.int .i64 q,.int .i64 b,.int .i64 c],.int .i64 d,.int .i64 n,.bool false] w fun e w' => e = .returned (.tuple #[.int .i64 t,.int .i64 0]) ∧ Below w.heap.size w w') :
  Calls Tryz.prog 13 #[.agg #[.int .i64 a,.int .i64 b,.int .i64 c],.int .i64 d,.int .i64 n,.bool true] w fun e w' => e = .returned (.bool true) ∧ Below w.heap.size w w' := by
 go_enter Tryz.func13,Tryz.ntmps13;have hS := Ints.new w 37 .i64 [a,b,c];have hB := (Below.refl w.heap.size w).alloc (Nat.le_refl _) (.cells #[.int .i64 a,.int .i64 b,.int .i64 c] 37);have s0 : _ = some (Value.int .i64 a) := hS.cell? 0;have s1 : _ = some (Value.int .i64 b) := hS.cell? 1;have s2 : _ = some (Value.int .i64 c) := hS.cell? 2
 go_wp2_with fail
 refine (h1 _ (hL.below hB hL.size)).mono ?_;rintro e w1 ⟨rfl,hb⟩;have hS := hS.below hb hS.lt;have hB := hB.trans (hb.mono hB.size);clear hb;have s0 : _ = some (Value.int .i64 a) := hS.cell? 0;have s1 : _ = some (Value.int .i64 b) := hS.cell? 1;have s2 : _ = some (Value.int .i64 c) := hS.cell? 2
 go_wp2_with fail
 refine (h2 _ (hL.below hB hL.size)).mono ?_;rintro e w2 ⟨rfl,hb⟩;have hS := hS.below hb hS.lt;have hB := hB.trans (hb.mono hB.size);clear hb;have s0 : _ = some (Value.int .i64 a) := hS.cell? 0;have s1 : _ = some (Value.int .i64 b) := hS.cell? 1;have s2 : _ = some (Value.int .i64 c) := hS.cell? 2
 go_wp2_with fail
 refine (h3 _ (hL.below hB hL.size)).mono ?_;rintro e w3 ⟨rfl,hb⟩;have hS := hS.below hb hS.lt;have hB := hB.trans (hb.mono hB.size);clear hb;have s0 : _ = some (Value.int .i64 a) := hS.cell? 0;have s1 : _ = some (Value.int .i64 b) := hS.cell? 1;have s2 : _ = some (Value.int .i64 c) := hS.cell? 2;have hX := Ints.new w3 37 .i64 [q,b,c];have hS := hS.alloc (.cells #[.int .i64 q,.int .i64 b,.int .i64 c] 37);have hB := hB.alloc hB.size (.cells #[.int .i64 q,.int .i64 b,.int .i64 c] 37);have s0 : _ = some (Value.int .i64 a) := hS.cell? 0;have s1 : _ = some (Value.int .i64 b) := hS.cell? 1;have s2 : _ = some (Value.int .i64 c) := hS.cell? 2;have x0 : _ = some (Value.int .i64 q) := hX.cell? 0;have x1 : _ = some (Value.int .i64 b) := hX.cell? 1;have x2 : _ = some (Value.int .i64 c) := hX.cell? 2
 go_wp2_with fail
 refine (h4 _ (hL.below hB hL.size)).mono ?_;rintro e w4 ⟨rfl,hb⟩;have hS := hS.below hb hS.lt;have hX := hX.below hb hX.lt;have hB := hB.trans (hb.mono hB.size);clear hb;have s0 : _ = some (Value.int .i64 a) := hS.cell? 0;have s1 : _ = some (Value.int .i64 b) := hS.cell? 1;have s2 : _ = some (Value.int .i64 c) := hS.cell? 2;have x0 : _ = some (Value.int .i64 q) := hX.cell? 0;have x1 : _ = some (Value.int .i64 b) := hX.cell? 1;have x2 : _ = some (Value.int .i64 c) := hX.cell? 2
 go_wp2_with fail
 refine (h5 _ (hL.below hB hL.size)).mono ?_;rintro e w5 ⟨rfl,hb⟩;have hS := hS.below hb hS.lt;have hX := hX.below hb hX.lt;have hB := hB.trans (hb.mono hB.size);clear hb;have s0 : _ = some (Value.int .i64 a) := hS.cell? 0;have s1 : _ = some (Value.int .i64 b) := hS.cell? 1;have s2 : _ = some (Value.int .i64 c) := hS.cell? 2;have x0 : _ = some (Value.int .i64 q) := hX.cell? 0;have x1 : _ = some (Value.int .i64 b) := hX.cell? 1;have x2 : _ = some (Value.int .i64 c) := hX.cell? 2;go_wp2;go_ret;exact ⟨rfl,hB⟩
theorem said47_f (a b c d n t q : Int) (w : World) (hL : Laid w) (h1 : ∀ w,Laid w → Calls Tryz.prog 4 #[.agg #[.int .i64 a,.int .i64 b,.int .i64 c],.int .i64 d,.int .i64 n,.bool false] w fun e w' => e = .returned (.tuple #[.int .i64 t,.int .i64 0]) ∧ Below w.heap.size w w') (h2 : ∀ w,Laid w → Calls Tryz.prog 54 #[.agg #[.int .i64 a,.int .i64 b,.int .i64 c],.int .i64 d,.int .i64 n,.int .i64 t] w fun e w' => e = .returned (.tuple #[.bool false,.bool true,.int .i64 0]) ∧ Below w.heap.size w w') (h3 : ∀ w,Laid w → Calls Tryz.prog 55 #[.int .i64 d,.int .i64 n,.int .i64 t,.agg #[.int .i64 a,.int .i64 b,.int .i64 c]] w fun e w' => e = .returned (.tuple #[.agg #[.int .i64 q,.int .i64 b,.int .i64 c],.bool true,.int .i64 0]) ∧ Below w.heap.size w w') (h4 : ∀ w,Laid w → Calls Tryz.prog 54 #[.agg #[.int .i64 q,.int .i64 b,.int .i64 c],.int .i64 d,.int .i64 n,.int .i64 t] w fun e w' => e = .returned (.tuple #[.bool true,.bool true,.int .i64 0]) ∧ Below w.heap.size w w') (h5 : ∀ w,Laid w → Calls Tryz.prog 4 #[.agg #[.int .i64 q,.int .i64 b,.int .i64 c],.int .i64 d,.int .i64 n,.bool true] w fun e w' => e = .returned (.tuple #[.int .i64 t,.int .i64 0]) ∧ Below w.heap.size w w') :
  Calls Tryz.prog 13 #[.agg #[.int .i64 a,.int .i64 b,.int .i64 c],.int .i64 d,.int .i64 n,.bool false] w fun e w' => e = .returned (.bool true) ∧ Below w.heap.size w w' := by
 go_enter Tryz.func13,Tryz.ntmps13;have hS := Ints.new w 37 .i64 [a,b,c];have hB := (Below.refl w.heap.size w).alloc (Nat.le_refl _) (.cells #[.int .i64 a,.int .i64 b,.int .i64 c] 37);have s0 : _ = some (Value.int .i64 a) := hS.cell? 0;have s1 : _ = some (Value.int .i64 b) := hS.cell? 1;have s2 : _ = some (Value.int .i64 c) := hS.cell? 2
 go_wp2_with fail
 refine (h1 _ (hL.below hB hL.size)).mono ?_;rintro e w1 ⟨rfl,hb⟩;have hS := hS.below hb hS.lt;have hB := hB.trans (hb.mono hB.size);clear hb;have s0 : _ = some (Value.int .i64 a) := hS.cell? 0;have s1 : _ = some (Value.int .i64 b) := hS.cell? 1;have s2 : _ = some (Value.int .i64 c) := hS.cell? 2
 go_wp2_with fail
 refine (h2 _ (hL.below hB hL.size)).mono ?_;rintro e w2 ⟨rfl,hb⟩;have hS := hS.below hb hS.lt;have hB := hB.trans (hb.mono hB.size);clear hb;have s0 : _ = some (Value.int .i64 a) := hS.cell? 0;have s1 : _ = some (Value.int .i64 b) := hS.cell? 1;have s2 : _ = some (Value.int .i64 c) := hS.cell? 2
 go_wp2_with fail
 refine (h3 _ (hL.below hB hL.size)).mono ?_;rintro e w3 ⟨rfl,hb⟩;have hS := hS.below hb hS.lt;have hB := hB.trans (hb.mono hB.size);clear hb;have s0 : _ = some (Value.int .i64 a) := hS.cell? 0;have s1 : _ = some (Value.int .i64 b) := hS.cell? 1;have s2 : _ = some (Value.int .i64 c) := hS.cell? 2;have hX := Ints.new w3 37 .i64 [q,b,c];have hS := hS.alloc (.cells #[.int .i64 q,.int .i64 b,.int .i64 c] 37);have hB := hB.alloc hB.size (.cells #[.int .i64 q,.int .i64 b,.int .i64 c] 37);have s0 : _ = some (Value.int .i64 a) := hS.cell? 0;have s1 : _ = some (Value.int .i64 b) := hS.cell? 1;have s2 : _ = some (Value.int .i64 c) := hS.cell? 2;have x0 : _ = some (Value.int .i64 q) := hX.cell? 0;have x1 : _ = some (Value.int .i64 b) := hX.cell? 1;have x2 : _ = some (Value.int .i64 c) := hX.cell? 2
 go_wp2_with fail
 refine (h4 _ (hL.below hB hL.size)).mono ?_;rintro e w4 ⟨rfl,hb⟩;have hS := hS.below hb hS.lt;have hX := hX.below hb hX.lt;have hB := hB.trans (hb.mono hB.size);clear hb;have s0 : _ = some (Value.int .i64 a) := hS.cell? 0;have s1 : _ = some (Value.int .i64 b) := hS.cell? 1;have s2 : _ = some (Value.int .i64 c) := hS.cell? 2;have x0 : _ = some (Value.int .i64 q) := hX.cell? 0;have x1 : _ = some (Value.int .i64 b) := hX.cell? 1;have x2 : _ = some (Value.int .i64 c) := hX.cell? 2
 go_wp2_with fail
 refine (h5 _ (hL.below hB hL.size)).mono ?_;rintro e w5 ⟨rfl,hb⟩;have hS := hS.below hb hS.lt;have hX := hX.below hb hX.lt;have hB := hB.trans (hb.mono hB.size);clear hb;have s0 : _ = some (Value.int .i64 a) := hS.cell? 0;have s1 : _ = some (Value.int .i64 b) := hS.cell? 1;have s2 : _ = some (Value.int .i64 c) := hS.cell? 2;have x0 : _ = some (Value.int .i64 q) := hX.cell? 0;have x1 : _ = some (Value.int .i64 b) := hX.cell? 1;have x2 : _ = some (Value.int .i64 c) := hX.cell? 2;go_wp2;go_ret;exact ⟨rfl,hB⟩
theorem said47_any (K : Sh.Cst) (a b c d n : Int) (co : Bool) (w : World) (hL : Laid w) (hr : Du.right a b c = true) (hp : Du.poss d n = true) :
  Calls Tryz.prog 13 #[.agg #[.int .i64 a,.int .i64 b,.int .i64 c],.int .i64 d,.int .i64 n,.bool co] w fun e w' => e = .returned (.bool true) ∧ Below w.heap.size w w' := by
 have hc := (Du.right_iff.1 hr).2.2;obtain ⟨h,hh⟩ : ∃ h,Du.hoI K d n = h := ⟨_,rfl⟩;have hq := fun x => right_ad x hr;have htn := tag_num a b c h co
 cases co with
 | true =>
  refine said47_t a b c d n (Du.tag a b c h true) (Fm.ad a c) w hL (fun w h => tcall K a b c d n true (by rw [Du.tagR_yes hr hp,hh]) w h) (fun w h => rcall K a b c d n _ (by rw [Du.readR_yes hr hp htn,hh,said_silent _ _ _ _ hc.1 hc.2]) w h) (fun w h => ecall K a b c d n _ (by rw [eitherR_yes hr hp htn true (by rw [hh,said_silent _ _ _ _ hc.1 hc.2])];rfl) w h) ?_ ?_
  ·have he : Du.tag a b c h true = Du.tag (Fm.ad a c) b c h false := by unfold Du.tag;rw [if_pos rfl,if_neg (by decide),ad_swap]
   rw [he] at htn ⊢;exact fun w hl => rcall K _ b c d n _ (by rw [Du.readR_yes (hq _) hp htn,hh,said_plain]) w hl
  ·have he : Du.tag a b c h true = Du.tag (Fm.ad a c) b c h false := by unfold Du.tag;rw [if_pos rfl,if_neg (by decide),ad_swap]
   rw [he];exact fun w hl => tcall K _ b c d n false (by rw [Du.tagR_yes (hq _) hp,hh]) w hl
 | false =>
  refine said47_f a b c d n (Du.tag a b c h false) (Fm.ad a (-c)) w hL (fun w h => tcall K a b c d n false (by rw [Du.tagR_yes hr hp,hh]) w h) (fun w h => rcall K a b c d n _ (by rw [Du.readR_yes hr hp htn,hh,said_plain]) w h) (fun w h => ecall K a b c d n _ (by rw [eitherR_yes hr hp htn false (by rw [hh,said_plain])];rfl) w h) ?_ ?_
  ·have he : Du.tag a b c h false = Du.tag (Fm.ad a (-c)) b c h true := by unfold Du.tag;rw [if_pos rfl,if_neg (by decide),ad_turn]
   rw [he] at htn ⊢;exact fun w hl => rcall K _ b c d n _ (by rw [Du.readR_yes (hq _) hp htn,hh,said_silent _ _ _ _ hc.1 hc.2]) w hl
  ·have he : Du.tag a b c h false = Du.tag (Fm.ad a (-c)) b c h true := by unfold Du.tag;rw [if_pos rfl,if_neg (by decide),ad_turn]
   rw [he];exact fun w hl => tcall K _ b c d n true (by rw [Du.tagR_yes (hq _) hp,hh]) w hl
def BQ (P : Prop) (r : Ending) : Prop := ∃ b,r = .returned (.bool b) ∧ (b = true → P)
theorem BQ.no {P : Prop} : BQ P (.returned (.bool false)) := ⟨false,rfl,fun h => by cases h⟩
theorem BQ.yes {P : Prop} (h : P) : BQ P (.returned (.bool true)) := ⟨true,rfl,fun _ => h⟩
theorem BQ.of {P : Prop} {b : Bool} (h : b = true → P) : BQ P (.returned (.bool b)) := ⟨b,rfl,h⟩
theorem incr_of {L : List Int} (h : ∀ j,j + 1 < L.length → L.getD j 0 < L.getD (j + 1) 0) : L.Pairwise (· < ·) := by
 have key : ∀ d i,i + d + 1 < L.length → L.getD i 0 < L.getD (i + d + 1) 0 := by
  intro d
  induction d with
  | zero => intro i hi;exact h i hi
  | succ d ih =>
   intro i hi;have h1 := ih i (by omega);have h2 := h (i + d + 1) (by omega);rw [show i + (d + 1) + 1 = i + d + 1 + 1 by omega];omega
 rw [List.pairwise_iff_getElem];intro i j hi hj hij;have h1 := key (j - i - 1) i (by omega);rw [show i + (j - i - 1) + 1 = j by omega,List.getD_eq_getElem?_getD,List.getElem?_eq_getElem hi,List.getD_eq_getElem?_getD,List.getElem?_eq_getElem hj] at h1;exact h1
theorem all_of {L : List Int} {p : Int → Prop} (h : ∀ j,j < L.length → p (L.getD j 0)) : ∀ x ∈ L,p x := by
 intro x hx;obtain ⟨i,hi,rfl⟩ := List.mem_iff_getElem.1 hx;have := h i hi
 rwa [List.getD_eq_getElem?_getD,List.getElem?_eq_getElem hi] at this
theorem rnumber_any (n : Int) (w : World) : Calls Tryz.prog 70 #[.int .i64 n] w fun e w' => e = .returned (.bool (Du.num n)) ∧ w = w' := by
 by_cases h1 : 0 ≤ n
 ·by_cases h2 : n < 1073741789
  ·have H := Lib.hid (show Du.num n = true by simp [Du.num,h1,h2])
   go_enter Tryz.func70,Tryz.ntmps70;go_wp2;go_ret;exact ⟨ret_bool H.out.symm,rfl⟩
  ·have H := Lib.hid (show Du.num n = false by simp [Du.num];omega)
   have h3 : 1073741789 ≤ n := by omega
   go_enter Tryz.func70,Tryz.ntmps70;go_wp2;go_ret;exact ⟨ret_bool H.out.symm,rfl⟩
 ·have H := Lib.hid (show Du.num n = false by simp [Du.num];omega)
  have h3 : n < 0 := by omega
  go_enter Tryz.func70,Tryz.ntmps70;go_wp2;go_ret;exact ⟨ret_bool H.out.symm,rfl⟩
def tim (n : Int) : Bool := decide (0 ≤ n ∧ n < 1099511627776)
theorem rtime_any (n : Int) (w : World) : Calls Tryz.prog 72 #[.int .i64 n] w fun e w' => e = .returned (.bool (tim n)) ∧ w = w' := by
 by_cases h1 : 0 ≤ n
 ·by_cases h2 : n < 1099511627776
  ·have H := Lib.hid (show tim n = true by simp [tim,h1,h2])
   go_enter Tryz.func72,Tryz.ntmps72;go_wp2;go_ret;exact ⟨ret_bool H.out.symm,rfl⟩
  ·have H := Lib.hid (show tim n = false by simp [tim];omega)
   have h3 : 1099511627776 ≤ n := by omega
   go_enter Tryz.func72,Tryz.ntmps72;go_wp2;go_ret;exact ⟨ret_bool H.out.symm,rfl⟩
 ·have H := Lib.hid (show tim n = false by simp [tim];omega)
  have h3 : n < 0 := by omega
  go_enter Tryz.func72,Tryz.ntmps72;go_wp2;go_ret;exact ⟨ret_bool H.out.symm,rfl⟩
theorem rnumbers_any (x : RI) (w : World) (h : x.ok w w.heap.size) : Calls Tryz.prog 21 #[x.cell] w fun r w' => BQ (∀ y ∈ x.d,0 ≤ y ∧ y < 1073741789) r ∧ w = w' := by
 obtain ⟨A,c,D⟩ := x;have hnc := h.2.1;have hcm := h.2.2;unfold maxLen at hcm;have HX := Lib.hid h;unfold RI.cell;dsimp only at hnc hcm ⊢;obtain ⟨n,hn⟩ : ∃ n,D.length = n := ⟨_,rfl⟩;have HN := Lib.hid hn;rw [hn] at hnc ⊢;clear h hn;go_enter Tryz.func21,Tryz.ntmps21;go_wp2
 go_loopw [3] (fun i wr => w = wr ∧ ∃ k : Nat,k ≤ n ∧ i = .int .i64 k ∧ ∀ j,j < k → 0 ≤ D.getD j 0 ∧ D.getD j 0 < 1073741789) (fun i _ => n - (intOf i).toNat)
 case atStart => exact ⟨rfl,0,Nat.zero_le _,rfl,fun j hj => absurd hj (by omega)⟩
 case round =>
  obtain ⟨rfl,k,hk,rfl,hu⟩ := hrel;have HU := Lib.hid hu;clear hu
  by_cases hlt : k < n
  ·obtain ⟨b,o,hA,hb,hcc⟩ := RI.at HX.out (by show 0 < D.length;have := HN.out;omega)
   change A = _ at hA;subst hA;have q0 := hcc k (by show k < D.length;have := HN.out;omega) w (Below.refl _ _);change w.cell? ⟨b,o + k,none⟩ = some (.int .i64 (D.getD k 0)) at q0;have k1 : (k : Int) < (n : Int) := by omega
   have k0 : (0 : Int) ≤ (k : Int) := by omega
   have HNM := Lib.hid (rnumber_any (D.getD k 0) w);have HV : Hid (Du.num (D.getD k 0) = true → 0 ≤ D.getD k 0 ∧ D.getD k 0 < 1073741789) := Du.num_iff.1
   cases hv : Du.num (D.getD k 0) with
   | false =>
    rw [hv] at HNM;generalize D.getD k 0 = v at q0 HNM;clear hcc hb HV hv
    go_wp2_with fail
    refine HNM.out.mono ?_;rintro r w1 ⟨rfl,rfl⟩;go_wp2;go_ret;exact ⟨BQ.no,rfl⟩
   | true =>
    rw [hv] at HNM
    have HW : Hid (∀ j,j < k + 1 → 0 ≤ D.getD j 0 ∧ D.getD j 0 < 1073741789) := fun j hj => by
     by_cases e : j = k
     ·subst e;exact HV.out hv
     ·exact HU.out j (by omega)
    generalize D.getD k 0 = v at q0 HNM;clear hcc hb HV hv
    go_wp2_with fail
    refine HNM.out.mono ?_;rintro r w1 ⟨rfl,rfl⟩;go_wp2;go_roundw
    case rel => exact ⟨trivial,k + 1,by omega,by go_num,HW.out⟩
    case measure => simp [intOf];omega
  ·obtain rfl : k = n := by omega
   have HR : Hid (∀ y ∈ D,0 ≤ y ∧ y < 1073741789) := all_of fun j hj => HU.out j (by rw [← HN.out];exact hj);go_wp2;go_ret;exact ⟨BQ.yes HR.out,rfl⟩
theorem rpeople_any (x : RI) (w : World) (h : x.ok w w.heap.size) : Calls Tryz.prog 22 #[x.cell] w fun r w' => BQ (Ppl x.d) r ∧ Below w.heap.size w w' := by
 obtain ⟨A,c,D⟩ := x;have hnc := h.2.1;have hcm := h.2.2;unfold maxLen at hcm;have HX := Lib.hid h;unfold RI.cell;dsimp only at hnc hcm ⊢;obtain ⟨n,hn⟩ : ∃ n,D.length = n := ⟨_,rfl⟩;have HN := Lib.hid hn;rw [hn] at hnc ⊢;clear h hn;go_enter Tryz.func22,Tryz.ntmps22;go_wp2
 go_loopw [3] (fun i wr => Below w.heap.size w wr ∧ ∃ k : Nat,k ≤ n ∧ i = .int .i64 k ∧ ∀ j,j < k → 0 ≤ D.getD j 0 ∧ D.getD j 0 < 64 ∧ (0 < j → D.getD (j - 1) 0 < D.getD j 0)) (fun i _ => n - (intOf i).toNat)
 case atStart => exact ⟨Below.refl _ _,0,Nat.zero_le _,rfl,fun j hj => absurd hj (by omega)⟩
 case round =>
  obtain ⟨hbw,k,hk,rfl,hu⟩ := hrel;have HU := Lib.hid hu;have HB := Lib.hid hbw;clear hu hbw
  by_cases hlt : k < n
  ·obtain ⟨b,o,hA,hb,hcc⟩ := RI.at HX.out (by show 0 < D.length;have := HN.out;omega)
   change A = _ at hA;subst hA;have q0 := hcc k (by show k < D.length;have := HN.out;omega) wr HB.out;change wr.cell? ⟨b,o + k,none⟩ = some (.int .i64 (D.getD k 0)) at q0;have k1 : (k : Int) < (n : Int) := by omega
   have k0 : (0 : Int) ≤ (k : Int) := by omega
   obtain ⟨v,hv⟩ : ∃ v,D.getD k 0 = v := ⟨_,rfl⟩;have HV := Lib.hid hv;rw [hv] at q0;clear hv hb
   by_cases c1 : v < 0
   ·clear hcc
    go_wp2
    go_quiet (fail)
    go_wp2;go_ret;exact ⟨BQ.no,below_drewN HB.out _⟩
   have d1 : decide (v < 0) = false := decide_eq_false c1
   by_cases c2 : v < 64
   ·have d2 : decide (64 ≤ v) = false := decide_eq_false (by omega)
    by_cases c3 : k = 0
    ·subst c3
     have HW : Hid (∀ j,j < 0 + 1 → 0 ≤ D.getD j 0 ∧ D.getD j 0 < 64 ∧ (0 < j → D.getD (j - 1) 0 < D.getD j 0)) := fun j hj => by
      have e : j = 0 := by omega
      subst e;rw [HV.out];exact ⟨by omega,c2,fun h => absurd h (by omega)⟩
     clear hcc;rw [Nat.add_zero] at q0;have k3 : (0 : Int) < (n : Int) := by omega
     rw [show ((0 : Nat) : Int) = (0 : Int) from rfl];go_wp2
     go_quiet (fail)
     go_wp2;go_roundw
     case rel => exact ⟨below_drewN HB.out _,0 + 1,by omega,by go_num,HW.out⟩
     case measure => simp [intOf];omega
    ·obtain ⟨k',rfl⟩ : ∃ k',k = k' + 1 := ⟨k - 1,by omega⟩
     have q1 := hcc k' (by show k' < D.length;have := HN.out;omega) wr HB.out;change wr.cell? ⟨b,o + k',none⟩ = some (.int .i64 (D.getD k' 0)) at q1;obtain ⟨u,hu⟩ : ∃ u,D.getD k' 0 = u := ⟨_,rfl⟩;have HUU := Lib.hid hu;rw [hu] at q1;clear hu hcc;have g1 : (0 : Int) < ((k' + 1 : Nat) : Int) := by omega
     by_cases c4 : u < v
     ·have d3 : decide (v ≤ u) = false := decide_eq_false (by omega)
      have HW : Hid (∀ j,j < k' + 1 + 1 → 0 ≤ D.getD j 0 ∧ D.getD j 0 < 64 ∧ (0 < j → D.getD (j - 1) 0 < D.getD j 0)) := fun j hj => by
       by_cases e : j = k' + 1
       ·subst e;rw [HV.out];exact ⟨by omega,c2,fun _ => by rw [show k' + 1 - 1 = k' by omega,HUU.out];exact c4⟩
       ·exact HU.out j (by omega)
      go_wp2
      go_quiet (fail)
      go_wp2;go_roundw
      case rel => exact ⟨below_drewN HB.out _,k' + 1 + 1,by omega,by go_num,HW.out⟩
      case measure => simp [intOf];omega
     ·have c5 : v ≤ u := by omega
      clear c4;go_wp2
      go_quiet (fail)
      go_wp2;go_ret;exact ⟨BQ.no,below_drewN HB.out _⟩
   ·have c5 : 64 ≤ v := by omega
    clear hcc c2;go_wp2
    go_quiet (fail)
    go_wp2;go_ret;exact ⟨BQ.no,below_drewN HB.out _⟩
  ·obtain rfl : k = n := by omega
   have HR : Hid (D.Pairwise (· < ·) ∧ (∀ y ∈ D,0 ≤ y) ∧ ∀ y ∈ D,y < 64) := ⟨incr_of fun j hj => by have h1 := (HU.out (j + 1) (by rw [← HN.out];exact hj)).2.2 (by omega);rwa [show j + 1 - 1 = j by omega] at h1,all_of fun j hj => (HU.out j (by rw [← HN.out];exact hj)).1,all_of fun j hj => (HU.out j (by rw [← HN.out];exact hj)).2.1⟩;go_wp2;go_ret;exact ⟨BQ.yes ⟨HR.out.1,HR.out.2.1,HR.out.2.2⟩,HB.out⟩
theorem rlist_any (x : RI) (m : Int) (w : World) (h : x.ok w w.heap.size) : Calls Tryz.prog 73 #[x.cell,.int .i64 m] w fun r w' => BQ (Dl x.d m) r ∧ Below w.heap.size w w' := by
 obtain ⟨A,c,D⟩ := x;have hnc := h.2.1;have hcm := h.2.2;unfold maxLen at hcm;have HX := Lib.hid h;unfold RI.cell;dsimp only at hnc hcm ⊢;obtain ⟨n,hn⟩ : ∃ n,D.length = n := ⟨_,rfl⟩;have HN := Lib.hid hn;rw [hn] at hnc ⊢;clear h hn;go_enter Tryz.func73,Tryz.ntmps73;go_wp2
 go_loopw [5] (fun i wr => Below w.heap.size w wr ∧ ∃ k : Nat,k ≤ n ∧ i = .int .i64 k ∧ ∀ j,j < k → 0 ≤ D.getD j 0 ∧ D.getD j 0 < m ∧ (0 < j → D.getD (j - 1) 0 < D.getD j 0)) (fun i _ => n - (intOf i).toNat)
 case atStart => exact ⟨Below.refl _ _,0,Nat.zero_le _,rfl,fun j hj => absurd hj (by omega)⟩
 case round =>
  obtain ⟨hbw,k,hk,rfl,hu⟩ := hrel;have HU := Lib.hid hu;have HB := Lib.hid hbw;clear hu hbw
  by_cases hlt : k < n
  ·obtain ⟨b,o,hA,hb,hcc⟩ := RI.at HX.out (by show 0 < D.length;have := HN.out;omega)
   change A = _ at hA;subst hA;have q0 := hcc k (by show k < D.length;have := HN.out;omega) wr HB.out;change wr.cell? ⟨b,o + k,none⟩ = some (.int .i64 (D.getD k 0)) at q0;have k1 : (k : Int) < (n : Int) := by omega
   have k0 : (0 : Int) ≤ (k : Int) := by omega
   obtain ⟨v,hv⟩ : ∃ v,D.getD k 0 = v := ⟨_,rfl⟩;have HV := Lib.hid hv;rw [hv] at q0;clear hv hb
   by_cases c1 : v < 0
   ·clear hcc
    go_wp2
    go_quiet (fail)
    go_wp2;go_ret;exact ⟨BQ.no,below_drewN HB.out _⟩
   have d1 : decide (v < 0) = false := decide_eq_false c1
   by_cases c2 : v < m
   ·have d2 : decide (m ≤ v) = false := decide_eq_false (by omega)
    by_cases c3 : k = 0
    ·subst c3
     have HW : Hid (∀ j,j < 0 + 1 → 0 ≤ D.getD j 0 ∧ D.getD j 0 < m ∧ (0 < j → D.getD (j - 1) 0 < D.getD j 0)) := fun j hj => by
      have e : j = 0 := by omega
      subst e;rw [HV.out];exact ⟨by omega,c2,fun h => absurd h (by omega)⟩
     clear hcc;rw [Nat.add_zero] at q0;have k3 : (0 : Int) < (n : Int) := by omega
     rw [show ((0 : Nat) : Int) = (0 : Int) from rfl];go_wp2
     go_quiet (fail)
     go_wp2;go_roundw
     case rel => exact ⟨below_drewN HB.out _,0 + 1,by omega,by go_num,HW.out⟩
     case measure => simp [intOf];omega
    ·obtain ⟨k',rfl⟩ : ∃ k',k = k' + 1 := ⟨k - 1,by omega⟩
     have q1 := hcc k' (by show k' < D.length;have := HN.out;omega) wr HB.out;change wr.cell? ⟨b,o + k',none⟩ = some (.int .i64 (D.getD k' 0)) at q1;obtain ⟨u,hu⟩ : ∃ u,D.getD k' 0 = u := ⟨_,rfl⟩;have HUU := Lib.hid hu;rw [hu] at q1;clear hu hcc;have g1 : (0 : Int) < ((k' + 1 : Nat) : Int) := by omega
     by_cases c4 : u < v
     ·have d3 : decide (v ≤ u) = false := decide_eq_false (by omega)
      have HW : Hid (∀ j,j < k' + 1 + 1 → 0 ≤ D.getD j 0 ∧ D.getD j 0 < m ∧ (0 < j → D.getD (j - 1) 0 < D.getD j 0)) := fun j hj => by
       by_cases e : j = k' + 1
       ·subst e;rw [HV.out];exact ⟨by omega,c2,fun _ => by rw [show k' + 1 - 1 = k' by omega,HUU.out];exact c4⟩
       ·exact HU.out j (by omega)
      go_wp2
      go_quiet (fail)
      go_wp2;go_roundw
      case rel => exact ⟨below_drewN HB.out _,k' + 1 + 1,by omega,by go_num,HW.out⟩
      case measure => simp [intOf];omega
     ·have c5 : v ≤ u := by omega
      clear c4;go_wp2
      go_quiet (fail)
      go_wp2;go_ret;exact ⟨BQ.no,below_drewN HB.out _⟩
   ·have c5 : m ≤ v := by omega
    clear hcc c2;go_wp2
    go_quiet (fail)
    go_wp2;go_ret;exact ⟨BQ.no,below_drewN HB.out _⟩
  ·obtain rfl : k = n := by omega
   have HR : Hid (D.Pairwise (· < ·) ∧ (∀ y ∈ D,0 ≤ y) ∧ ∀ y ∈ D,y < m) := ⟨incr_of fun j hj => by have h1 := (HU.out (j + 1) (by rw [← HN.out];exact hj)).2.2 (by omega);rwa [show j + 1 - 1 = j by omega] at h1,all_of fun j hj => (HU.out j (by rw [← HN.out];exact hj)).1,all_of fun j hj => (HU.out j (by rw [← HN.out];exact hj)).2.1⟩;go_wp2;go_ret;exact ⟨BQ.of fun hd => ⟨HR.out.1,HR.out.2.1,HR.out.2.2,by show D.length ≤ 16;rw [HN.out];have := of_decide_eq_true hd;omega⟩,HB.out⟩
end Go.Proofs.YtifejdpffkeniaaGreatDoor
