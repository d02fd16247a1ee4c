/- A link is built. -/
import Derived.Test.YtpjggokaolnbcaaDoorLClone
import Derived.ArgAppend
namespace Go.Proofs.YtpjggokaolnbcaaDoor
open Go.RowKit
set_option linter.unusedVariables false
set_option maxRecDepth 100000 in
theorem built32 (a b : Int) (A : Option Addr) (n c : Nat) (u0 u1 u2 u3 u4 u5 u6 u7 u8 u9 u10 u11 u12 u13 u14 u15 u16 u17 u18 u19 u20 u21 u22 u23 u24 u25 u26 u27 u28 u29 u30 u31 : Int) :
    Tryd.prog.built 37 [(0, .int .i64 a), (1, .int .i64 b), (2, .agg #[.int .u8 u0, .int .u8 u1, .int .u8 u2, .int .u8 u3, .int .u8 u4, .int .u8 u5, .int .u8 u6, .int .u8 u7, .int .u8 u8, .int .u8 u9, .int .u8 u10, .int .u8 u11, .int .u8 u12, .int .u8 u13, .int .u8 u14, .int .u8 u15, .int .u8 u16, .int .u8 u17, .int .u8 u18, .int .u8 u19, .int .u8 u20, .int .u8 u21, .int .u8 u22, .int .u8 u23, .int .u8 u24, .int .u8 u25, .int .u8 u26, .int .u8 u27, .int .u8 u28, .int .u8 u29, .int .u8 u30, .int .u8 u31]), (3, .slice A n c)] = some #[.int .i64 a, .int .i64 b, .int .u8 u0, .int .u8 u1, .int .u8 u2, .int .u8 u3, .int .u8 u4, .int .u8 u5, .int .u8 u6, .int .u8 u7, .int .u8 u8, .int .u8 u9, .int .u8 u10, .int .u8 u11, .int .u8 u12, .int .u8 u13, .int .u8 u14, .int .u8 u15, .int .u8 u16, .int .u8 u17, .int .u8 u18, .int .u8 u19, .int .u8 u20, .int .u8 u21, .int .u8 u22, .int .u8 u23, .int .u8 u24, .int .u8 u25, .int .u8 u26, .int .u8 u27, .int .u8 u28, .int .u8 u29, .int .u8 u30, .int .u8 u31, .slice A n c] := by kernel_rfl
theorem built_link (a b : Int) (A : Option Addr) (n c : Nat) (U : List Int) (h : U.length = 32) :
    Tryd.prog.built 37 [(0, .int .i64 a), (1, .int .i64 b), (2, .agg (U.map (Value.int .u8)).toArray), (3, .slice A n c)] = some ([Value.int .i64 a, .int .i64 b] ++ U.map (Value.int .u8) ++ [Value.slice A n c]).toArray := by
  rcases U with _ | ⟨u0, U⟩
  · simp at h
  rcases U with _ | ⟨u1, U⟩
  · simp at h
  rcases U with _ | ⟨u2, U⟩
  · simp at h
  rcases U with _ | ⟨u3, U⟩
  · simp at h
  rcases U with _ | ⟨u4, U⟩
  · simp at h
  rcases U with _ | ⟨u5, U⟩
  · simp at h
  rcases U with _ | ⟨u6, U⟩
  · simp at h
  rcases U with _ | ⟨u7, U⟩
  · simp at h
  rcases U with _ | ⟨u8, U⟩
  · simp at h
  rcases U with _ | ⟨u9, U⟩
  · simp at h
  rcases U with _ | ⟨u10, U⟩
  · simp at h
  rcases U with _ | ⟨u11, U⟩
  · simp at h
  rcases U with _ | ⟨u12, U⟩
  · simp at h
  rcases U with _ | ⟨u13, U⟩
  · simp at h
  rcases U with _ | ⟨u14, U⟩
  · simp at h
  rcases U with _ | ⟨u15, U⟩
  · simp at h
  rcases U with _ | ⟨u16, U⟩
  · simp at h
  rcases U with _ | ⟨u17, U⟩
  · simp at h
  rcases U with _ | ⟨u18, U⟩
  · simp at h
  rcases U with _ | ⟨u19, U⟩
  · simp at h
  rcases U with _ | ⟨u20, U⟩
  · simp at h
  rcases U with _ | ⟨u21, U⟩
  · simp at h
  rcases U with _ | ⟨u22, U⟩
  · simp at h
  rcases U with _ | ⟨u23, U⟩
  · simp at h
  rcases U with _ | ⟨u24, U⟩
  · simp at h
  rcases U with _ | ⟨u25, U⟩
  · simp at h
  rcases U with _ | ⟨u26, U⟩
  · simp at h
  rcases U with _ | ⟨u27, U⟩
  · simp at h
  rcases U with _ | ⟨u28, U⟩
  · simp at h
  rcases U with _ | ⟨u29, U⟩
  · simp at h
  rcases U with _ | ⟨u30, U⟩
  · simp at h
  rcases U with _ | ⟨u31, U⟩
  · simp at h
  obtain rfl : U = [] := by
    apply List.eq_nil_of_length_eq_zero
    simp only [List.length_cons] at h
    omega
  exact built32 a b A n c u0 u1 u2 u3 u4 u5 u6 u7 u8 u9 u10 u11 u12 u13 u14 u15 u16 u17 u18 u19 u20 u21 u22 u23 u24 u25 u26 u27 u28 u29 u30 u31
end Go.Proofs.YtpjggokaolnbcaaDoor
