/- The wide numbers' operations, over their values. -/
import Derived.Test.YtndfjpnpdnnpkaaDoorPDiv
import Derived.Test.YtndfjpnpdnnpkaaDoorFx5
import Derived.Test.YtndfjpnpdnnpkaaDoorFx6
namespace Go.Proofs.YtndfjpnpdnnpkaaDoor.F
set_option linter.unusedVariables false
set_option linter.unusedSimpArgs false
open Go.RowKit Go.Proofs.YtndfjpnpdnnpkaaDoorW.PrintWords Go.Proofs.YtndfjpnpdnnpkaaDoorW.PrintLast Go.Proofs.YtndfjpnpdnnpkaaDoorW.PrintMore
def I64 (a : Int) : Prop := -9223372036854775808 ≤ a ∧ a ≤ 9223372036854775807
theorem w64 {n : Int} (h : -9223372036854775808 ≤ n ∧ n ≤ 9223372036854775807) : wrap64 n = n := by unfold wrap64; omega
theorem abs_ok {a : Int} (h : I64 a) : fraction_abs.f a = some (a.natAbs : Int) := by
  obtain ⟨h1, h2⟩ := h
  unfold fraction_abs.f
  simp only [u64m]
  by_cases hn : a < 0
  · rw [if_pos hn]; congr 1; omega
  · rw [if_neg hn]; congr 1; omega
/-- a fraction, if both are small enough -/
def mkF (N D : Int) : Int × Int × Int := if N.natAbs ≤ 4611686018427387904 ∧ D.natAbs ≤ 4611686018427387904 then (N, D, 0) else (0, 0, 2)
theorem gcd_ok {a b : Int} (ha : Word a) (hb : Word b) : fraction_gcd.f [a, b] = some ((Int.gcd a b : Nat) : Int) := by
  unfold fraction_gcd.f
  simp only [if_pos (show Word a ∧ Word b from ⟨ha, hb⟩)]
end Go.Proofs.YtndfjpnpdnnpkaaDoor.F
