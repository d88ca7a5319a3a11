/- The fraction's operations: each makes the reduced fraction of its formula. -/
import Derived.Test.YtndfjpnpdnnpkaaDoorPFa
import Derived.Test.YtndfjpnpdnnpkaaDoorFx7
namespace Go.Proofs.YtndfjpnpdnnpkaaDoor.F
set_option linter.unusedVariables false
set_option linter.unusedSimpArgs false
open Go.RowKit Go.Proofs.YtndfjpnpdnnpkaaDoorW.PrintWords Go.Proofs.YtndfjpnpdnnpkaaDoorW.PrintLast Go.Proofs.YtndfjpnpdnnpkaaDoorW.PrintMore
/-- two numbers over their greatest common divisor -/
theorem gcd_parts (a b : Int) (h : b ≠ 0) : ∃ (g : Nat) (x y : Int), Int.gcd a b = g ∧ 0 < g ∧ a = g * x ∧ b = g * y ∧ Int.gcd x y = 1 := by
  have hg : Int.gcd a b ≠ 0 := by
    intro h0
    exact h (Int.gcd_eq_zero_iff.1 h0).2
  obtain ⟨x, hx⟩ := Int.gcd_dvd_left (a := a) (b := b)
  obtain ⟨y, hy⟩ := Int.gcd_dvd_right (a := a) (b := b)
  obtain ⟨g, hgd⟩ : ∃ g, Int.gcd a b = g := ⟨_, rfl⟩
  rw [hgd] at hx hy hg
  refine ⟨g, x, y, hgd, by omega, hx, hy, ?_⟩
  rw [hx, hy, Int.gcd_mul_left, Int.natAbs_natCast] at hgd
  exact Nat.eq_of_mul_eq_mul_left (Nat.pos_of_ne_zero hg) (by omega)
/-- R is the fraction of n over d in lowest terms, or the error 'too big' -/
def Red (n d : Int) (R : Int × Int × Int) : Prop := ∃ N D : Int, 0 < D ∧ Int.gcd N D = 1 ∧ N * d = n * D ∧ R = mkF N D
/-- a valid fraction -/
structure VF (N D : Int) : Prop where
  pos : 1 ≤ D
  dle : D ≤ 4611686018427387904
  nge : -4611686018427387904 ≤ N
  nle : N ≤ 4611686018427387904
  cop : Int.gcd N D = 1
/-- a result without an error is valid, and equals its formula -/
theorem Red.ok {n d : Int} {R : Int × Int × Int} (h : Red n d R) (he : R.2.2 = 0) : VF R.1 R.2.1 ∧ R.1 * d = n * R.2.1 ∧ R = (R.1, R.2.1, 0) := by
  obtain ⟨N, D, h1, h2, h3, rfl⟩ := h
  unfold mkF at he ⊢
  by_cases hs : N.natAbs ≤ 4611686018427387904 ∧ D.natAbs ≤ 4611686018427387904
  · rw [if_pos hs]
    exact ⟨⟨by show 1 ≤ D; omega, by show D ≤ _; omega, by show _ ≤ N; omega, by show N ≤ _; omega, h2⟩, h3, rfl⟩
  · rw [if_neg hs] at he
    cases he
theorem Red.zero (d : Int) (hd : d ≠ 0) : Red 0 d (0, 1, 0) := ⟨0, 1, by decide, by decide, by simp, by decide⟩
theorem quo_le {a x : Int} {g : Nat} (h : 0 < g) (e : a = g * x) : (x.natAbs : Int) ≤ a.natAbs := by
  have : a.natAbs = g * x.natAbs := by rw [e, Int.natAbs_mul, Int.natAbs_natCast]
  have h2 : 1 * x.natAbs ≤ g * x.natAbs := Nat.mul_le_mul_right _ h
  omega
theorem gcd_nat (a b : Int) : Int.gcd (a.natAbs : Int) b = Int.gcd a b := by simp [Int.gcd]
theorem tdiv_g {a x : Int} {g : Nat} (h : 0 < g) (e : a = g * x) : Int.tdiv a g = x := by rw [e]; exact Int.mul_tdiv_cancel_left _ (by omega)
end Go.Proofs.YtndfjpnpdnnpkaaDoor.F
