/- Floor, Ceil, Cmp over valid fractions. -/
import Derived.Test.YtndfjpnpdnnpkaaDoorPFc
namespace Go.Proofs.YtndfjpnpdnnpkaaDoor.F
set_option linter.unusedVariables false
set_option linter.unusedSimpArgs false
open Go.RowKit Go.Proofs.YtndfjpnpdnnpkaaDoorW.PrintWords Go.Proofs.YtndfjpnpdnnpkaaDoorW.PrintLast Go.Proofs.YtndfjpnpdnnpkaaDoorW.PrintMore
theorem nmul (q D : Int) : (-(q + 1)) * D = -(q * D) - D ∧ (-q) * D = -(q * D) ∧ (-(q + 1) + 1) * D = -(q * D) ∧ (-q + 1) * D = -(q * D) + D ∧ (q + 1) * D = q * D + D ∧ (q - 1) * D = q * D - D ∧ (-q - 1) * D = -(q * D) - D ∧ (-q - 1 + 1) * D = -(q * D) := by
  refine ⟨?_, ?_, ?_, ?_, ?_, ?_, ?_, ?_⟩ <;> grind
theorem fl_ok {N D : Int} (h : VF N D) : fraction_Floor.f N D = some (N / D) ∧ fraction_Ceil.f N D = some (-((-N) / D)) := by
  obtain ⟨h1, h2, h3, h4, -⟩ := h
  have hD : 0 < D := by omega
  unfold fraction_Floor.f fraction_Ceil.f
  rw [if_neg (show ¬ D = 0 by omega), if_neg (show ¬ D = 0 by omega)]
  by_cases hN : 0 ≤ N
  · rw [Int.tdiv_eq_ediv_of_nonneg hN]
    have e := Int.mul_ediv_add_emod N D
    have e0 := Int.emod_nonneg N (b := D) (by omega)
    have e1 := Int.emod_lt_of_pos N hD
    have b0 := Int.ediv_nonneg hN (show 0 ≤ D by omega)
    have b1 := Int.ediv_le_self D hN
    generalize N / D = q at e b0 b1
    generalize N % D = r at e e0 e1
    rw [Int.mul_comm] at e
    obtain ⟨m1, m2, m3, m4, m5, m6, m7, m8⟩ := nmul q D
    rw [w64 (n := q) (by omega), w64 (n := q * D) (by omega), if_neg (by omega)]
    refine ⟨rfl, ?_⟩
    by_cases hr : r = 0
    · rw [if_neg (by omega), quo_eq (-N) D (-q) hD (by omega) (by omega)]
      congr 1; omega
    · rw [if_pos (by omega), quo_eq (-N) D (-(q + 1)) hD (by omega) (by omega), w64 (by omega)]
      congr 1; omega
  · have ht : Int.tdiv N D = -((-N) / D) := by
      rw [← Int.tdiv_eq_ediv_of_nonneg (show 0 ≤ -N by omega), Int.neg_tdiv, Int.neg_neg]
    rw [ht]
    have e := Int.mul_ediv_add_emod (-N) D
    have e0 := Int.emod_nonneg (-N) (b := D) (by omega)
    have e1 := Int.emod_lt_of_pos (-N) hD
    have b0 := Int.ediv_nonneg (show 0 ≤ -N by omega) (show 0 ≤ D by omega)
    have b1 := Int.ediv_le_self D (show 0 ≤ -N by omega)
    generalize (-N) / D = q at e b0 b1
    generalize (-N) % D = r at e e0 e1
    rw [Int.mul_comm] at e
    obtain ⟨m1, m2, m3, m4, m5, m6, m7, m8⟩ := nmul q D
    rw [w64 (n := -q) (by omega), w64 (n := -q * D) (by omega)]
    refine ⟨?_, ?_⟩
    · by_cases hr : r = 0
      · rw [if_neg (by omega), quo_eq N D (-q) hD (by omega) (by omega)]
      · rw [if_pos (by omega), quo_eq N D (-q - 1) hD (by omega) (by omega), w64 (by omega)]
    · rw [if_neg (by omega)]
/-- the sign of a comparison -/
def cmpI (x y : Int) : Int := if x < y then -1 else if x = y then 0 else 1
theorem cmp_ok {aN aD bN bD : Int} (ha : VF aN aD) (hb : VF bN bD) : fraction_Cmp.f aN aD bN bD = some (cmpI (aN * bD) (bN * aD)) := by
  have hu := F.unique aN aD bN bD (by have := ha.pos; omega) (by have := hb.pos; omega) ha.cop hb.cop
  obtain ⟨a1, a2, a3, a4, a5⟩ := ha
  obtain ⟨b1, b2, b3, b4, b5⟩ := hb
  unfold fraction_Cmp.f
  by_cases he : aN = bN ∧ aD = bD
  · obtain ⟨rfl, rfl⟩ := he
    rw [if_pos (by simp)]
    unfold cmpI
    rw [if_neg (by omega), if_pos rfl]
  · rw [if_neg (by simpa using he)]
    have hX := abs_bound (x := aN) (y := bD) (A := 4611686018427387904) (B := 4611686018427387904) (by omega) (by omega) (by omega)
    have hY := abs_bound (x := bN) (y := aD) (A := 4611686018427387904) (B := 4611686018427387904) (by omega) (by omega) (by omega)
    have hX0 : 0 ≤ (aN.natAbs : Int) * bD.natAbs := Int.mul_nonneg (by omega) (by omega)
    have hY0 : 0 ≤ (bN.natAbs : Int) * aD.natAbs := Int.mul_nonneg (by omega) (by omega)
    obtain ⟨n, Z, z0, z1, zs, -, zf⟩ := plus_w ((decide (aN < 0)) != (decide (bD < 0))) (!((decide (bN < 0)) != (decide (aD < 0)))) _ _ hX0 hY0 (by omega) (by omega)
    rw [sv_neg, sv_mul, sv_mul] at zs
    rw [times_ok (a := bN) (b := aD) ⟨by omega, by omega⟩ ⟨by omega, by omega⟩, Option.bind_some, times_ok (a := aN) (b := bD) ⟨by omega, by omega⟩ ⟨by omega, by omega⟩, Option.bind_some, zf, Option.bind_some]
    have hne : aN * bD ≠ bN * aD := fun h => he (hu h)
    unfold cmpI
    unfold sv at zs
    cases n with
    | true =>
      rw [if_pos rfl] at zs
      rw [if_pos rfl, if_pos (by omega)]
    | false =>
      rw [if_neg (by decide)] at zs
      show (if (false = true) then some (-1) else some 1) = _
      rw [if_neg (show ¬ false = true by decide), if_neg (by omega), if_neg hne]
theorem vf1 {N : Int} (h1 : -4611686018427387904 ≤ N) (h2 : N ≤ 4611686018427387904) : VF N 1 := ⟨by decide, by decide, h1, h2, by simp⟩
theorem cmpI_le {x y : Int} (h : x ≤ y) : ¬ cmpI x y > 0 := by unfold cmpI; split; decide; split; decide; omega
theorem red_add {aN aD bN bD : Int} (ha : VF aN aD) (hb : VF bN bD) (k : Nat) (hk : 30 ≤ k) : ∃ R, wireloomlaw02_add.f k aN aD bN bD = some R ∧ Red (aN * bD + bN * aD) (aD * bD) R := by
  obtain ⟨R, h, hR⟩ := red_Add ha hb k hk
  exact ⟨R, by unfold wireloomlaw02_add.f; rw [h]; rfl, hR⟩
theorem red_mul {aN aD bN bD : Int} (ha : VF aN aD) (hb : VF bN bD) (k : Nat) (hk : 30 ≤ k) : ∃ R, wireloomlaw02_mul.f k aN aD bN bD = some R ∧ Red (aN * bN) (aD * bD) R := by
  obtain ⟨R, h, hR⟩ := red_Mul ha hb k hk
  exact ⟨R, by unfold wireloomlaw02_mul.f; rw [h]; rfl, hR⟩
/-- a reduced fraction of a valid fraction's value is that fraction -/
theorem Red.is {n d N D : Int} {R : Int × Int × Int} (h : Red n d R) (hv : VF N D) (hd : d ≠ 0) (he : n * D = N * d) : R = (N, D, 0) := h.unique hv.red hd (by have := hv.pos; omega) he
end Go.Proofs.YtndfjpnpdnnpkaaDoor.F
