/- FractionRounds' plain law. -/
import Derived.DataShut
import Derived.Test.YtndfjpnpdnnpkaaDoorPFe
import Derived.Test.YtndfjpnpdnnpkaaDoorPFd
import Derived.Test.YtndfjpnpdnnpkaaDoorFr
namespace Go.Proofs.YtndfjpnpdnnpkaaDoor.F
set_option linter.unusedVariables false
set_option linter.unusedSimpArgs false
open Go.RowKit Go.Proofs.YtndfjpnpdnnpkaaDoorW.PrintWords Go.Proofs.YtndfjpnpdnnpkaaDoorW.PrintLast Go.Proofs.YtndfjpnpdnnpkaaDoorW.PrintMore
theorem i64_of {n : Int} (h : (Lit.int .i64 n).wf = true) : I64 n := by
  exact (Lit.wf_int_iff .i64 n).1 h
theorem i32_of {n : Int} (h : (Lit.int .i32 n).wf = true) : -2147483648 ≤ n ∧ n ≤ 2147483647 := by
  exact (Lit.wf_int_iff .i32 n).1 h
theorem fl_facts {N D : Int} (h : VF N D) : N / D * D ≤ N ∧ N ≤ -((-N) / D) * D ∧ -4611686018427387904 ≤ N / D ∧ N / D ≤ 4611686018427387904 ∧ -4611686018427387904 ≤ -((-N) / D) ∧ -((-N) / D) ≤ 4611686018427387904 ∧ (D = 1 → -((-N) / D) = N / D) ∧ (D ≠ 1 → -((-N) / D) = N / D + 1) := by
  obtain ⟨h1, h2, h3, h4, h5⟩ := h
  have hD : 0 < D := by omega
  have e := Int.mul_ediv_add_emod N D
  have e0 := Int.emod_nonneg N (b := D) (by omega)
  have e1 := Int.emod_lt_of_pos N hD
  have hr0 : N % D = 0 → D = 1 := by
    intro h0
    have : D ∣ N := Int.dvd_of_emod_eq_zero h0
    have c := cop_dvd h5 this (Int.dvd_refl D)
    rw [Int.gcd_self] at c
    omega
  have hq : -4611686018427387904 ≤ N / D ∧ N / D ≤ 4611686018427387904 := by
    constructor
    · refine (Int.le_ediv_iff_mul_le hD).2 ?_
      omega
    · refine Int.le_trans (Int.ediv_le_ediv hD h4) ?_
      exact Int.ediv_le_self _ (by decide)
  generalize N / D = q at e hq
  generalize N % D = r at e e0 e1 hr0
  rw [Int.mul_comm] at e
  obtain ⟨m1, m2, m3, m4, m5, m6, m7, m8⟩ := nmul q D
  by_cases hr : r = 0
  · have := hr0 hr
    subst this
    rw [quo_eq (-N) 1 (-q) hD (by omega) (by omega)]
    refine ⟨by omega, by omega, by omega, by omega, by omega, by omega, fun _ => by omega, fun h => absurd rfl h⟩
  · rw [quo_eq (-N) D (-(q + 1)) hD (by omega) (by omega)]
    rw [Int.neg_neg]
    have hD1 : D ≠ 1 := by
      intro h
      subst h
      omega
    refine ⟨by omega, by omega, by omega, by omega, by omega, ?_, fun h => absurd h hD1, fun _ => rfl⟩
    have : q * D < 4611686018427387904 := by omega
    have h9 : q < 4611686018427387904 := by
      rcases Int.lt_or_le q 4611686018427387904 with h | h
      · exact h
      · have : 4611686018427387904 * 1 ≤ q * D := Int.mul_le_mul h (by omega) (by omega) (by omega)
        omega
    omega
theorem rounds_pure : wireloomlaw02_FractionRounds.Pure := by
  intro n d m hn hd hm
  have hn := i64_of hn
  have hd := i64_of hd
  have hm := i32_of hm
  obtain ⟨k0, N, D, hmade, hv⟩ := made_ok hn hd
  obtain ⟨K, hK0, hK⟩ : ∃ K, k0 ≤ K + 2 ∧ 30 ≤ K := ⟨k0 + 30, by omega, by omega⟩
  refine ⟨K + 2, ?_⟩
  obtain ⟨f1, f2, f3, f4, f5, f6, f7, f8⟩ := fl_facts hv
  obtain ⟨g1, g2⟩ := fl_ok hv
  have hv' := hv
  obtain ⟨v1, v2, v3, v4, v5⟩ := hv'
  have hD : 0 < D := by omega
  have hlast : ∀ J, wireloomlaw02_FractionRounds.j1 (J + 31) true false N D = some true := by
    intro J
    rw [wireloomlaw02_FractionRounds.j1, if_neg (by decide), if_pos rfl]
    obtain ⟨R, hR, hr⟩ := red_mul hv (vf1 (N := D) (by omega) v2) (J + 30) (by omega)
    have e := hr.is (vf1 (N := N) v3 v4) (by omega) (by grind)
    subst e
    rw [hR, Option.bind_some, show wireloomlaw02_is.f N 1 = some (N, 1, 0) from rfl, Option.bind_some]
    simp
  have hj0 : wireloomlaw02_FractionRounds.j0 (K + 2) m true (N / D) (-((-N) / D)) false N D = some true := by
    rw [wireloomlaw02_FractionRounds.j0, if_neg (by decide), w64 (n := m) (by omega)]
    obtain ⟨R, hR, hr⟩ := red_add hv (vf1 (N := m) (by omega) (by omega)) (K + 1) (by omega)
    rw [hR, Option.bind_some]
    by_cases h0 : R.2.2 = 0
    · rw [if_pos h0]
      obtain ⟨r1, r2, r3⟩ := hr.ok h0
      have hc : Int.gcd (N + m * D) D = 1 := cop_add v5
      obtain ⟨e1, e2⟩ := F.unique R.1 R.2.1 (N + m * D) D (by have := r1.pos; omega) hD r1.cop hc (by grind)
      obtain ⟨q1, q2⟩ := fl_ok r1
      rw [q1, q2, Option.bind_some, e1, e2, Int.add_mul_ediv_right _ _ (by omega), w64 (n := N / D + m) (by omega), if_pos rfl, Option.bind_some, w64 (n := -((-N) / D) + m) (by omega),
        show -(N + m * D) = -N + (-m) * D by grind, Int.add_mul_ediv_right _ _ (by omega)]
      rw [show (-(-N / D + -m) != -(-N / D) + m) = false by simp; omega]
      obtain ⟨J, rfl⟩ : ∃ J, K = J + 30 := ⟨K - 30, by omega⟩
      exact hlast J
    · rw [if_neg h0]
      obtain ⟨J, rfl⟩ : ∃ J, K = J + 30 := ⟨K - 30, by omega⟩
      exact hlast J
  unfold wireloomlaw02_FractionRounds.f
  rw [show wireloomlaw02_examples.f (K + 2) = some true from rfl, Option.bind_some, if_pos rfl, hmade _ hK0, Option.bind_some, g1, Option.bind_some, g2, Option.bind_some, cmp_ok (vf1 f3 f4) hv, Option.bind_some, if_neg (cmpI_le (by omega)), cmp_ok hv (vf1 f5 f6), Option.bind_some, if_neg (cmpI_le (by omega))]
  by_cases h1 : D = 1
  · have e := f7 h1
    rw [show ((D == 1) != (-(-N / D) == N / D)) = false by rw [e]; simp [h1], if_neg (by decide), if_neg (by omega)]
    exact hj0
  · have e := f8 h1
    have b1 : (D == 1) = false := by rw [beq_eq_false_iff_ne]; exact h1
    have b2 : (N / D + 1 == N / D) = false := by rw [beq_eq_false_iff_ne]; omega
    rw [show ((D == 1) != (-(-N / D) == N / D)) = false by rw [e, b1, b2]; rfl, if_neg (by decide), if_pos (by omega), w64 (n := N / D + 1) (by omega), show (-(-N / D) != N / D + 1) = false by rw [e]; simp]
    exact hj0
end Go.Proofs.YtndfjpnpdnnpkaaDoor.F
