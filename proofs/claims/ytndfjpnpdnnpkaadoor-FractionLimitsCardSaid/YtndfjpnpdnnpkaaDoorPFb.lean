/- The fraction's operations: each makes the reduced fraction of its formula. -/
import Derived.Test.YtndfjpnpdnnpkaaDoorPFa
import Derived.Test.YtndfjpnpdnnpkaaDoorFx7
namespace Go.Proofs.YtndfjpnpdnnpkaaDoor.F
set_option linter.unusedVariables false
set_option linter.unusedSimpArgs false
open Go.RowKit Go.Proofs.YtndfjpnpdnnpkaaDoorW.PrintWords Go.Proofs.YtndfjpnpdnnpkaaDoorW.PrintLast Go.Proofs.YtndfjpnpdnnpkaaDoorW.PrintMore
theorem cop_dvd {a b c d : Int} (h : Int.gcd a b = 1) (h1 : c ∣ a) (h2 : d ∣ b) : Int.gcd c d = 1 := by
  have h : Nat.Coprime a.natAbs b.natAbs := h
  exact (h.coprime_dvd_left (Int.natAbs_dvd_natAbs.2 h1)).coprime_dvd_right (Int.natAbs_dvd_natAbs.2 h2)
theorem cop_symm {a b : Int} (h : Int.gcd a b = 1) : Int.gcd b a = 1 := by rw [Int.gcd_comm]; exact h
theorem cop_mul {a b c : Int} (h1 : Int.gcd a b = 1) (h2 : Int.gcd a c = 1) : Int.gcd a (b * c) = 1 := by
  have h1 : Nat.Coprime a.natAbs b.natAbs := h1
  have h2 : Nat.Coprime a.natAbs c.natAbs := h2
  show Nat.gcd a.natAbs (b * c).natAbs = 1
  rw [Int.natAbs_mul]
  exact Nat.Coprime.mul_right h1 h2
theorem cop_mul_left {a b c : Int} (h1 : Int.gcd a c = 1) (h2 : Int.gcd b c = 1) : Int.gcd (a * b) c = 1 := cop_symm (cop_mul (cop_symm h1) (cop_symm h2))
/-- two numbers over their greatest common divisor -/
theorem gcd_parts (a b : Int) (h : b ≠ 0) : ∃ (g : Nat) (x y : Int), Int.gcd a b = g ∧ 0 < g ∧ a = g * x ∧ b = g * y ∧ Int.gcd x y = 1 := by
  have hg : Int.gcd a b ≠ 0 := by
    intro h0
    exact h (Int.gcd_eq_zero_iff.1 h0).2
  obtain ⟨x, hx⟩ := Int.gcd_dvd_left (a := a) (b := b)
  obtain ⟨y, hy⟩ := Int.gcd_dvd_right (a := a) (b := b)
  obtain ⟨g, hgd⟩ : ∃ g, Int.gcd a b = g := ⟨_, rfl⟩
  rw [hgd] at hx hy hg
  refine ⟨g, x, y, hgd, by omega, hx, hy, ?_⟩
  rw [hx, hy, Int.gcd_mul_left, Int.natAbs_natCast] at hgd
  exact Nat.eq_of_mul_eq_mul_left (Nat.pos_of_ne_zero hg) (by omega)
theorem cop_dvd_of {a b c : Int} (h : Int.gcd a b = 1) (hd : a ∣ b * c) : a.natAbs ∣ c.natAbs := by
  have h : Nat.Coprime a.natAbs b.natAbs := h
  have := Int.natAbs_dvd_natAbs.2 hd
  rw [Int.natAbs_mul] at this
  exact h.dvd_of_dvd_mul_left this
theorem unique (N D n d : Int) (hD : 0 < D) (hd : 0 < d) (h1 : Int.gcd N D = 1) (h2 : Int.gcd n d = 1) (he : N * d = n * D) : N = n ∧ D = d := by
  have e1 : D.natAbs ∣ d.natAbs := cop_dvd_of (cop_symm h1) ⟨n, by rw [he, Int.mul_comm]⟩
  have e2 : d.natAbs ∣ D.natAbs := cop_dvd_of (cop_symm h2) ⟨N, by rw [← he, Int.mul_comm]⟩
  have e3 := Nat.dvd_antisymm e1 e2
  have e4 : D = d := by omega
  subst e4
  exact ⟨Int.eq_of_mul_eq_mul_right (by omega) he, rfl⟩
/-- R is the fraction of n over d in lowest terms, or the error 'too big' -/
def Red (n d : Int) (R : Int × Int × Int) : Prop := ∃ N D : Int, 0 < D ∧ Int.gcd N D = 1 ∧ N * d = n * D ∧ R = mkF N D
theorem Red.unique {n d n' d' : Int} {R R' : Int × Int × Int} (h : Red n d R) (h' : Red n' d' R') (hd : d ≠ 0) (hd' : d' ≠ 0) (he : n * d' = n' * d) : R = R' := by
  obtain ⟨N, D, h1, h2, h3, rfl⟩ := h
  obtain ⟨N', D', g1, g2, g3, rfl⟩ := h'
  have : N * D' = N' * D := by
    refine Int.eq_of_mul_eq_mul_right (a := d * d') (Int.mul_ne_zero hd hd') ?_
    grind
  obtain ⟨rfl, rfl⟩ := F.unique N D N' D' h1 g1 h2 g2 this
  rfl
/-- a valid fraction -/
structure VF (N D : Int) : Prop where
  pos : 1 ≤ D
  dle : D ≤ 4611686018427387904
  nge : -4611686018427387904 ≤ N
  nle : N ≤ 4611686018427387904
  cop : Int.gcd N D = 1
theorem mkF_ok {N D : Int} (h : VF N D) : mkF N D = (N, D, 0) := by
  obtain ⟨h1, h2, h3, h4, _⟩ := h
  unfold mkF
  rw [if_pos ⟨by omega, by omega⟩]
theorem VF.red {N D : Int} (h : VF N D) : Red N D (N, D, 0) := ⟨N, D, by have := h.pos; omega, h.cop, rfl, (mkF_ok h).symm⟩
/-- a result without an error is valid, and equals its formula -/
theorem Red.ok {n d : Int} {R : Int × Int × Int} (h : Red n d R) (he : R.2.2 = 0) : VF R.1 R.2.1 ∧ R.1 * d = n * R.2.1 ∧ R = (R.1, R.2.1, 0) := by
  obtain ⟨N, D, h1, h2, h3, rfl⟩ := h
  unfold mkF at he ⊢
  by_cases hs : N.natAbs ≤ 4611686018427387904 ∧ D.natAbs ≤ 4611686018427387904
  · rw [if_pos hs]
    exact ⟨⟨by show 1 ≤ D; omega, by show D ≤ _; omega, by show _ ≤ N; omega, by show N ≤ _; omega, h2⟩, h3, rfl⟩
  · rw [if_neg hs] at he
    cases he
theorem Red.err {n d : Int} {R : Int × Int × Int} (h : Red n d R) (he : R.2.2 ≠ 0) : R = (0, 0, 2) := by
  obtain ⟨N, D, h1, h2, h3, rfl⟩ := h
  unfold mkF at he ⊢
  by_cases hs : N.natAbs ≤ 4611686018427387904 ∧ D.natAbs ≤ 4611686018427387904
  · rw [if_pos hs] at he; exact absurd rfl he
  · rw [if_neg hs]
theorem Red.zero (d : Int) (hd : d ≠ 0) : Red 0 d (0, 1, 0) := ⟨0, 1, by decide, by decide, by simp, by decide⟩
theorem sv_mul (x y : Int) : sv ((decide (x < 0)) != (decide (y < 0))) ((x.natAbs : Int) * y.natAbs) = x * y := by
  unfold sv
  by_cases hx : x < 0 <;> by_cases hy : y < 0 <;> simp [hx, hy]
  · rw [show (x.natAbs : Int) = -x by omega, show (y.natAbs : Int) = -y by omega]; grind
  · rw [show (x.natAbs : Int) = -x by omega, show (y.natAbs : Int) = y by omega]; grind
  · rw [show (x.natAbs : Int) = x by omega, show (y.natAbs : Int) = -y by omega]; grind
  · rw [show (x.natAbs : Int) = x by omega, show (y.natAbs : Int) = y by omega]
theorem abs_bound {x y A B : Int} (hx : (x.natAbs : Int) ≤ A) (hy : (y.natAbs : Int) ≤ B) (hB : 0 ≤ A) : (x.natAbs : Int) * y.natAbs ≤ A * B :=
  Int.mul_le_mul hx hy (by omega) hB
theorem quo_le {a x : Int} {g : Nat} (h : 0 < g) (e : a = g * x) : (x.natAbs : Int) ≤ a.natAbs := by
  have : a.natAbs = g * x.natAbs := by rw [e, Int.natAbs_mul, Int.natAbs_natCast]
  have h2 : 1 * x.natAbs ≤ g * x.natAbs := Nat.mul_le_mul_right _ h
  omega
theorem quo_pos {a x : Int} {g : Nat} (h : 0 < g) (e : a = g * x) (ha : 0 < a) : 0 < x := by
  rcases Int.lt_or_le 0 x with h' | h'
  · exact h'
  · have : (g : Int) * x ≤ 0 := Int.mul_nonpos_of_nonneg_of_nonpos (by omega) h'
    omega
theorem dvs_le {a x : Int} {g : Nat} (e : a = g * x) (ha : 0 < a) : (g : Int) ≤ a := Int.le_of_dvd ha ⟨x, e⟩
theorem gcd_nat (a b : Int) : Int.gcd (a.natAbs : Int) b = Int.gcd a b := by simp [Int.gcd]
theorem tdiv_g {a x : Int} {g : Nat} (h : 0 < g) (e : a = g * x) : Int.tdiv a g = x := by rw [e]; exact Int.mul_tdiv_cancel_left _ (by omega)
theorem neg_ff {x y : Int} (hx : 0 < x) (hy : 0 < y) : ((decide (x < 0)) != (decide (y < 0))) = false := by rw [decide_eq_false (by omega), decide_eq_false (by omega)]; rfl
theorem red_Mul {aN aD bN bD : Int} (ha : VF aN aD) (hb : VF bN bD) (k : Nat) (hk : 30 ≤ k) : ∃ R, fraction_Mul.f k aN aD bN bD = some R ∧ Red (aN * bN) (aD * bD) R := by
  obtain ⟨a1, a2, a3, a4, a5⟩ := ha
  obtain ⟨b1, b2, b3, b4, b5⟩ := hb
  have hD : aD * bD ≠ 0 := Int.mul_ne_zero (by omega) (by omega)
  obtain ⟨k, rfl⟩ : ∃ j, k = j + 1 := ⟨k - 1, by omega⟩
  have hz : ∀ K, fraction_Mul.j0 (K + 1) true aN aD bN bD = some (0, 1, 0) := by
    intro K
    rw [fraction_Mul.j0, if_pos rfl]
    rfl
  unfold fraction_Mul.f
  by_cases ha0 : aN = 0
  · rw [if_pos ha0, hz]
    refine ⟨_, rfl, ?_⟩
    rw [ha0, Int.zero_mul]
    exact Red.zero _ hD
  · rw [if_neg ha0]
    by_cases hb0 : bN = 0
    · rw [show (bN == 0) = true by simpa using hb0, hz]
      refine ⟨_, rfl, ?_⟩
      rw [hb0, Int.mul_zero]
      exact Red.zero _ hD
    · rw [show (bN == 0) = false by simpa using hb0, fraction_Mul.j0, if_neg (by decide)]
      obtain ⟨g, x, y, hg, g0, ex, ey, hxy⟩ := gcd_parts aN bD (by omega)
      obtain ⟨h, z, t, hh, h0, ez, et, hzt⟩ := gcd_parts bN aD (by omega)
      have hgb := dvs_le ey (by omega)
      have hhb := dvs_le et (by omega)
      have xb := quo_le g0 ex
      have yb := quo_le g0 ey
      have zb := quo_le h0 ez
      have tb := quo_le h0 et
      have yp := quo_pos g0 ey (by omega)
      have tp := quo_pos h0 et (by omega)
      have r1 : fraction_gcd.f [(aN.natAbs : Int), bD] = some (g : Int) := by rw [gcd_ok ⟨by omega, by omega⟩ ⟨by omega, by omega⟩, gcd_nat, hg]
      have r2 : fraction_gcd.f [(bN.natAbs : Int), aD] = some (h : Int) := by rw [gcd_ok ⟨by omega, by omega⟩ ⟨by omega, by omega⟩, gcd_nat, hh]
      have hX := abs_bound (x := x) (y := z) (A := 4611686018427387904) (B := 4611686018427387904) (by omega) (by omega) (by omega)
      have hY := abs_bound (x := t) (y := y) (A := 4611686018427387904) (B := 4611686018427387904) (by omega) (by omega) (by omega)
      have hX0 : 0 ≤ (x.natAbs : Int) * z.natAbs := Int.mul_nonneg (by omega) (by omega)
      have hY0 : 0 ≤ (t.natAbs : Int) * y.natAbs := Int.mul_nonneg (by omega) (by omega)
      rw [abs_ok (a := aN) ⟨by omega, by omega⟩, Option.bind_some, u64w (n := bD) (by omega), r1, Option.bind_some, abs_ok (a := bN) ⟨by omega, by omega⟩, Option.bind_some, u64w (n := aD) (by omega), r2, Option.bind_some,
        w64 (n := (g : Int)) (by omega), w64 (n := (h : Int)) (by omega), if_neg (by omega), if_neg (by omega), tdiv_g g0 ex, tdiv_g h0 ez, tdiv_g h0 et, tdiv_g g0 ey, w64 (n := x) (by omega), w64 (n := z) (by omega), w64 (n := t) (by omega), w64 (n := y) (by omega),
        times_ok (a := x) (b := z) ⟨by omega, by omega⟩ ⟨by omega, by omega⟩, Option.bind_some, times_ok (a := t) (b := y) ⟨by omega, by omega⟩ ⟨by omega, by omega⟩, Option.bind_some, neg_ff tp yp, made_w _ _ _ hX0 hY0 k (by omega), Option.bind_some, sv_mul]
      refine ⟨_, rfl, x * z, t * y, Int.mul_pos tp yp, ?_, ?_, ?_⟩
      · exact cop_mul_left (cop_mul (cop_dvd a5 ⟨g, by rw [ex, Int.mul_comm]⟩ ⟨h, by rw [et, Int.mul_comm]⟩) hxy) (cop_mul hzt (cop_dvd b5 ⟨h, by rw [ez, Int.mul_comm]⟩ ⟨g, by rw [ey, Int.mul_comm]⟩))
      · rw [ex, ey, ez, et]; grind
      · show mkF _ _ = _
        rw [show (t.natAbs : Int) = t by omega, show (y.natAbs : Int) = y by omega]
end Go.Proofs.YtndfjpnpdnnpkaaDoor.F
