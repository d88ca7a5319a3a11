/- The fraction's sum: the reduced fraction of its formula. -/
import Derived.Test.YtndfjpnpdnnpkaaDoorPFb
namespace Go.Proofs.YtndfjpnpdnnpkaaDoor.F
set_option linter.unusedVariables false
set_option linter.unusedSimpArgs false
open Go.RowKit Go.Proofs.YtndfjpnpdnnpkaaDoorW.PrintWords Go.Proofs.YtndfjpnpdnnpkaaDoorW.PrintLast Go.Proofs.YtndfjpnpdnnpkaaDoorW.PrintMore
theorem cop_add {x y u : Int} (h : Int.gcd x u = 1) : Int.gcd (x + y * u) u = 1 := by
  rw [Int.gcd_comm] at h ⊢
  have e : Int.gcd u (x + y * u) ∣ Int.gcd u x := by
    have h1 : ((Int.gcd u (x + y * u) : Nat) : Int) ∣ u := Int.gcd_dvd_left ..
    have h2 : ((Int.gcd u (x + y * u) : Nat) : Int) ∣ x + y * u := Int.gcd_dvd_right ..
    have h3 : ((Int.gcd u (x + y * u) : Nat) : Int) ∣ x := by
      have := Int.dvd_sub h2 (Int.dvd_mul_of_dvd_right (b := y) h1)
      rwa [show x + y * u - y * u = x by omega] at this
    exact Int.dvd_gcd h1 h3
  rw [h] at e
  exact Nat.dvd_one.1 e
theorem sv_neg (n : Bool) (X : Int) : sv (!n) X = -(sv n X) := by unfold sv; cases n <;> simp
theorem sv_mul_left (n : Bool) (h X : Int) : sv n (h * X) = h * sv n X := by unfold sv; cases n <;> simp [Int.mul_neg]
theorem sv_dvd (n : Bool) (X : Int) : sv n X ∣ X := by unfold sv; cases n <;> simp
theorem sv_zero (n : Bool) (X : Int) : sv n X = 0 ↔ X = 0 := by unfold sv; cases n <;> simp
theorem gcd_mod (Z : Int) (g : Nat) : Int.gcd (Z % g) g = Int.gcd Z g := by
  have e : Z = Z % (g : Int) + Z / (g : Int) * g := by have := Int.mul_ediv_add_emod Z g; rw [Int.mul_comm] at this; omega
  refine Nat.dvd_antisymm (Int.dvd_gcd ?_ (Int.gcd_dvd_right ..)) (Int.dvd_gcd ?_ (Int.gcd_dvd_right ..))
  · have h1 : ((Int.gcd (Z % g) g : Nat) : Int) ∣ Z % g := Int.gcd_dvd_left ..
    have h2 : ((Int.gcd (Z % g) g : Nat) : Int) ∣ g := Int.gcd_dvd_right ..
    have := Int.dvd_add h1 (Int.dvd_mul_of_dvd_right (b := Z / (g : Int)) h2)
    rwa [← e] at this
  · have h1 : ((Int.gcd Z g : Nat) : Int) ∣ Z := Int.gcd_dvd_left ..
    have h2 : ((Int.gcd Z g : Nat) : Int) ∣ g := Int.gcd_dvd_right ..
    have := Int.dvd_sub h1 (Int.dvd_mul_of_dvd_right (b := Z / (g : Int)) h2)
    rwa [show Z - Z / (g : Int) * g = Z % (g : Int) by omega] at this
theorem red_Add {aN aD bN bD : Int} (ha : VF aN aD) (hb : VF bN bD) (k : Nat) (hk : 30 ≤ k) : ∃ R, fraction_Add.f k aN aD bN bD = some R ∧ Red (aN * bD + bN * aD) (aD * bD) R := by
  obtain ⟨a1, a2, a3, a4, a5⟩ := ha
  obtain ⟨b1, b2, b3, b4, b5⟩ := hb
  have hD : aD * bD ≠ 0 := Int.mul_ne_zero (by omega) (by omega)
  obtain ⟨g, u, v, hg, g0, eu, ev, huv⟩ := gcd_parts aD bD (by omega)
  have hga := dvs_le eu (by omega)
  have ub := quo_le g0 eu
  have vb := quo_le g0 ev
  have up := quo_pos g0 eu (by omega)
  have vp := quo_pos g0 ev (by omega)
  have hX := abs_bound (x := aN) (y := v) (A := 4611686018427387904) (B := 4611686018427387904) (by omega) (by omega) (by omega)
  have hY := abs_bound (x := bN) (y := u) (A := 4611686018427387904) (B := 4611686018427387904) (by omega) (by omega) (by omega)
  have hX0 : 0 ≤ (aN.natAbs : Int) * v.natAbs := Int.mul_nonneg (by omega) (by omega)
  have hY0 : 0 ≤ (bN.natAbs : Int) * u.natAbs := Int.mul_nonneg (by omega) (by omega)
  obtain ⟨n, Z, z0, z1, zs, -, zf⟩ := plus_w ((decide (aN < 0)) != (decide (v < 0))) ((decide (bN < 0)) != (decide (u < 0))) _ _ hX0 hY0 (by omega) (by omega)
  rw [sv_mul, sv_mul] at zs
  unfold fraction_Add.f
  rw [u64w (n := aD) (by omega), u64w (n := bD) (by omega), gcd_ok (a := aD) (b := bD) ⟨by omega, by omega⟩ ⟨by omega, by omega⟩, Option.bind_some, hg, w64 (n := (g : Int)) (by omega), if_neg (by omega), tdiv_g g0 ev, tdiv_g g0 eu, w64 (n := v) (by omega), w64 (n := u) (by omega),
    times_ok (a := aN) (b := v) ⟨by omega, by omega⟩ ⟨by omega, by omega⟩, Option.bind_some, times_ok (a := bN) (b := u) ⟨by omega, by omega⟩ ⟨by omega, by omega⟩, Option.bind_some, zf, Option.bind_some]
  show ∃ R, ((fraction_wide_zero.f n (Z / 18446744073709551616) (Z % 18446744073709551616)).bind _) = some R ∧ _
  rw [zero_w n Z z0, Option.bind_some]
  by_cases hZ : Z = 0
  · rw [if_pos (by simpa using hZ)]
    refine ⟨_, rfl, ?_⟩
    have e : aN * bD + bN * aD = 0 := by
      have : sv n Z = 0 := (sv_zero n Z).2 hZ
      rw [this] at zs
      rw [eu, ev]
      grind
    rw [e]
    exact Red.zero _ hD
  · rw [if_neg (by simpa using hZ)]
    obtain ⟨h, z, g', hh, h0, ez, eg, hzg⟩ := gcd_parts Z g (by omega)
    have hhg : (h : Int) ≤ g := dvs_le eg (by omega)
    have zp := quo_pos h0 ez (by omega)
    have gp := quo_pos h0 eg (by omega)
    have gb := quo_le h0 eg
    have em0 := Int.emod_nonneg Z (b := (g : Int)) (by omega)
    have em1 := Int.emod_lt_of_pos Z (b := (g : Int)) (by omega)
    have r1 : fraction_gcd.f [Z % (g : Int), (g : Int)] = some (h : Int) := by rw [gcd_ok ⟨by omega, by omega⟩ ⟨by omega, by omega⟩, gcd_mod, hh]
    have ehb : bD = (h : Int) * (g' * v) := by rw [ev, eg, Int.mul_assoc]
    have q1 := quo_le h0 ehb
    have q2 := quo_pos h0 ehb (by omega)
    have ezh : Z / (h : Int) = z := by rw [ez]; exact Int.mul_ediv_cancel_left _ (by omega)
    have hW := abs_bound (x := u) (y := g' * v) (A := 4611686018427387904) (B := 4611686018427387904) (by omega) (by omega) (by omega)
    have hW0 : 0 ≤ (u.natAbs : Int) * (g' * v).natAbs := Int.mul_nonneg (by omega) (by omega)
    show ∃ R, ((bits_Rem64.f k (Z / 18446744073709551616) (Z % 18446744073709551616) (g : Int)).bind _) = some R ∧ _
    rw [rem_w Z g z0 z1 (by omega) (by omega) k (by omega), Option.bind_some, r1, Option.bind_some]
    show ∃ R, ((fraction_wide_over.f k n (Z / 18446744073709551616) (Z % 18446744073709551616) (h : Int)).bind _) = some R ∧ _
    rw [over_w n Z h z0 z1 (by omega) (by omega) k (by omega), Option.bind_some, w64 (n := (h : Int)) (by omega), if_neg (by omega), tdiv_g h0 ehb, w64 (n := g' * v) (by omega), times_ok (a := u) (b := g' * v) ⟨by omega, by omega⟩ ⟨by omega, by omega⟩, Option.bind_some, ezh, neg_ff up q2, made_w _ _ _ (by omega) hW0 k (by omega), Option.bind_some]
    have zs2 : (h : Int) * sv n z = aN * v + bN * u := by rw [← sv_mul_left, ← ez]; exact zs
    refine ⟨_, rfl, sv n z, u * (g' * v), Int.mul_pos up q2, ?_, ?_, ?_⟩
    · have c1 : Int.gcd (aN * v + bN * u) u = 1 := cop_add (cop_mul_left (cop_dvd a5 ⟨1, by simp⟩ ⟨g, by rw [eu, Int.mul_comm]⟩) (cop_symm huv))
      have c2 : Int.gcd (aN * v + bN * u) v = 1 := by
        rw [Int.add_comm]
        exact cop_add (cop_mul_left (cop_dvd b5 ⟨1, by simp⟩ ⟨g, by rw [ev, Int.mul_comm]⟩) huv)
      have d : sv n z ∣ aN * v + bN * u := ⟨h, by rw [← zs2, Int.mul_comm]⟩
      exact cop_mul (cop_dvd c1 d ⟨1, by simp⟩) (cop_mul (cop_dvd hzg (sv_dvd n z) ⟨1, by simp⟩) (cop_dvd c2 d ⟨1, by simp⟩))
    · have e1 : aD = (h : Int) * (g' * u) := by rw [eu, eg, Int.mul_assoc]
      rw [ehb, e1]
      grind
    · show mkF _ _ = _
      rw [show (u.natAbs : Int) = u by omega, show ((g' * v).natAbs : Int) = g' * v by omega]
end Go.Proofs.YtndfjpnpdnnpkaaDoor.F
