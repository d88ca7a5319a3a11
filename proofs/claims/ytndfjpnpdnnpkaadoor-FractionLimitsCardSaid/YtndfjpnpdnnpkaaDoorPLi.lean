/- FractionLimits' plain law. -/
import Derived.Test.YtndfjpnpdnnpkaaDoorPFg
import Derived.Test.YtndfjpnpdnnpkaaDoorFpw
namespace Go.Proofs.YtndfjpnpdnnpkaaDoor.F
set_option linter.unusedVariables false
set_option linter.unusedSimpArgs false
open Go.RowKit Go.Proofs.YtndfjpnpdnnpkaaDoorW.PrintWords Go.Proofs.YtndfjpnpdnnpkaaDoorW.PrintLast Go.Proofs.YtndfjpnpdnnpkaaDoorW.PrintMore
theorem fl_u8 {n : Int} (h : (Lit.int .u8 n).wf = true) : 0 ≤ n ∧ n ≤ 255 := (Lit.wf_int_iff .u8 n).1 h
def pN (e : Int) : Int := if e < 0 then 1 else ((2 ^ e.toNat : Nat) : Int)
def pD (e : Int) : Int := if e < 0 then ((2 ^ (-e).toNat : Nat) : Int) else 1
def sN (a b : Int) : Int := if a = b then pN (a + 1) else if a < b then ((2 ^ (b - a).toNat + 1 : Nat) : Int) * pN a else ((2 ^ (a - b).toNat + 1 : Nat) : Int) * pN b
def sD (a b : Int) : Int := if a = b then pD (a + 1) else if a < b then pD a else pD b
def fitsI (a b : Int) : Bool := if a = b then decide (mx a b ≤ 61) else decide (mx a b ≤ 61) && decide (mx a b - mn (mn a b) 0 ≤ 61)
def okE (N D : Int) : Bool := decide (N.natAbs ≤ 4611686018427387904) && decide (D.natAbs ≤ 4611686018427387904)
def in62 (e : Int) : Bool := decide (-62 ≤ e) && decide (e ≤ 62)
def chk (a b : Int) : Bool :=
  (pN a * pN b * pD (a + b) == pN (a + b) * (pD a * pD b)) && (pN a * pD b * pD (a - b) == pN (a - b) * (pD a * pN b)) && ((pN a * pD b + pN b * pD a) * sD a b == sN a b * (pD a * pD b)) &&
  (Int.gcd (sN a b) (sD a b) == 1) && decide (0 < sD a b) && (okE (sN a b) (sD a b) == fitsI a b)
theorem chk_all : ∀ i j : Fin 125, chk ((i.val : Int) - 62) ((j.val : Int) - 62) = true := by decide +kernel
def chk1 (e : Int) : Bool := (Int.gcd (pN e) (pD e) == 1) && decide (0 < pD e) && (okE (pN e) (pD e) == in62 e)
theorem chk1_all : ∀ i : Fin 249, chk1 ((i.val : Int) - 124) = true := by decide +kernel
theorem power_all : ∀ i : Fin 125, wireloomlaw02_power.f ((i.val : Int) - 62) = some (pN ((i.val : Int) - 62), pD ((i.val : Int) - 62)) := by decide +kernel
theorem fin_of {e : Int} (h : -62 ≤ e ∧ e ≤ 62) : ∃ i : Fin 125, (i.val : Int) - 62 = e := ⟨⟨(e + 62).toNat, by omega⟩, by show ((e + 62).toNat : Int) - 62 = e; omega⟩
theorem fin2_of {e : Int} (h : -124 ≤ e ∧ e ≤ 124) : ∃ i : Fin 249, (i.val : Int) - 124 = e := ⟨⟨(e + 124).toNat, by omega⟩, by show ((e + 124).toNat : Int) - 124 = e; omega⟩
theorem power_ok {e : Int} (h : -62 ≤ e ∧ e ≤ 62) : wireloomlaw02_power.f e = some (pN e, pD e) := by
  obtain ⟨i, rfl⟩ := fin_of h
  exact power_all i
theorem chk1_ok {e : Int} (h : -124 ≤ e ∧ e ≤ 124) : Int.gcd (pN e) (pD e) = 1 ∧ 0 < pD e ∧ okE (pN e) (pD e) = in62 e := by
  obtain ⟨i, rfl⟩ := fin2_of h
  have := chk1_all i
  unfold chk1 at this
  simp only [Bool.and_eq_true, beq_iff_eq, decide_eq_true_eq] at this
  exact ⟨this.1.1, this.1.2, this.2⟩
theorem chk_ok {a b : Int} (ha : -62 ≤ a ∧ a ≤ 62) (hb : -62 ≤ b ∧ b ≤ 62) : pN a * pN b * pD (a + b) = pN (a + b) * (pD a * pD b) ∧ pN a * pD b * pD (a - b) = pN (a - b) * (pD a * pN b) ∧ (pN a * pD b + pN b * pD a) * sD a b = sN a b * (pD a * pD b) ∧ Int.gcd (sN a b) (sD a b) = 1 ∧ 0 < sD a b ∧ okE (sN a b) (sD a b) = fitsI a b := by
  obtain ⟨i, rfl⟩ := fin_of ha
  obtain ⟨j, rfl⟩ := fin_of hb
  have := chk_all i j
  unfold chk at this
  simp only [Bool.and_eq_true, beq_iff_eq, decide_eq_true_eq] at this
  obtain ⟨⟨⟨⟨⟨h1, h2⟩, h3⟩, h4⟩, h5⟩, h6⟩ := this
  exact ⟨h1, h2, h3, h4, h5, h6⟩
theorem pw_vf {e : Int} (h : -62 ≤ e ∧ e ≤ 62) : VF (pN e) (pD e) := by
  obtain ⟨h1, h2, h3⟩ := chk1_ok (e := e) ⟨by omega, by omega⟩
  have h4 : in62 e = true := by unfold in62; rw [decide_eq_true h.1, decide_eq_true h.2]; rfl
  rw [h4] at h3
  unfold okE at h3
  simp only [Bool.and_eq_true, decide_eq_true_eq] at h3
  exact ⟨by omega, by omega, by omega, by omega, h1⟩
/-- a result with a known reduced form -/
theorem red_known {n d N D : Int} {R : Int × Int × Int} (h : Red n d R) (hd : d ≠ 0) (hD : 0 < D) (hc : Int.gcd N D = 1) (he : n * D = N * d) : R = mkF N D :=
  h.unique ⟨N, D, hD, hc, rfl, rfl⟩ hd (by omega) he
theorem mkF_E (N D : Int) (b : Bool) (h : okE N D = b) : ((mkF N D).2.2 == 0) = b ∧ ((mkF N D).2.2 = 0 → mkF N D = (N, D, 0)) ∧ ((mkF N D).2.2 = 0 ∨ (mkF N D).2.2 = 2) := by
  subst h
  unfold mkF okE
  by_cases hh : N.natAbs ≤ 4611686018427387904 ∧ D.natAbs ≤ 4611686018427387904
  · rw [if_pos hh, decide_eq_true hh.1, decide_eq_true hh.2]
    exact ⟨rfl, fun _ => rfl, Or.inl rfl⟩
  · rw [if_neg hh]
    refine ⟨?_, fun h => (by cases h), Or.inr rfl⟩
    show false = _
    symm
    rw [Bool.and_eq_false_iff]
    by_cases h1 : N.natAbs ≤ 4611686018427387904
    · exact Or.inr (decide_eq_false fun h2 => hh ⟨h1, h2⟩)
    · exact Or.inl (decide_eq_false h1)
theorem e1 : wireloomlaw02_sub.f 60 4611686018427387904 1 1 1 = some (4611686018427387903, 1, 0) := by decide +kernel
theorem e2 : wireloomlaw02_add.f 60 4611686018427387904 1 1 1 = some (0, 0, 2) := by decide +kernel
theorem e3 : wireloomlaw02_add.f 60 4611686018427387903 1 1 1 = some (4611686018427387904, 1, 0) := by decide +kernel
theorem e4 : wireloomlaw02_sub.f 60 4611686018427387904 1 1 2 = some (0, 0, 2) := by decide +kernel
theorem e5 : wireloomlaw02_sub.f 60 (-4611686018427387904) 1 (-1) 1 = some (-4611686018427387903, 1, 0) := by decide +kernel
theorem e6 : wireloomlaw02_add.f 60 (-4611686018427387904) 1 (-1) 1 = some (0, 0, 2) := by decide +kernel
theorem e7 : wireloomlaw02_add.f 60 (-4611686018427387903) 1 (-1) 1 = some (-4611686018427387904, 1, 0) := by decide +kernel
theorem e8 : wireloomlaw02_sub.f 60 (-4611686018427387904) 1 1 2 = some (0, 0, 2) := by decide +kernel
theorem sup {k : Nat} (h : 60 ≤ k) {a b c d : Int} {r : Int × Int × Int} (e : wireloomlaw02_sub.f 60 a b c d = some r) : wireloomlaw02_sub.f k a b c d = some r :=
  at_rounds (g := fun k => wireloomlaw02_sub.f k a b c d) (fun k => wireloomlaw02_sub.mono _ _ _ _ k) h e
theorem aup {k : Nat} (h : 60 ≤ k) {a b c d : Int} {r : Int × Int × Int} (e : wireloomlaw02_add.f 60 a b c d = some r) : wireloomlaw02_add.f k a b c d = some r :=
  at_rounds (g := fun k => wireloomlaw02_add.f k a b c d) (fun k => wireloomlaw02_add.mono _ _ _ _ k) h e
theorem tm_ok {x : Int} (h : 0 ≤ x ∧ x ≤ 255) : ∃ a, wrap64 ((Int.tmod (wrap64 x) 125) - 62) = a ∧ -62 ≤ a ∧ a ≤ 62 := by
  have h1 := Int.tmod_nonneg 125 h.1
  have h2 := Int.tmod_lt_of_pos x (show (0 : Int) < 125 by decide)
  refine ⟨Int.tmod x 125 - 62, ?_, by omega, by omega⟩
  rw [w64 (n := x) (by omega), w64 (by omega)]
end Go.Proofs.YtndfjpnpdnnpkaaDoor.F
