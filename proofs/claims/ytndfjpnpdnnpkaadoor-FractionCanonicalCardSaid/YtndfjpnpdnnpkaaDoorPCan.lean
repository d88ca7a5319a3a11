/- FractionCanonical's plain law. -/
import Derived.Test.YtndfjpnpdnnpkaaDoorPFg
import Derived.Test.YtndfjpnpdnnpkaaDoorFx13
namespace Go.Proofs.YtndfjpnpdnnpkaaDoor.F
set_option linter.unusedVariables false
set_option linter.unusedSimpArgs false
open Go.RowKit Go.Proofs.YtndfjpnpdnnpkaaDoorW.PrintWords Go.Proofs.YtndfjpnpdnnpkaaDoorW.PrintLast Go.Proofs.YtndfjpnpdnnpkaaDoorW.PrintMore
theorem can_i64 {n : Int} (h : (Lit.int .i64 n).wf = true) : I64 n := (Lit.wf_int_iff .i64 n).1 h
theorem can_i32 {n : Int} (h : (Lit.int .i32 n).wf = true) : -2147483648 ≤ n ∧ n ≤ 2147483647 := (Lit.wf_int_iff .i32 n).1 h
theorem can_step (K : Nat) (m : Int) (L : List S31) (i n d : Int) (R : Int × Int × Int) (h0 : 0 ≤ i) (hi : i < (L.length : Int)) (hlen : (L.length : Int) ≤ 100) (hr : rd_T31 L i = ⟨⟨R.1, R.2.1⟩, R.2.2⟩) (hR : Res R) (r : Option Bool) (hn : wireloomlaw02_FractionCanonical.l0 K m true L (i + 1) n d = r) :
    wireloomlaw02_FractionCanonical.l0 (K + 2) m true L i n d = r := by
  have hj : wireloomlaw02_FractionCanonical.j1 (K + 1) m true L i false n d = r := by
    rw [wireloomlaw02_FractionCanonical.j1, if_neg (by decide), w64 (n := i + 1) (by omega)]
    exact hn
  rw [wireloomlaw02_FractionCanonical.l0, if_pos hi, if_pos h0, hr]
  show ((fraction_Valid.f R.1 R.2.1).bind _) = r
  rcases hR with ⟨e0, hv⟩ | ⟨e0, e1, e2⟩
  · rw [valid_vf hv, Option.bind_some]
    show (if (true != (R.2.2 == 0)) = true then _ else (if R.2.2 = 0 then _ else _)) = r
    rw [show (true != (R.2.2 == 0)) = false by rw [e0]; rfl, if_neg (by decide), if_pos e0]
    exact hj
  · rw [e1, e2, show fraction_Valid.f 0 0 = some false from rfl, Option.bind_some]
    show (if (false != (R.2.2 == 0)) = true then _ else (if R.2.2 = 0 then _ else _)) = r
    rw [show (R.2.2 == 0) = false by rw [beq_eq_false_iff_ne]; exact e0, if_neg (by decide), if_neg e0]
    exact hj
theorem can_end (K : Nat) (m : Int) (L : List S31) (i n d : Int) (hi : (L.length : Int) ≤ i) (hm : -2147483648 ≤ m ∧ m ≤ 2147483647) (hd : I64 d) (hn : I64 n) (hK : 40 ≤ K) : wireloomlaw02_FractionCanonical.l0 K m true L i n d = some true := by
  obtain ⟨K, rfl⟩ : ∃ J, K = J + 2 := ⟨K - 2, by omega⟩
  rw [wireloomlaw02_FractionCanonical.l0, if_neg (by omega)]
  by_cases h0 : Int.tmod d 1073741824 = 0
  · rw [if_pos h0, wireloomlaw02_FractionCanonical.j2, if_pos rfl]
  · rw [if_neg h0]
    by_cases hm0 : m = 0
    · rw [show (m == 0) = true by simpa using hm0, wireloomlaw02_FractionCanonical.j2, if_pos rfl]
    · rw [show (m == 0) = false by simpa using hm0, wireloomlaw02_FractionCanonical.j2, if_neg (by decide)]
      have d1 := Int.tmod_lt_of_pos d (show (0 : Int) < 1073741824 by decide)
      have d2 : -1073741824 < Int.tmod d 1073741824 := by have := Int.tmod_lt_of_pos (-d) (show (0 : Int) < 1073741824 by decide); rw [Int.neg_tmod] at this; omega
      have n1 := Int.tmod_lt_of_pos n (show (0 : Int) < 1073741824 by decide)
      have n2 : -1073741824 < Int.tmod n 1073741824 := by have := Int.tmod_lt_of_pos (-n) (show (0 : Int) < 1073741824 by decide); rw [Int.neg_tmod] at this; omega
      generalize Int.tmod d 1073741824 = d at h0 d1 d2
      generalize Int.tmod n 1073741824 = n at n1 n2
      have b1 := abs_bound (x := n) (y := m) (A := 1073741824) (B := 2147483648) (by omega) (by omega) (by omega)
      have b2 := abs_bound (x := d) (y := m) (A := 1073741824) (B := 2147483648) (by omega) (by omega) (by omega)
      rw [← Int.natCast_mul, ← Int.natAbs_mul] at b1 b2
      have hdm : d * m ≠ 0 := Int.mul_ne_zero h0 hm0
      rw [w64 (n := m) (by omega), w64 (n := n * m) (by omega), w64 (n := d * m) (by omega)]
      obtain ⟨R, hR, r1⟩ := red_created (n := n) (d := d) ⟨by omega, by omega⟩ ⟨by omega, by omega⟩ h0 K (by omega)
      obtain ⟨R', hR', r2⟩ := red_created (n := n * m) (d := d * m) ⟨by omega, by omega⟩ ⟨by omega, by omega⟩ hdm K (by omega)
      have e : R = R' := r1.unique r2 h0 hdm (by grind)
      subst e
      obtain ⟨s1, -, -⟩ := r1.small h0 (by omega) (by omega)
      obtain ⟨-, s2, -⟩ := r1.ok s1
      rw [hR, Option.bind_some, hR', Option.bind_some, if_pos rfl, if_pos s1, if_pos (by simp), s2, Int.mul_comm n]
      simp
theorem canonical_pure : wireloomlaw02_FractionCanonical.Pure := by
  intro a0 a1 b0 b1 m ha0 ha1 hb0 hb1 hm
  have ha0 := can_i64 ha0
  have ha1 := can_i64 ha1
  have hb0 := can_i64 hb0
  have hb1 := can_i64 hb1
  have hm := can_i32 hm
  obtain ⟨k0, N, D, hmade, hv⟩ := made_ok ha0 ha1
  obtain ⟨k1, N', D', hmade', hv'⟩ := made_ok hb0 hb1
  obtain ⟨K, hK0, hK1, hK⟩ : ∃ K, k0 ≤ K + 10 ∧ k1 ≤ K + 10 ∧ 40 ≤ K := ⟨k0 + k1 + 40, by omega, by omega, by omega⟩
  refine ⟨K + 10, ?_⟩
  unfold wireloomlaw02_FractionCanonical.f
  obtain ⟨R1, e1, q1⟩ := red_add hv hv' (K + 10) (by omega)
  obtain ⟨R2, e2, q2⟩ := red_sub hv hv' (K + 10) (by omega)
  obtain ⟨R3, e3, q3⟩ := red_mul hv hv' (K + 10) (by omega)
  obtain ⟨R4, e4, q4⟩ := res_div hv hv' (K + 10) (by omega)
  obtain ⟨R5, e5, q5⟩ := res_created ha0 hb0 (K + 10) (by omega)
  rw [show wireloomlaw02_examples.f (K + 10) = some true from rfl, Option.bind_some, if_pos rfl, hmade _ hK0, Option.bind_some, hmade' _ hK1, Option.bind_some, e1, Option.bind_some, e2, Option.bind_some, e3, Option.bind_some, e4, Option.bind_some, e5, Option.bind_some]
  refine can_step _ _ _ 0 _ _ R1 (by omega) (by simp) (by simp) rfl q1.res _ ?_
  refine can_step _ _ _ 1 _ _ R2 (by omega) (by simp) (by simp) rfl q2.res _ ?_
  refine can_step _ _ _ 2 _ _ R3 (by omega) (by simp) (by simp) rfl q3.res _ ?_
  refine can_step _ _ _ 3 _ _ R4 (by omega) (by simp) (by simp) rfl q4 _ ?_
  refine can_step _ _ _ 4 _ _ R5 (by omega) (by simp) (by simp) rfl q5 _ ?_
  exact can_end _ _ _ _ _ _ (by simp) hm ha1 ha0 hK
end Go.Proofs.YtndfjpnpdnnpkaaDoor.F
