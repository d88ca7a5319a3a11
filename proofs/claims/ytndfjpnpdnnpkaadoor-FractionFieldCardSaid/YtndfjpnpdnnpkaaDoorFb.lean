/- FractionField answers true, for every three pairs of integers: the parts of its walk, joined by what the plain law says of sums, products and quotients. -/
import Derived.Test.YtndfjpnpdnnpkaaDoorFa
import Derived.Test.YtndfjpnpdnnpkaaDoorPFg
namespace Go.Proofs.YtndfjpnpdnnpkaaDoor.Cx
open Go Go.Proofs Go.RowKit Go.Proofs.YtndfjpnpdnnpkaaDoorW.PrintWords
open F (VF Red made_ok red_add red_mul red_sub red_div I64 vf1)
theorem ff_i64 {n : Int} (h : (Lit.int .i64 n).wf = true) : I64 n := (Lit.wf_int_iff .i64 n).1 h
theorem vne {N D : Int} (h : VF N D) : D ≠ 0 := by have := h.pos; omega
theorem mul_ne {a b : Int} (ha : a ≠ 0) (hb : b ≠ 0) : a * b ≠ 0 := Int.mul_ne_zero ha hb
theorem can {x y m : Int} (hm : m ≠ 0) (h : x * m = y * m) : x = y := Int.eq_of_mul_eq_mul_right hm h
section
variable {aN aD bN bD cN cD : Int} (ha : VF aN aD) (hb : VF bN bD) (hc : VF cN cD) (K : Nat) (hK : 30 ≤ K) (w0 : World)
include ha hb hc hK
theorem j23 {Q0 Q1 Q2 U0 U1 U2 L0 L1 L2 : Int} (hQ : Red (bN * cN) (bD * cD) (Q0, Q1, Q2)) (hU : Red (aN * cN) (aD * cD) (U0, U1, U2))
    (hL : L2 = 0 → ∃ S : Int × Int × Int, S.2.2 = 0 ∧ Red (aN * bD + bN * aD) (aD * bD) S ∧ Red (S.1 * cN) (S.2.1 * cD) (L0, L1, L2)) (g18 g17 g16 : Nat) :
    ∀ a w, Sl 222 [(7, .bool true), (16, pt g16 0), (17, pt g17 0), (18, pt g18 0)] a → Bl w0 [(g18, .cells #[.int .i64 L0, .int .i64 L1, .int .i64 L2] 31 (0, 0)), (g17, .cells #[.int .i64 U0, .int .i64 U1, .int .i64 U2] 31 (0, 0)), (g16, .cells #[.int .i64 Q0, .int .i64 Q1, .int .i64 Q2] 31 (0, 0))] w → (restOf Tryd.f5 23).wp Tryd.prog (bodyPost Tryd.prog Tryd.f5 fun e w' => e = .returned (.bool true) ∧ Below w0.heap.size w0 w') a w := by
  by_cases hu : U2 = 0
  · by_cases hq : Q2 = 0
    · subst hu hq
      obtain ⟨u1, u2, -⟩ := hU.ok rfl
      obtain ⟨q1, q2, -⟩ := hQ.ok rfl
      obtain ⟨⟨A0, A1, A2⟩, hA, rA⟩ := red_add u1 q1 K hK
      by_cases hl : L2 = 0
      · obtain ⟨S, s0, rS, rL⟩ := hL hl
        obtain ⟨s1, s2, -⟩ := rS.ok s0
        have e := rL.unique rA (mul_ne (vne s1) (vne hc)) (mul_ne (vne u1) (vne q1)) (by
          refine can (m := aD * bD) (mul_ne (vne ha) (vne hb)) ?_
          grind)
        simp only [Prod.mk.injEq] at e
        obtain ⟨rfl, rfl, rfl⟩ := e
        subst hl
        exact f23e K w0 g18 g17 g16 _ _ _ _ _ _ hA
      · exact f23l K w0 g18 g17 g16 _ _ _ _ _ _ _ _ _ _ hA hl
    · subst hu
      by_cases hl : L2 = 0
      · subst hl; exact f23q0 K w0 g18 g17 g16 _ _ _ _ _ _ _ hq
      · exact f23q1 K w0 g18 g17 g16 _ _ _ _ _ _ _ _ hq hl
  · by_cases hl : L2 = 0
    · subst hl; exact f23u0 K w0 g18 g17 g16 _ _ _ _ _ _ _ _ hu
    · exact f23u1 K w0 g18 g17 g16 _ _ _ _ _ _ _ _ _ hu hl
theorem j19 {Q0 Q1 Q2 S0 S1 S2 : Int} (hQ : Red (bN * cN) (bD * cD) (Q0, Q1, Q2)) (hS : Red (aN * bD + bN * aD) (aD * bD) (S0, S1, S2)) (g16 g13 g10 g8 : Nat) :
    ∀ a w, Sl 222 [(7, .bool true), (8, pt g8 0), (10, pt g10 0), (13, pt g13 0), (16, pt g16 0)] a → Bl w0 [(g16, .cells #[.int .i64 Q0, .int .i64 Q1, .int .i64 Q2] 31 (0, 0)), (g13, .cells #[.int .i64 S0, .int .i64 S1, .int .i64 S2] 31 (0, 0)), (g10, .cells #[.int .i64 cN, .int .i64 cD] 25 (0, 0)), (g8, .cells #[.int .i64 aN, .int .i64 aD] 25 (0, 0))] w → (restOf Tryd.f5 19).wp Tryd.prog (bodyPost Tryd.prog Tryd.f5 fun e w' => e = .returned (.bool true) ∧ Below w0.heap.size w0 w') a w := by
  obtain ⟨⟨U0, U1, U2⟩, hU, rU⟩ := red_mul ha hc K hK
  by_cases hs : S2 = 0
  · subst hs
    obtain ⟨s1, s2, -⟩ := hS.ok rfl
    obtain ⟨⟨L0, L1, L2⟩, hL, rL⟩ := red_mul s1 hc K hK
    exact f19s K w0 g16 g13 g10 g8 _ _ _ _ _ _ _ _ _ _ _ _ _ _ _ hU hL fun g18 g17 => j23 ha hb hc K hK w0 hQ rU (fun _ => ⟨_, rfl, hS, rL⟩) g18 g17 g16
  · exact f19n K w0 g16 g13 g10 g8 _ _ _ _ _ _ _ _ _ _ _ _ _ hU hs fun g18 g17 => j23 ha hb hc K hK w0 (L0 := 0) (L1 := 0) (L2 := 2) hQ rU (fun h => by cases h) g18 g17 g16
theorem j15 {S0 S1 S2 : Int} (hS : Red (aN * bD + bN * aD) (aD * bD) (S0, S1, S2)) (g13 g10 g9 g8 : Nat) :
    ∀ a w, Sl 222 [(7, .bool true), (8, pt g8 0), (9, pt g9 0), (10, pt g10 0), (13, pt g13 0)] a → Bl w0 [(g13, .cells #[.int .i64 S0, .int .i64 S1, .int .i64 S2] 31 (0, 0)), (g10, .cells #[.int .i64 cN, .int .i64 cD] 25 (0, 0)), (g9, .cells #[.int .i64 bN, .int .i64 bD] 25 (0, 0)), (g8, .cells #[.int .i64 aN, .int .i64 aD] 25 (0, 0))] w → (restOf Tryd.f5 15).wp Tryd.prog (bodyPost Tryd.prog Tryd.f5 fun e w' => e = .returned (.bool true) ∧ Below w0.heap.size w0 w') a w := by
  obtain ⟨⟨P0, P1, P2⟩, hP, rP⟩ := red_mul ha hb K hK
  obtain ⟨⟨Q0, Q1, Q2⟩, hQ, rQ⟩ := red_mul hb hc K hK
  have hj := fun g16 => j19 ha hb hc K hK w0 rQ hS g16 g13 g10 g8
  by_cases hp : P2 = 0
  · subst hp
    obtain ⟨p1, p2, -⟩ := rP.ok rfl
    have hV : bN ≠ 0 → F.wireloomlaw02_div.f K P0 P1 bN bD = some (aN, aD, 0) := fun hb0 => by
      obtain ⟨V, hV, rV⟩ := red_div p1 hb hb0 K hK
      have e := rV.is ha (mul_ne (vne p1) hb0) (can (m := bD) (vne hb) (by grind))
      rw [hV, e]
    by_cases hq : Q2 = 0
    · subst hq
      obtain ⟨q1, q2, -⟩ := rQ.ok rfl
      obtain ⟨X, hX, rX⟩ := red_mul p1 hc K hK
      obtain ⟨Y, hY, rY⟩ := red_mul ha q1 K hK
      have e : X = Y := rX.unique rY (mul_ne (vne p1) (vne hc)) (mul_ne (vne ha) (vne q1)) (can (m := aD * bD) (mul_ne (vne ha) (vne hb)) (can (m := cD) (vne hc) (by grind)))
      subst e
      obtain ⟨X0, X1, X2⟩ := X
      by_cases hb0 : bN = 0
      · exact f15zq K w0 g13 g10 g9 g8 _ _ _ _ _ _ _ _ _ _ _ _ _ _ _ _ hP hQ hX hY hb0 hj
      · exact f15bq K w0 g13 g10 g9 g8 _ _ _ _ _ _ _ _ _ _ _ _ _ _ _ _ hP hQ hX hY hb0 (hV hb0) hj
    · by_cases hb0 : bN = 0
      · exact f15zn K w0 g13 g10 g9 g8 _ _ _ _ _ _ _ _ _ _ _ _ _ _ hP hQ hq hb0 hj
      · exact f15bn K w0 g13 g10 g9 g8 _ _ _ _ _ _ _ _ _ _ _ _ _ _ hP hQ hq hb0 (hV hb0) hj
  · exact f15p K w0 g13 g10 g9 g8 _ _ _ _ _ _ _ _ _ _ _ _ _ _ _ hP hQ hp hj
theorem j11 (g10 g9 g8 : Nat) : ∀ a w, Sl 222 [(7, .bool true), (8, pt g8 0), (9, pt g9 0), (10, pt g10 0)] a → Bl w0 [(g10, .cells #[.int .i64 cN, .int .i64 cD] 25 (0, 0)), (g9, .cells #[.int .i64 bN, .int .i64 bD] 25 (0, 0)), (g8, .cells #[.int .i64 aN, .int .i64 aD] 25 (0, 0))] w → (restOf Tryd.f5 11).wp Tryd.prog (bodyPost Tryd.prog Tryd.f5 fun e w' => e = .returned (.bool true) ∧ Below w0.heap.size w0 w') a w := by
  obtain ⟨⟨S0, S1, S2⟩, hS, rS⟩ := red_add ha hb K hK
  obtain ⟨⟨T0, T1, T2⟩, hT, rT⟩ := red_add hb hc K hK
  have hj := fun g13 => j15 ha hb hc K hK w0 rS g13 g10 g9 g8
  by_cases hs : S2 = 0
  · subst hs
    obtain ⟨s1, s2, -⟩ := rS.ok rfl
    obtain ⟨V, hV, rV⟩ := red_sub s1 hb K hK
    have e := rV.is ha (mul_ne (vne s1) (vne hb)) (by grind)
    subst e
    by_cases ht : T2 = 0
    · subst ht
      obtain ⟨t1, t2, -⟩ := rT.ok rfl
      obtain ⟨X, hX, rX⟩ := red_add s1 hc K hK
      obtain ⟨Y, hY, rY⟩ := red_add ha t1 K hK
      have e : X = Y := rX.unique rY (mul_ne (vne s1) (vne hc)) (mul_ne (vne ha) (vne t1)) (can (m := bD) (vne hb) (by grind))
      subst e
      obtain ⟨X0, X1, X2⟩ := X
      exact f11a K w0 g10 g9 g8 _ _ _ _ _ _ _ _ _ _ _ _ _ hS hT hV hX hY hj
    · exact f11t K w0 g10 g9 g8 _ _ _ _ _ _ _ _ _ _ _ hS hT hV ht hj
  · exact f11n K w0 g10 g9 g8 _ _ _ _ _ _ _ _ _ _ _ _ hS hT hs hj
end
theorem field_walk (x0 x1 y0 y1 z0 z1 : Int) (w : World) (hGL : F.GL w) (h0 : (Lit.int .i64 x0).wf = true) (h1 : (Lit.int .i64 x1).wf = true) (h2 : (Lit.int .i64 y0).wf = true) (h3 : (Lit.int .i64 y1).wf = true) (h4 : (Lit.int .i64 z0).wf = true) (h5 : (Lit.int .i64 z1).wf = true) :
    Calls Tryd.prog 5 #[.agg #[.int .i64 x0, .int .i64 x1], .agg #[.int .i64 y0, .int .i64 y1], .agg #[.int .i64 z0, .int .i64 z1]] w fun e w' => e = .returned (.bool true) ∧ Below w.heap.size w w' := by
  obtain ⟨k0, aN, aD, ma, ha⟩ := made_ok (ff_i64 h0) (ff_i64 h1)
  obtain ⟨k1, bN, bD, mb, hb⟩ := made_ok (ff_i64 h2) (ff_i64 h3)
  obtain ⟨k2, cN, cD, mc, hc⟩ := made_ok (ff_i64 h4) (ff_i64 h5)
  have ma := ma (k0 + k1 + k2 + 30) (by omega)
  have mb := mb (k0 + k1 + k2 + 30) (by omega)
  have mc := mc (k0 + k1 + k2 + 30) (by omega)
  have hK : 30 ≤ k0 + k1 + k2 + 30 := by omega
  generalize k0 + k1 + k2 + 30 = K at ma mb mc hK
  obtain ⟨R1, e1, q1⟩ := red_add ha hb K hK
  obtain ⟨R2, e2, q2⟩ := red_add hb ha K hK
  obtain ⟨R3, e3, q3⟩ := red_mul ha hb K hK
  obtain ⟨R4, e4, q4⟩ := red_mul hb ha K hK
  have z01 : VF 0 1 := vf1 (by decide) (by decide)
  have z11 : VF 1 1 := vf1 (by decide) (by decide)
  obtain ⟨R5, e5, q5⟩ := red_add ha z01 K hK
  obtain ⟨R6, e6, q6⟩ := red_mul ha z11 K hK
  obtain ⟨R7, e7, q7⟩ := red_sub ha ha K hK
  obtain ⟨R8, e8, q8⟩ := red_mul ha z01 K hK
  have u1 : R1 = R2 := q1.unique q2 (mul_ne (vne ha) (vne hb)) (mul_ne (vne hb) (vne ha)) (by grind)
  have u3 : R3 = R4 := q3.unique q4 (mul_ne (vne ha) (vne hb)) (mul_ne (vne hb) (vne ha)) (by grind)
  have u5 := q5.is ha (mul_ne (vne ha) (by decide)) (by grind)
  have u6 := q6.is ha (mul_ne (vne ha) (by decide)) (by grind)
  have u7 := q7.is z01 (mul_ne (vne ha) (vne ha)) (by grind)
  have u8 := q8.is z01 (mul_ne (vne ha) (by decide)) (by grind)
  subst u1 u3 u5 u6 u7 u8
  obtain ⟨R0, R1, R2⟩ := R1
  obtain ⟨M0, M1, M2⟩ := R3
  exact f0 K w hGL x0 x1 y0 y1 z0 z1 aN aD bN bD cN cD R0 R1 R2 M0 M1 M2 ma mb mc e1 e2 e3 e4 e5 e6 e7 e8 fun g10 g9 g8 => j11 ha hb hc K hK w g10 g9 g8
end Go.Proofs.YtndfjpnpdnnpkaaDoor.Cx
