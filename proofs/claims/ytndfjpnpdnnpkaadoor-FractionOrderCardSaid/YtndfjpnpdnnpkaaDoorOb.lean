/- FractionOrder answers true, for every three pairs of integers: the parts of its walk, joined by what the plain law says of the order. -/
import Derived.Test.YtndfjpnpdnnpkaaDoorOa
import Derived.Test.YtndfjpnpdnnpkaaDoorPOl
namespace Go.Proofs.YtndfjpnpdnnpkaaDoor.Cx
open Go Go.Proofs Go.RowKit Go.Proofs.YtndfjpnpdnnpkaaDoorW.PrintWords
open F (VF Red made_ok red_add red_mul red_sub I64 cmpI cmp_ok cmpI_cases cmpI_swap sg_eq cmp_scale pp min_ok max_ok tr_le)
set_option linter.unusedVariables false
set_option linter.unusedSimpArgs false
theorem ff_i64 {n : Int} (h : (Lit.int .i64 n).wf = true) : I64 n := (Lit.wf_int_iff .i64 n).1 h
section
variable {aN aD bN bD cN cD x : Int} (ha : VF aN aD) (hb : VF bN bD) (hc : VF cN cD) (hx : x = cmpI (aN * bD) (bN * aD)) (K : Nat) (hK : 30 ≤ K) (w0 : World)
include ha hb hc hx hK
theorem oj24 {S0 S1 S2 T0 T1 T2 P0 P1 P2 Q0 Q1 Q2 : Int} (hS : Red (aN * cD + cN * aD) (aD * cD) (S0, S1, S2)) (hT : Red (bN * cD + cN * bD) (bD * cD) (T0, T1, T2)) (hP : Red (aN * cN) (aD * cD) (P0, P1, P2)) (hQ : Red (bN * cN) (bD * cD) (Q0, Q1, Q2)) (g17 g16 g15 g14 g10 : Nat) :
    ∀ a w, Sl 215 [(7, .bool true), (10, pt g10 0), (11, .int .i64 x), (14, pt g14 0), (15, pt g15 0), (16, pt g16 0), (17, pt g17 0)] a → Bl w0 [(g17, .cells #[.int .i64 Q0, .int .i64 Q1, .int .i64 Q2] 31 (0, 0)), (g16, .cells #[.int .i64 P0, .int .i64 P1, .int .i64 P2] 31 (0, 0)), (g15, .cells #[.int .i64 T0, .int .i64 T1, .int .i64 T2] 31 (0, 0)), (g14, .cells #[.int .i64 S0, .int .i64 S1, .int .i64 S2] 31 (0, 0)), (g10, .cells #[.int .i64 cN, .int .i64 cD] 25 (0, 0))] w → (restOf Tryd.f6 24).wp Tryd.prog (bodyPost Tryd.prog Tryd.f6 fun e w' => e = .returned (.bool true) ∧ Below w0.heap.size w0 w') a w := by
  have h1 : S2 = 0 → T2 = 0 → F.fraction_Cmp.f S0 S1 T0 T1 = some x := fun e1 e2 => by
    obtain ⟨s1, s2, -⟩ := hS.ok e1
    obtain ⟨t1, t2, -⟩ := hT.ok e2
    have e : cmpI (S0 * T1) (T0 * S1) = cmpI (aN * bD) (bN * aD) := cmp_scale (p := aD * cD * (bD * cD)) (q := S1 * T1 * (cD * cD)) (pp (pp ha.p hc.p) (pp hb.p hc.p)) (pp (pp s1.p t1.p) (pp hc.p hc.p)) (by grind)
    rw [cmp_ok s1 t1, e, hx]
  have h2 : cN > 0 → P2 = 0 → Q2 = 0 → F.fraction_Cmp.f P0 P1 Q0 Q1 = some x := fun e0 e1 e2 => by
    obtain ⟨p1, p2, -⟩ := hP.ok e1
    obtain ⟨q1, q2, -⟩ := hQ.ok e2
    have e : cmpI (P0 * Q1) (Q0 * P1) = cmpI (aN * bD) (bN * aD) := cmp_scale (p := aD * cD * (bD * cD)) (q := P1 * Q1 * (cD * cN)) (pp (pp ha.p hc.p) (pp hb.p hc.p)) (pp (pp p1.p q1.p) (pp hc.p e0)) (by grind)
    rw [cmp_ok p1 q1, e, hx]
  have hK' := hK
  clear hS hT hP hQ hx ha hb hc hK' hK
  by_cases hs1 : S2 = 0
  · by_cases ht1 : T2 = 0
    · replace h1 := h1 hs1 ht1
      subst hs1 ht1
      by_cases hc0 : cN > 0
      · by_cases hp1 : P2 = 0
        · by_cases hq1 : Q2 = 0
          · replace h2 := h2 hc0 hp1 hq1
            subst hp1 hq1
            exact o24ee K w0 g17 g16 g15 g14 g10 _ _ _ _ _ _ _ _ _ _ _ h1 hc0 h2
          · subst hp1; exact o24eq K w0 g17 g16 g15 g14 g10 _ _ _ _ _ _ _ _ _ _ _ _ h1 hc0 hq1
        · exact o24ep K w0 g17 g16 g15 g14 g10 _ _ _ _ _ _ _ _ _ _ _ _ _ h1 hc0 hp1
      · exact o24ec K w0 g17 g16 g15 g14 g10 _ _ _ _ _ _ _ _ _ _ _ _ _ h1 hc0
    · subst hs1
      by_cases hc0 : cN > 0
      · by_cases hp1 : P2 = 0
        · by_cases hq1 : Q2 = 0
          · replace h2 := h2 hc0 hp1 hq1
            subst hp1 hq1
            exact o24te K w0 g17 g16 g15 g14 g10 _ _ _ _ _ _ _ _ _ _ _ _ ht1 hc0 h2
          · subst hp1; exact o24tq K w0 g17 g16 g15 g14 g10 _ _ _ _ _ _ _ _ _ _ _ _ _ ht1 hc0 hq1
        · exact o24tp K w0 g17 g16 g15 g14 g10 _ _ _ _ _ _ _ _ _ _ _ _ _ _ ht1 hc0 hp1
      · exact o24tc K w0 g17 g16 g15 g14 g10 _ _ _ _ _ _ _ _ _ _ _ _ _ _ ht1 hc0
  · by_cases hc0 : cN > 0
    · by_cases hp1 : P2 = 0
      · by_cases hq1 : Q2 = 0
        · replace h2 := h2 hc0 hp1 hq1
          subst hp1 hq1
          exact o24se K w0 g17 g16 g15 g14 g10 _ _ _ _ _ _ _ _ _ _ _ _ _ hs1 hc0 h2
        · subst hp1; exact o24sq K w0 g17 g16 g15 g14 g10 _ _ _ _ _ _ _ _ _ _ _ _ _ _ hs1 hc0 hq1
      · exact o24sp K w0 g17 g16 g15 g14 g10 _ _ _ _ _ _ _ _ _ _ _ _ _ _ _ hs1 hc0 hp1
    · exact o24sc K w0 g17 g16 g15 g14 g10 _ _ _ _ _ _ _ _ _ _ _ _ _ _ _ hs1 hc0
theorem oj14 (g10 g9 g8 : Nat) : ∀ a w, Sl 215 [(7, .bool true), (8, pt g8 0), (9, pt g9 0), (10, pt g10 0), (11, .int .i64 x)] a → Bl w0 [(g10, .cells #[.int .i64 cN, .int .i64 cD] 25 (0, 0)), (g9, .cells #[.int .i64 bN, .int .i64 bD] 25 (0, 0)), (g8, .cells #[.int .i64 aN, .int .i64 aD] 25 (0, 0))] w → (restOf Tryd.f6 14).wp Tryd.prog (bodyPost Tryd.prog Tryd.f6 fun e w' => e = .returned (.bool true) ∧ Below w0.heap.size w0 w') a w := by
  obtain ⟨⟨S0, S1, S2⟩, hS, rS⟩ := red_add ha hc K hK
  obtain ⟨⟨T0, T1, T2⟩, hT, rT⟩ := red_add hb hc K hK
  obtain ⟨⟨P0, P1, P2⟩, hP, rP⟩ := red_mul ha hc K hK
  obtain ⟨⟨Q0, Q1, Q2⟩, hQ, rQ⟩ := red_mul hb hc K hK
  have hj := fun g14 g15 g16 g17 => oj24 ha hb hc hx K hK w0 rS rT rP rQ g17 g16 g15 g14 g10
  have hsw := cmpI_swap (aN * bD) (bN * aD)
  have hm1 := min_ok ha hb
  have hm2 := max_ok ha hb
  have hm3 := min_ok hb ha
  have hm4 := max_ok hb ha
  rw [hsw] at hm3 hm4
  rw [← hx] at hm1 hm2 hm3 hm4
  refine o14 K w0 g10 g9 g8 _ _ _ _ _ _ x _ _ _ _ _ _ _ _ _ _ _ _ hS hT hP hQ fun g19 g18 g17 g16 g15 g14 => ?_
  by_cases h1 : x > 0
  · rw [if_pos h1] at hm1
    rw [if_neg (by omega)] at hm2 hm3
    rw [if_pos (by omega)] at hm4
    exact o19p K w0 g19 g18 g17 g16 g15 g14 g10 g9 g8 _ _ _ _ _ _ _ _ _ _ _ _ _ _ _ _ _ _ _ h1 (o22 K w0 g19 g18 g17 g16 g15 g14 g10 g9 g8 _ _ _ _ _ _ _ _ _ _ _ _ _ _ _ _ _ _ _ _ _ _ _ hm1 hm2 hm3 hm4 (hj g14 g15 g16 g17))
  · rw [if_neg h1] at hm1
    rw [if_neg (by omega)] at hm4
    refine o19n K w0 g19 g18 g17 g16 g15 g14 g10 g9 g8 _ _ _ _ _ _ _ _ _ _ _ _ _ _ _ _ _ _ _ h1 ?_
    by_cases h2 : x < 0
    · rw [if_pos h2] at hm2
      rw [if_pos (by omega)] at hm3
      exact o22 K w0 g19 g18 g17 g16 g15 g14 g10 g9 g8 _ _ _ _ _ _ _ _ _ _ _ _ _ _ _ _ _ _ _ _ _ _ _ hm1 hm2 hm3 hm4 (hj g14 g15 g16 g17)
    · have he : aN * bD = bN * aD := by
        rcases cmpI_cases (aN * bD) (bN * aD) with ⟨h, e⟩ | ⟨h, e⟩ | ⟨h, e⟩ <;> omega
      obtain ⟨rfl, rfl⟩ := F.unique aN aD bN bD ha.p hb.p ha.cop hb.cop he
      rw [if_neg h2] at hm2
      exact o22 K w0 g19 g18 g17 g16 g15 g14 g10 g9 g8 _ _ _ _ _ _ _ _ _ _ _ _ _ _ _ _ _ _ _ _ _ _ _ hm1 hm2 hm1 hm2 (hj g14 g15 g16 g17)
theorem oj11 (g10 g9 g8 : Nat) : ∀ a w, Sl 215 [(7, .bool true), (8, pt g8 0), (9, pt g9 0), (10, pt g10 0), (11, .int .i64 x)] a → Bl w0 [(g10, .cells #[.int .i64 cN, .int .i64 cD] 25 (0, 0)), (g9, .cells #[.int .i64 bN, .int .i64 bD] 25 (0, 0)), (g8, .cells #[.int .i64 aN, .int .i64 aD] 25 (0, 0))] w → (restOf Tryd.f6 11).wp Tryd.prog (bodyPost Tryd.prog Tryd.f6 fun e w' => e = .returned (.bool true) ∧ Below w0.heap.size w0 w') a w := by
  have hj := oj14 ha hb hc hx K hK w0 g10 g9 g8
  obtain ⟨⟨D0, D1, D2⟩, hD, rD⟩ := red_sub ha hb K hK
  by_cases hd : D2 = 0
  · subst hd
    obtain ⟨s1, s2, -⟩ := rD.ok rfl
    obtain ⟨q1, q2⟩ := sg_eq (pp ha.p hb.p) s1.p s2
    rcases cmpI_cases (aN * bD) (bN * aD) with ⟨h, e⟩ | ⟨h, e⟩ | ⟨h, e⟩
    · rw [e] at hx; subst hx; exact o11m K w0 g10 g9 g8 _ _ _ _ _ _ _ _ hD (by simp only at q1 q2; omega) hj
    · rw [e] at hx; subst hx; exact o11z K w0 g10 g9 g8 _ _ _ _ _ _ _ _ hD (by simp only at q1 q2; omega) hj
    · rw [e] at hx; subst hx; exact o11p K w0 g10 g9 g8 _ _ _ _ _ _ _ _ hD (by simp only at q1 q2; omega) hj
  · exact o11n K w0 g10 g9 g8 _ _ _ _ _ _ _ _ _ _ hD hd hj
theorem oj9 {y : Int} (hy : y = cmpI (bN * cD) (cN * bD)) (g10 g9 g8 : Nat) : ∀ a w, Sl 215 [(7, .bool true), (8, pt g8 0), (9, pt g9 0), (10, pt g10 0), (11, .int .i64 x), (12, .int .i64 y)] a → Bl w0 [(g10, .cells #[.int .i64 cN, .int .i64 cD] 25 (0, 0)), (g9, .cells #[.int .i64 bN, .int .i64 bD] 25 (0, 0)), (g8, .cells #[.int .i64 aN, .int .i64 aD] 25 (0, 0))] w → (restOf Tryd.f6 9).wp Tryd.prog (bodyPost Tryd.prog Tryd.f6 fun e w' => e = .returned (.bool true) ∧ Below w0.heap.size w0 w') a w := by
  have hj := oj11 ha hb hc hx K hK w0 g10 g9 g8
  have e0 := cmp_ok ha ha
  rw [show cmpI (aN * aD) (aN * aD) = 0 by unfold cmpI; rw [if_neg (by omega), if_pos rfl]] at e0
  have e1 := cmp_ok hb ha
  rw [cmpI_swap (aN * bD) (bN * aD)] at e1
  have e2 := cmp_ok ha hc
  have cab := cmpI_cases (aN * bD) (bN * aD)
  have cbc := cmpI_cases (bN * cD) (cN * bD)
  have cac := cmpI_cases (aN * cD) (cN * aD)
  have t1 := tr_le ha hb hc
  have t2 := tr_le hc hb ha
  rw [← hy] at cbc
  have hne : aN * bD ≠ bN * aD → (decide (aN = bN) && decide (aD = bD)) = false := fun h => by
    rw [Bool.and_eq_false_iff, decide_eq_false_iff_not, decide_eq_false_iff_not]
    by_cases p : aN = bN
    · by_cases q : aD = bD
      · subst p q; exact absurd rfl h
      · exact .inr q
    · exact .inl p
  rcases cab with ⟨h, e⟩ | ⟨h, e⟩ | ⟨h, e⟩
  · rw [e] at hx e1; subst hx
    by_cases h3 : y ≤ 0
    · exact o9mm K w0 g10 g9 g8 _ _ _ _ _ _ _ _ e0 e1 (hne (by omega)) h3 e2 (by have := t1 (by omega) (by omega); omega) hj
    · exact o9mp K w0 g10 g9 g8 _ _ _ _ _ _ _ e0 e1 (hne (by omega)) (by omega) hj
  · rw [e] at hx; subst hx
    obtain ⟨rfl, rfl⟩ := F.unique aN aD bN bD ha.p hb.p ha.cop hb.cop h
    rw [← hy] at e2
    rcases Int.lt_trichotomy y 0 with h3 | h3 | h3
    · exact o9zm K w0 g10 g9 g8 _ _ _ _ _ e0 h3 e2 hj
    · rw [h3] at e2 ⊢; exact o9zz K w0 g10 g9 g8 _ _ _ _ e0 e2 hj
    · exact o9zp K w0 g10 g9 g8 _ _ _ _ _ e0 h3 e2 hj
  · rw [e] at hx e1; subst hx
    by_cases h3 : y < 0
    · exact o9pm K w0 g10 g9 g8 _ _ _ _ _ _ _ e0 e1 (hne (by omega)) h3 hj
    · exact o9pp K w0 g10 g9 g8 _ _ _ _ _ _ _ _ e0 e1 (hne (by omega)) (by omega) e2 (by have := t2 (by omega) (by omega); omega) hj
end
theorem order_walk (x0 x1 y0 y1 z0 z1 : Int) (w : World) (hGL : F.GL w) (h0 : (Lit.int .i64 x0).wf = true) (h1 : (Lit.int .i64 x1).wf = true) (h2 : (Lit.int .i64 y0).wf = true) (h3 : (Lit.int .i64 y1).wf = true) (h4 : (Lit.int .i64 z0).wf = true) (h5 : (Lit.int .i64 z1).wf = true) :
    Calls Tryd.prog 6 #[.agg #[.int .i64 x0, .int .i64 x1], .agg #[.int .i64 y0, .int .i64 y1], .agg #[.int .i64 z0, .int .i64 z1]] w fun e w' => e = .returned (.bool true) ∧ Below w.heap.size w w' := by
  obtain ⟨k0, aN, aD, ma, ha⟩ := made_ok (ff_i64 h0) (ff_i64 h1)
  obtain ⟨k1, bN, bD, mb, hb⟩ := made_ok (ff_i64 h2) (ff_i64 h3)
  obtain ⟨k2, cN, cD, mc, hc⟩ := made_ok (ff_i64 h4) (ff_i64 h5)
  have ma := ma (k0 + k1 + k2 + 30) (by omega)
  have mb := mb (k0 + k1 + k2 + 30) (by omega)
  have mc := mc (k0 + k1 + k2 + 30) (by omega)
  have hK : 30 ≤ k0 + k1 + k2 + 30 := by omega
  generalize k0 + k1 + k2 + 30 = K at ma mb mc hK
  exact o0 K w hGL x0 x1 y0 y1 z0 z1 aN aD bN bD cN cD _ _ ma mb mc (cmp_ok ha hb) (cmp_ok hb hc) fun g10 g9 g8 => oj9 ha hb hc rfl K hK w rfl g10 g9 g8
end Go.Proofs.YtndfjpnpdnnpkaaDoor.Cx
