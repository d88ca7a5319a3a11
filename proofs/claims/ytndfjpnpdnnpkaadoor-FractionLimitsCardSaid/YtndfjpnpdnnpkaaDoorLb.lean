/- FractionLimits answers true, for every two bytes and every sign: the parts of its walk, joined by what the plain law says of powers of 2. -/
import Derived.Test.YtndfjpnpdnnpkaaDoorLa
import Derived.Test.YtndfjpnpdnnpkaaDoorPLi
namespace Go.Proofs.YtndfjpnpdnnpkaaDoor.Cx
open Go Go.Proofs Go.RowKit Go.Proofs.YtndfjpnpdnnpkaaDoorW.PrintWords
set_option linter.unusedVariables false
set_option linter.unusedSimpArgs false
open Go.Proofs.YtndfjpnpdnnpkaaDoorW.PrintMore
open F (pN pD fitsI in62 mkF)
/-- What a product or a quotient with exponent e is. -/
theorem is_pw {e : Int} (he : -124 ≤ e ∧ e ≤ 124) {R0 R1 R2 : Int} (hR : (R0, R1, R2) = mkF (pN e) (pD e)) : (-62 ≤ e ∧ e ≤ 62 → R2 = 0 ∧ F.wireloomlaw02_power.f e = some (R0, R1)) ∧ (¬ (-62 ≤ e ∧ e ≤ 62) → R2 ≠ 0) := by
  obtain ⟨h1, h2, h3⟩ := F.chk1_ok he
  obtain ⟨f1, f2, -⟩ := F.mkF_E _ _ _ h3
  rw [← hR] at f1 f2
  unfold in62 at f1
  refine ⟨fun h => ?_, fun h h0 => ?_⟩
  · rw [decide_eq_true h.1, decide_eq_true h.2] at f1
    have h0 : R2 = 0 := by simpa using f1
    have := f2 h0
    simp only [Prod.mk.injEq] at this
    exact ⟨h0, by rw [F.power_ok h, this.1, this.2.1]⟩
  · simp only at f1
    rw [h0] at f1
    have f1 := f1.symm
    simp only [beq_self_eq_true, Bool.and_eq_true, decide_eq_true_eq] at f1
    exact h f1
section
variable {ea eb : Int} (ha : -62 ≤ ea ∧ ea ≤ 62) (hb : -62 ≤ eb ∧ eb ≤ 62) (ng : Bool) (K : Nat) (hK : 60 ≤ K) (w0 : World)
include hK
theorem lj20 : ∀ a w, Sl 179 [(2, .bool ng), (7, .bool true)] a → Bl w0 [] w → (restOf Tryd.f8 20).wp Tryd.prog (bodyPost Tryd.prog Tryd.f8 fun e w' => e = .returned (.bool true) ∧ Below w0.heap.size w0 w') a w := by
  cases ng
  · exact l20p K w0 (F.sup hK F.e1) (F.aup hK F.e2) (F.aup hK F.e3) (F.sup hK F.e4)
  · exact l20n K w0 (F.sup hK F.e5) (F.aup hK F.e6) (F.aup hK F.e7) (F.sup hK F.e8)
include ha hb
theorem lj12 (g11 g10 : Nat) : ∀ a w, Sl 179 [(2, .bool ng), (7, .bool true), (8, .int .i64 ea), (9, .int .i64 eb), (10, pt g10 0), (11, pt g11 0)] a → Bl w0 [(g11, .cells #[.int .i64 (F.pN eb), .int .i64 (F.pD eb)] 25 (0, 0)), (g10, .cells #[.int .i64 (F.pN ea), .int .i64 (F.pD ea)] 25 (0, 0))] w → (restOf Tryd.f8 12).wp Tryd.prog (bodyPost Tryd.prog Tryd.f8 fun e w' => e = .returned (.bool true) ∧ Below w0.heap.size w0 w') a w := by
  have hj := lj20 ng K hK w0
  obtain ⟨c1, c2, c3, c4, c5, c6⟩ := F.chk_ok ha hb
  obtain ⟨S, hS, rS⟩ := F.red_add (F.pw_vf ha) (F.pw_vf hb) K (by omega)
  have e := F.red_known rS (Int.mul_ne_zero (by have := (F.pw_vf ha).pos; omega) (by have := (F.pw_vf hb).pos; omega)) c5 c4 c3
  obtain ⟨f1, -, f3⟩ := F.mkF_E _ _ _ c6
  rw [← e] at f1 f3
  clear e c1 c2 c3 c4 c5 c6 rS
  have hmx : mx ea eb = if ea ≤ eb then eb else ea := by unfold mx; split <;> split <;> omega
  have hmn : mn ea eb = if ea ≤ eb then ea else eb := by unfold mn; split <;> split <;> omega
  have hmn0 : ∀ x, mn x 0 = if x ≤ 0 then x else 0 := by intro x; unfold mn; split <;> split <;> omega
  have hok : fitsI ea eb = true → ∃ S0 S1, F.wireloomlaw02_add.f K (pN ea) (pD ea) (pN eb) (pD eb) = some (S0, S1, 0) := fun h => by
    obtain ⟨S0, S1, S2⟩ := S
    rw [h] at f1
    have : S2 = 0 := by simpa using f1
    subst this; exact ⟨_, _, hS⟩
  have hbig : fitsI ea eb = false → ∃ S0 S1, F.wireloomlaw02_add.f K (pN ea) (pD ea) (pN eb) (pD eb) = some (S0, S1, 2) := fun h => by
    obtain ⟨S0, S1, S2⟩ := S
    rw [h] at f1
    have : S2 = 2 := by rcases f3 with h | h; · simp only at h; subst h; simp at f1
                        · exact h
    subst this; exact ⟨_, _, hS⟩
  clear f1 f3 hS
  unfold fitsI at hok hbig
  have hdf : wrap64 (mx ea eb - mn (mn ea eb) 0) = mx ea eb - mn (mn ea eb) 0 := F.w64 (by rw [hmn0, hmx, hmn]; split <;> split <;> omega)
  by_cases h : ea = eb
  · subst h
    have e1 : mx ea ea = ea := by rw [hmx]; split <;> omega
    have e2 : mn ea ea = ea := by rw [hmn]; split <;> omega
    rw [e1, e2] at hdf
    rw [if_pos rfl, e1] at hok hbig
    by_cases h3 : ea ≤ 61
    · obtain ⟨S0, S1, hS⟩ := hok (decide_eq_true h3)
      by_cases h7 : ea - mn ea 0 ≤ 61
      · exact l12ee K w0 g11 g10 ea ea ea _ _ _ _ _ _ _ _ ng hS (by split <;> omega) (by split <;> omega) h3 rfl hdf h7 hj
      · exact l12te K w0 g11 g10 ea ea ea _ _ _ _ _ _ _ _ ng hS (by split <;> omega) (by split <;> omega) h3 rfl hdf h7 hj
    · obtain ⟨S0, S1, hS⟩ := hbig (decide_eq_false h3)
      exact l12fe K w0 g11 g10 ea ea ea _ _ _ _ _ _ ng hS (by split <;> omega) (by split <;> omega) h3 hj
  · have hne : mx ea eb ≠ mn ea eb := by rw [hmx, hmn]; split <;> omega
    rw [if_neg h] at hok hbig
    by_cases h3 : mx ea eb ≤ 61
    · rw [decide_eq_true h3] at hok hbig
      by_cases h7 : mx ea eb - mn (mn ea eb) 0 ≤ 61
      · obtain ⟨S0, S1, hS⟩ := hok (by rw [decide_eq_true h7]; rfl)
        exact l12en K w0 g11 g10 ea eb _ _ _ _ _ _ _ _ _ _ ng hS rfl rfl h3 hne rfl hdf h7 hj
      · obtain ⟨S0, S1, hS⟩ := hbig (by rw [decide_eq_false h7]; rfl)
        exact l12tn K w0 g11 g10 ea eb _ _ _ _ _ _ _ _ _ _ ng hS rfl rfl h3 hne rfl hdf h7 hj
    · obtain ⟨S0, S1, hS⟩ := hbig (by rw [decide_eq_false h3]; rfl)
      exact l12fn K w0 g11 g10 ea eb _ _ _ _ _ _ _ _ ng hS rfl rfl h3 hne hj
theorem lj10 {M0 M1 M2 D0 D1 D2 : Int} (hM : (M0, M1, M2) = mkF (pN (ea + eb)) (pD (ea + eb))) (hD : (D0, D1, D2) = mkF (pN (ea - eb)) (pD (ea - eb))) (g13 g12 g11 g10 : Nat) :
    ∀ a w, Sl 179 [(2, .bool ng), (7, .bool true), (8, .int .i64 ea), (9, .int .i64 eb), (10, pt g10 0), (11, pt g11 0), (12, pt g12 0), (13, pt g13 0)] a → Bl w0 [(g13, .cells #[.int .i64 D0, .int .i64 D1, .int .i64 D2] 31 (0, 0)), (g12, .cells #[.int .i64 M0, .int .i64 M1, .int .i64 M2] 31 (0, 0)), (g11, .cells #[.int .i64 (F.pN eb), .int .i64 (F.pD eb)] 25 (0, 0)), (g10, .cells #[.int .i64 (F.pN ea), .int .i64 (F.pD ea)] 25 (0, 0))] w → (restOf Tryd.f8 10).wp Tryd.prog (bodyPost Tryd.prog Tryd.f8 fun e w' => e = .returned (.bool true) ∧ Below w0.heap.size w0 w') a w := by
  have hj := lj12 ha hb ng K hK w0 g11 g10
  obtain ⟨m1, m2⟩ := is_pw (e := ea + eb) ⟨by omega, by omega⟩ hM
  obtain ⟨d1, d2⟩ := is_pw (e := ea - eb) ⟨by omega, by omega⟩ hD
  have hm : wrap64 (ea + eb) = ea + eb := F.w64 (by omega)
  have hd : wrap64 (ea - eb) = ea - eb := F.w64 (by omega)
  clear hM hD
  by_cases hm0 : -62 ≤ ea + eb ∧ ea + eb ≤ 62
  · obtain ⟨rfl, m3⟩ := m1 hm0
    by_cases hd0 : -62 ≤ ea - eb ∧ ea - eb ≤ 62
    · obtain ⟨rfl, d3⟩ := d1 hd0
      exact l10oo K w0 g13 g12 g11 g10 ea eb _ _ _ _ _ _ _ _ _ _ ng hm hd hm0 m3 hd0 d3 hj
    · by_cases hl : ea - eb < -62
      · exact l10ol K w0 g13 g12 g11 g10 ea eb _ _ _ _ _ _ _ _ _ _ _ ng hm hd hm0 m3 hl (d2 hd0) hj
      · exact l10oh K w0 g13 g12 g11 g10 ea eb _ _ _ _ _ _ _ _ _ _ _ ng hm hd hm0 m3 (by omega) (d2 hd0) hj
  · by_cases hml : ea + eb < -62
    · by_cases hd0 : -62 ≤ ea - eb ∧ ea - eb ≤ 62
      · obtain ⟨rfl, d3⟩ := d1 hd0
        exact l10lo K w0 g13 g12 g11 g10 ea eb _ _ _ _ _ _ _ _ _ _ _ ng hm hd hml (m2 hm0) hd0 d3 hj
      · by_cases hl : ea - eb < -62
        · exact l10ll K w0 g13 g12 g11 g10 ea eb _ _ _ _ _ _ _ _ _ _ _ _ ng hm hd hml (m2 hm0) hl (d2 hd0) hj
        · exact l10lh K w0 g13 g12 g11 g10 ea eb _ _ _ _ _ _ _ _ _ _ _ _ ng hm hd hml (m2 hm0) (by omega) (d2 hd0) hj
    · by_cases hd0 : -62 ≤ ea - eb ∧ ea - eb ≤ 62
      · obtain ⟨rfl, d3⟩ := d1 hd0
        exact l10ho K w0 g13 g12 g11 g10 ea eb _ _ _ _ _ _ _ _ _ _ _ ng hm hd (by omega) (m2 hm0) hd0 d3 hj
      · by_cases hl : ea - eb < -62
        · exact l10hl K w0 g13 g12 g11 g10 ea eb _ _ _ _ _ _ _ _ _ _ _ _ ng hm hd (by omega) (m2 hm0) hl (d2 hd0) hj
        · exact l10hh K w0 g13 g12 g11 g10 ea eb _ _ _ _ _ _ _ _ _ _ _ _ ng hm hd (by omega) (m2 hm0) (by omega) (d2 hd0) hj
end
theorem limits_walk (p q : Int) (ng : Bool) (w : World) (hGL : F.GL w) (h0 : (Lit.int .u8 p).wf = true) (h1 : (Lit.int .u8 q).wf = true) :
    Calls Tryd.prog 8 #[.int .u8 p, .int .u8 q, .bool ng] w fun e w' => e = .returned (.bool true) ∧ Below w.heap.size w w' := by
  have hp := F.fl_u8 h0
  have hq := F.fl_u8 h1
  have p1 := Int.tmod_nonneg 125 hp.1
  have p2 := Int.tmod_lt_of_pos p (show (0 : Int) < 125 by decide)
  have q1 := Int.tmod_nonneg 125 hq.1
  have q2 := Int.tmod_lt_of_pos q (show (0 : Int) < 125 by decide)
  have ha : -62 ≤ Int.tmod p 125 - 62 ∧ Int.tmod p 125 - 62 ≤ 62 := ⟨by omega, by omega⟩
  have hb : -62 ≤ Int.tmod q 125 - 62 ∧ Int.tmod q 125 - 62 ≤ 62 := ⟨by omega, by omega⟩
  have wp : wrap64 p = p := F.w64 (by omega)
  have wq : wrap64 q = q := F.w64 (by omega)
  have wa : wrap64 (Int.tmod p 125 - 62) = Int.tmod p 125 - 62 := F.w64 (by omega)
  have wb : wrap64 (Int.tmod q 125 - 62) = Int.tmod q 125 - 62 := F.w64 (by omega)
  generalize hea : Int.tmod p 125 - 62 = ea at ha wa
  generalize heb : Int.tmod q 125 - 62 = eb at hb wb
  have pa := F.pw_vf ha
  have pb := F.pw_vf hb
  have nb : pN eb ≠ 0 := by unfold pN; split; decide; have := Nat.pow_pos (n := eb.toNat) (show 0 < 2 by decide); omega
  obtain ⟨c1, c2, -⟩ := F.chk_ok ha hb
  obtain ⟨⟨M0, M1, M2⟩, hM, rM⟩ := F.red_mul pa pb 65 (by omega)
  obtain ⟨⟨D0, D1, D2⟩, hD, rD⟩ := F.red_div pa pb nb 65 (by omega)
  obtain ⟨m1, m2, -⟩ := F.chk1_ok (e := ea + eb) ⟨by omega, by omega⟩
  obtain ⟨d1, d2, -⟩ := F.chk1_ok (e := ea - eb) ⟨by omega, by omega⟩
  have eM := F.red_known rM (Int.mul_ne_zero (by have := pa.pos; omega) (by have := pb.pos; omega)) m2 m1 c1
  have eQ := F.red_known rD (Int.mul_ne_zero (by have := pa.pos; omega) nb) d2 d1 c2
  exact l0 65 w hGL p q ea eb _ _ _ _ _ _ _ _ _ _ _ _ ng wp wq rfl rfl (by rw [hea]; exact wa) (by rw [heb]; exact wb) (F.power_ok ha) (F.power_ok hb) hM hD fun g13 g12 g11 g10 => lj10 ha hb ng 65 (by omega) w eM eQ g13 g12 g11 g10
end Go.Proofs.YtndfjpnpdnnpkaaDoor.Cx
