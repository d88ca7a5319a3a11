/- FractionTexts' plain law. -/
import Derived.DataShut
import Derived.Test.YtndfjpnpdnnpkaaDoorPTr
namespace Go.Proofs.YtndfjpnpdnnpkaaDoor.F
set_option linter.unusedVariables false
set_option linter.unusedSimpArgs false
open Go.RowKit Go.Proofs.YtndfjpnpdnnpkaaDoorW.PrintWords Go.Proofs.YtndfjpnpdnnpkaaDoorW.PrintLast Go.Proofs.YtndfjpnpdnnpkaaDoorW.PrintMore
theorem tx_i64 {n : Int} (h : (Lit.int .i64 n).wf = true) : I64 n := (Lit.wf_int_iff .i64 n).1 h
theorem tx_u8 {n : Int} (h : (Lit.int .u8 n).wf = true) : 0 ≤ n ∧ n ≤ 255 := (Lit.wf_int_iff .u8 n).1 h
theorem ex_size (s : ByteArray) (a b : Nat) (h1 : a ≤ b) (h2 : b ≤ s.size) : (s.extract a b).size = b - a := by
  rw [ByteArray.size_extract]; omega
theorem ed_ok (s : ByteArray) (hs : s.size ≤ 1000) {z0 z1 z2 : Int} (h0 : 0 ≤ z0 ∧ z0 ≤ 255) (h1 : 0 ≤ z1 ∧ z1 ≤ 255) (h2 : 0 ≤ z2 ∧ z2 ≤ 255) (k : Nat) : ∃ t, wireloomlaw02_edited.f (k + 1) s z0 z1 z2 = some t ∧ t.size ≤ s.size + 1 := by
  have hb : (strOfNums [z2]).size = 1 := by simp [strOfNums, ByteArray.size]
  unfold wireloomlaw02_edited.f
  rw [w64 (n := (s.size : Int) + 1) (by omega), if_neg (by omega), Option.bind_some, w64 (n := z1) (by omega)]
  have i0 : 0 ≤ Int.tmod z1 ((s.size : Int) + 1) := Int.tmod_nonneg _ h1.1
  have i1 : Int.tmod z1 ((s.size : Int) + 1) < (s.size : Int) + 1 := Int.tmod_lt_of_pos _ (by omega)
  generalize Int.tmod z1 ((s.size : Int) + 1) = i at i0 i1
  generalize strOfNums [z2] = b at hb
  obtain ⟨p, rfl⟩ := Int.eq_ofNat_of_zero_le i0
  have hT : ∃ t, wireloomlaw02_edited.j0 (k + 1) s (p : Int) b true z0 z1 z2 = some t ∧ t.size ≤ s.size + 1 := by
    have e1 := ex_size s 0 p (by omega) (by omega)
    have e2 := ex_size s p s.size (by omega) (Nat.le_refl _)
    rw [wireloomlaw02_edited.j0, if_pos rfl, if_pos i0, if_pos (by omega), Int.toNat_natCast, if_pos (by rw [e1]; omega), if_pos (by rw [ByteArray.size_append, e1, e2]; omega)]
    exact ⟨_, rfl, by rw [ByteArray.size_append, ByteArray.size_append, e1, e2]; omega⟩
  have hF : p < s.size → ∃ t, wireloomlaw02_edited.j0 (k + 1) s (p : Int) b false z0 z1 z2 = some t ∧ t.size ≤ s.size + 1 := by
    intro hp
    have e1 := ex_size s 0 p (by omega) (by omega)
    have e2 := ex_size s (p + 1) s.size (by omega) (Nat.le_refl _)
    rw [wireloomlaw02_edited.j0, if_neg (by decide), w64 (n := (p : Int) + 1) (by omega), show ((p : Int) + 1).toNat = p + 1 by omega, Int.toNat_natCast]
    by_cases hz : Int.tmod z0 3 = 1
    · rw [if_pos hz, if_pos i0, if_pos (by omega), if_pos (by rw [e1]; omega), if_pos (by omega), if_pos (by omega), if_pos (by rw [ByteArray.size_append, e1, e2]; omega)]
      exact ⟨_, rfl, by rw [ByteArray.size_append, ByteArray.size_append, e1, e2]; omega⟩
    · rw [if_neg hz, if_pos i0, if_pos (by omega), if_pos (by omega), if_pos (by omega), if_pos (by rw [e1, e2]; omega)]
      exact ⟨_, rfl, by rw [ByteArray.size_append, e1, e2]; omega⟩
  by_cases hz : Int.tmod z0 3 = 0
  · rw [if_pos hz]; exact hT
  · rw [if_neg hz]
    by_cases hp : (p : Int) = s.size
    · rw [show ((p : Int) == (s.size : Int)) = true by rw [beq_iff_eq]; exact hp]; exact hT
    · rw [show ((p : Int) == (s.size : Int)) = false by rw [beq_eq_false_iff_ne]; exact hp]; exact hF (by omega)
theorem texts_loop (L : List ByteArray) (hL : L.length ≤ 10) (hs : ∀ i : Nat, (rdOf ByteArray.empty L (i : Int)).size ≤ 1000000) : ∀ (n : Nat) (i : Nat), L.length - i ≤ n → ∃ K, ∀ k, K ≤ k → wireloomlaw02_FractionTexts.l0 k true L (i : Int) = some true := by
  intro n
  induction n with
  | zero =>
    intro i h
    refine ⟨1, fun k hk => ?_⟩
    obtain ⟨k, rfl⟩ : ∃ j, k = j + 1 := ⟨k - 1, by omega⟩
    rw [wireloomlaw02_FractionTexts.l0, if_neg (by omega)]
  | succ n ih =>
    intro i h
    obtain ⟨K, hK⟩ := ih (i + 1) (by omega)
    by_cases hi : (i : Int) < (L.length : Int)
    · have hsz := hs i
      generalize hx : rdOf ByteArray.empty L (i : Int) = s at hsz
      have hB := B_self s
      have hlen : s.data.toList.length ≤ 1000000 := by rw [Array.length_toList]; exact hsz
      obtain ⟨R, hR, ⟨K2, hR2⟩, hA⟩ := parse_same s.data.toList hlen
      rw [← hB] at hR hR2
      refine ⟨K + K2 + 2, fun k hk => ?_⟩
      obtain ⟨k, rfl⟩ : ∃ j, k = j + 2 := ⟨k - 2, by omega⟩
      have hj : wireloomlaw02_FractionTexts.j2 (k + 1) true L (i : Int) false = some true := by
        rw [wireloomlaw02_FractionTexts.j2, if_neg (by decide), w64 (n := (i : Int) + 1) (by omega)]
        exact hK k (by omega)
      rw [wireloomlaw02_FractionTexts.l0, if_pos hi, if_pos (by omega), hx, hR, Option.bind_some, hR2 (k + 1) (by omega), Option.bind_some, if_neg (by simp)]
      rcases hA with ⟨e0, hv, ht⟩ | e0
      · rw [if_pos e0, text_ok hv, Option.bind_some]
        have e : txB R.1 R.2.1 = s := by unfold txB; rw [ht]
        rw [e, show (s.toList != s.toList) = false by simp]
        exact hj
      · rw [if_neg (by rw [e0]; decide)]
        exact hj
    · refine ⟨1, fun k hk => ?_⟩
      obtain ⟨k, rfl⟩ : ∃ j, k = j + 1 := ⟨k - 1, by omega⟩
      rw [wireloomlaw02_FractionTexts.l0, if_neg hi]
theorem rd_le (L : List ByteArray) (m : Nat) (h : ∀ x ∈ L, x.size ≤ m) (i : Nat) : (rdOf ByteArray.empty L (i : Int)).size ≤ m := by
  unfold rdOf
  rw [Int.toNat_natCast, List.getD_eq_getElem?_getD]
  cases hg : L[i]? with
  | none => exact Nat.zero_le _
  | some x => exact h x (List.mem_of_getElem? hg)
theorem texts_j0 (L : List ByteArray) (hL : L.length ≤ 10) (h : ∀ x ∈ L, x.size ≤ 1000000) : ∃ K, ∀ k, K ≤ k → wireloomlaw02_FractionTexts.j0 k true L = some true := by
  obtain ⟨K, hK⟩ := texts_loop L hL (rd_le L _ h) L.length 0 (by omega)
  refine ⟨K + 1, fun k hk => ?_⟩
  obtain ⟨k, rfl⟩ : ∃ j, k = j + 1 := ⟨k - 1, by omega⟩
  rw [wireloomlaw02_FractionTexts.j0]
  exact hK k (by omega)
theorem texts_pure : wireloomlaw02_FractionTexts.Pure := by
  intro a0 a1 z0 z1 z2 s h0 h1 hz0 hz1 hz2 hs
  obtain ⟨k0, N, D, hmade, hv⟩ := made_ok (tx_i64 h0) (tx_i64 h1)
  have hz0 := tx_u8 hz0
  have hz1 := tx_u8 hz1
  have hz2 := tx_u8 hz2
  have hlen := txL_len hv
  have hsz : (txB N D).size = (txL N D).length := B_size _
  have hp : wireloomlaw02_parsed.f (txB N D) = some (N, D, 0) := parse_inv hv
  obtain ⟨t, ht, htl⟩ : ∃ t, (∀ k, wireloomlaw02_edited.f (k + 1) (txB N D) z0 z1 z2 = some t) ∧ t.size ≤ 42 := by
    obtain ⟨t, ht, hl⟩ := ed_ok (txB N D) (by omega) hz0 hz1 hz2 0
    exact ⟨t, fun k => at_rounds (g := fun k => wireloomlaw02_edited.f k (txB N D) z0 z1 z2) (fun k => wireloomlaw02_edited.mono _ _ _ _ k) (by omega) ht, by omega⟩
  obtain ⟨u, hu, hul⟩ : ∃ u, (∀ k, wireloomlaw02_edited.f (k + 1) t z1 z2 z0 = some u) ∧ u.size ≤ 43 := by
    obtain ⟨u, hu, hl⟩ := ed_ok t (by omega) hz1 hz2 hz0 0
    exact ⟨u, fun k => at_rounds (g := fun k => wireloomlaw02_edited.f k t z1 z2 z0) (fun k => wireloomlaw02_edited.mono _ _ _ _ k) (by omega) hu, by omega⟩
  by_cases hs100 : (s.size : Int) ≤ 100
  · obtain ⟨K, hK⟩ := texts_j0 ([t, u] ++ [s]) (by simp) (by
      intro x hx
      simp at hx
      rcases hx with rfl | rfl | rfl <;> omega)
    refine ⟨k0 + K + 1, ?_⟩
    unfold wireloomlaw02_FractionTexts.f
    rw [show wireloomlaw02_examples.f (k0 + K + 1) = some true from rfl, Option.bind_some, if_pos rfl, hmade _ (by omega), Option.bind_some, text_ok hv, Option.bind_some, hp, Option.bind_some, show wireloomlaw02_is.f N D = some (N, D, 0) from rfl, Option.bind_some, if_neg (by simp), ht, Option.bind_some, hu, Option.bind_some, Option.bind_some, if_pos hs100, if_pos (by simp)]
    exact hK _ (by omega)
  · obtain ⟨K, hK⟩ := texts_j0 [t, u] (by simp) (by
      intro x hx
      simp at hx
      rcases hx with rfl | rfl <;> omega)
    refine ⟨k0 + K + 1, ?_⟩
    unfold wireloomlaw02_FractionTexts.f
    rw [show wireloomlaw02_examples.f (k0 + K + 1) = some true from rfl, Option.bind_some, if_pos rfl, hmade _ (by omega), Option.bind_some, text_ok hv, Option.bind_some, hp, Option.bind_some, show wireloomlaw02_is.f N D = some (N, D, 0) from rfl, Option.bind_some, if_neg (by simp), ht, Option.bind_some, hu, Option.bind_some, Option.bind_some, if_neg hs100]
    exact hK _ (by omega)
end Go.Proofs.YtndfjpnpdnnpkaaDoor.F
