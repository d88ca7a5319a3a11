/- The sum of two wide numbers (128 bits and a sign). -/
import Derived.Test.YtndfjpnpdnnpkaaDoorGiven
import Derived.Test.YtndfjpnpdnnpkaaDoorFx3
namespace Go.Proofs.YtndfjpnpdnnpkaaDoor.F
set_option linter.unusedVariables false
set_option linter.unusedSimpArgs false
open Go.RowKit Go.Proofs.YtndfjpnpdnnpkaaDoorW.PrintWords Go.Proofs.YtndfjpnpdnnpkaaDoorW.PrintLast

theorem bor_range (x y : Int) : 0 ≤ bor x y ∧ bor x y ≤ 1 := by unfold bor; split <;> decide
def plusF (n1 : Bool) (h1 l1 : Int) (n2 : Bool) (h2 l2 : Int) : Bool × Int × Int :=
  if n1 = n2 then (n1, (h1 + h2 + (l1 + l2) / 18446744073709551616) % 18446744073709551616, (l1 + l2) % 18446744073709551616)
  else if h2 < h1 ∨ (h1 = h2 ∧ l2 ≤ l1) then (n1, (h1 - h2 - bor l1 l2) % 18446744073709551616, (l1 - l2) % 18446744073709551616)
  else (n2, (h2 - h1 - bor l2 l1) % 18446744073709551616, (l2 - l1) % 18446744073709551616)
def fraction_wide_plus.f (n1 : Bool) (h1 l1 : Int) (n2 : Bool) (h2 l2 : Int) : Option (Bool × Int × Int) :=
  if Word h1 ∧ Word l1 ∧ Word h2 ∧ Word l2 then some (plusF n1 h1 l1 n2 h2 l2) else none
set_option maxRecDepth 100000 in
set_option maxHeartbeats 1600000 in
theorem plus_same (n1 : Bool) (h1 l1 : Int) (n2 : Bool) (h2 l2 : Int) (hn : n1 = n2) (a : Word h1) (b : Word l1) (c : Word h2) (d : Word l2) (w : World) :
    Calls Tryd.prog 31 #[.agg #[.bool n1, .int .u64 h1, .int .u64 l1], .agg #[.bool n2, .int .u64 h2, .int .u64 l2]] w fun e w' =>
      e = .returned (.agg #[.bool n1, .int .u64 ((h1 + h2 + (l1 + l2) / 18446744073709551616) % 18446744073709551616), .int .u64 ((l1 + l2) % 18446744073709551616)]) ∧ Below w.heap.size w w' := by
  obtain ⟨a1, a2⟩ := a; obtain ⟨b1, b2⟩ := b; obtain ⟨c1, c2⟩ := c; obtain ⟨d1, d2⟩ := d
  have k0 : 0 ≤ (l1 + l2) / 18446744073709551616 := by omega
  have k1 : (l1 + l2) / 18446744073709551616 ≤ 1 := by omega
  subst hn
  go_enter Tryd.func31, Tryd.ntmps31
  go_wp2_with (first | simp only [add64_0 l1 l2 b1 d1] | simp only [add64 h1 h2 _ a1 c1 k0 k1])
  simp [bodyPost, results, Tryd.results31, go_sem]
  exact below_alloc (below_alloc (below_alloc (Below.refl _ _) _) _) _
theorem three_ {w w1 : World} {A B C : Obj} (hb : Below (((w.alloc A).alloc B).alloc C).heap.size (((w.alloc A).alloc B).alloc C) w1) :
    w1.heap[w.heap.size]? = some A ∧ w1.heap[w.heap.size + 1]? = some B ∧ w1.heap[w.heap.size + 2]? = some C := by
  have hs : (((w.alloc A).alloc B).alloc C).heap = ((w.heap.push A).push B).push C := rfl
  have hz : (((w.alloc A).alloc B).alloc C).heap.size = w.heap.size + 3 := by rw [hs]; simp
  refine ⟨?_, ?_, ?_⟩
  · rw [hb.block w.heap.size (by omega), hs, Array.getElem?_push, Array.getElem?_push, Array.getElem?_push, Array.size_push, Array.size_push, if_neg (by omega), if_neg (by omega), if_pos rfl]
  · rw [hb.block (w.heap.size + 1) (by omega), hs, Array.getElem?_push, Array.getElem?_push, Array.size_push, Array.size_push, if_neg (by omega), if_pos (by omega)]
  · rw [hb.block (w.heap.size + 2) (by omega), hs, Array.getElem?_push, Array.size_push, Array.size_push, if_pos (by omega)]
set_option maxRecDepth 100000 in
set_option maxHeartbeats 1600000 in
theorem plus_diff (n1 : Bool) (h1 l1 : Int) (n2 : Bool) (h2 l2 : Int) (hn : ¬ n1 = n2) (hg : fraction_wide_atLeast.f n1 h1 l1 n2 h2 l2 = some true) (a : Word h1) (b : Word l1) (c : Word h2) (d : Word l2) (w : World) :
    Calls Tryd.prog 31 #[.agg #[.bool n1, .int .u64 h1, .int .u64 l1], .agg #[.bool n2, .int .u64 h2, .int .u64 l2]] w fun e w' =>
      e = .returned (.agg #[.bool n1, .int .u64 ((h1 - h2 - bor l1 l2) % 18446744073709551616), .int .u64 ((l1 - l2) % 18446744073709551616)]) ∧ Below w.heap.size w w' := by
  obtain ⟨a1, a2⟩ := a; obtain ⟨b1, b2⟩ := b; obtain ⟨c1, c2⟩ := c; obtain ⟨d1, d2⟩ := d
  obtain ⟨k0, k1⟩ := bor_range l1 l2
  have hN : (n1 == n2) = false := by cases n1 <;> cases n2 <;> simp_all
  have HG := Lib.hid hg
  clear hg hn
  go_enter Tryd.func31, Tryd.ntmps31
  go_wp2_with (first | (go_at_call 49; refine (fraction_wide_atLeast.calls n1 h1 l1 n2 h2 l2 true _ HG.out).mono ?_; rintro e w1 ⟨rfl, hb⟩; obtain ⟨B0, B1, B2⟩ := three_ hb; have hz0_1 := (blk_cell B0 1).trans rfl; have hz0_2 := (blk_cell B0 2).trans rfl; have hz0_0 := (blk_cell B0 0).trans rfl; have hz1_1 := (blk_cell B1 1).trans rfl; have hz1_2 := (blk_cell B1 2).trans rfl; have hz1_0 := (blk_cell B1 0).trans rfl; have hz2_0 := (blk_cell B2 0).trans rfl; have hz2_1 := (blk_cell B2 1).trans rfl; have hz2_2 := (blk_cell B2 2).trans rfl; have hf0 := blk_frozen B0 0; have hf2 := blk_frozen B2 0; have hf2_1 := blk_frozen B2 1; have hf2_2 := blk_frozen B2 2) | simp only [sub64_0 l1 l2 b1 d1 d2] | simp only [sub64 h1 h2 (bor l1 l2) a1 c1 c2 k0 k1])
  have hfin := blk_put (blk_put (blk_put B2 0 (.bool n1) rfl) 1 (.int .u64 ((h1 - h2 - bor l1 l2) % 18446744073709551616)) rfl) 2 (.int .u64 ((l1 - l2) % 18446744073709551616)) rfl
  refine bodyPost_ret (results_cell_row rfl _ _ (w.heap.size + 1 + 1) 51 #[.bool n1, .int .u64 ((h1 - h2 - bor l1 l2) % 18446744073709551616), .int .u64 ((l1 - l2) % 18446744073709551616)] (0, 0) _ rfl hfin Tryd.underlying51 rfl (by kernel_rfl)) rfl ?_
  refine ⟨rfl, ?_⟩
  have h0 : Below w.heap.size w w1 := below_step (below_alloc (below_alloc (below_alloc (Below.refl _ _) _) _) _) hb
  exact below_set (below_set (below_set h0 (by omega)) (by omega)) (by omega)
set_option maxRecDepth 100000 in
set_option maxHeartbeats 1600000 in
theorem plus_less (n1 : Bool) (h1 l1 : Int) (n2 : Bool) (h2 l2 : Int) (hn : ¬ n1 = n2) (hg : fraction_wide_atLeast.f n1 h1 l1 n2 h2 l2 = some false) (a : Word h1) (b : Word l1) (c : Word h2) (d : Word l2) (w : World) :
    Calls Tryd.prog 31 #[.agg #[.bool n1, .int .u64 h1, .int .u64 l1], .agg #[.bool n2, .int .u64 h2, .int .u64 l2]] w fun e w' =>
      e = .returned (.agg #[.bool n2, .int .u64 ((h2 - h1 - bor l2 l1) % 18446744073709551616), .int .u64 ((l2 - l1) % 18446744073709551616)]) ∧ Below w.heap.size w w' := by
  obtain ⟨a1, a2⟩ := a; obtain ⟨b1, b2⟩ := b; obtain ⟨c1, c2⟩ := c; obtain ⟨d1, d2⟩ := d
  obtain ⟨k0, k1⟩ := bor_range l2 l1
  have hN : (n1 == n2) = false := by cases n1 <;> cases n2 <;> simp_all
  have HG := Lib.hid hg
  clear hg hn
  go_enter Tryd.func31, Tryd.ntmps31
  go_wp2_with (first | (go_at_call 49; refine (fraction_wide_atLeast.calls n1 h1 l1 n2 h2 l2 false _ HG.out).mono ?_; rintro e w1 ⟨rfl, hb⟩; obtain ⟨B0, B1, B2⟩ := three_ hb; have hz0_1 := (blk_cell B0 1).trans rfl; have hz0_2 := (blk_cell B0 2).trans rfl; have hz0_0 := (blk_cell B0 0).trans rfl; have hz1_1 := (blk_cell B1 1).trans rfl; have hz1_2 := (blk_cell B1 2).trans rfl; have hz1_0 := (blk_cell B1 0).trans rfl; have hz2_0 := (blk_cell B2 0).trans rfl; have hz2_1 := (blk_cell B2 1).trans rfl; have hz2_2 := (blk_cell B2 2).trans rfl; have hf0 := blk_frozen B0 0; have hf2 := blk_frozen B2 0; have hf2_1 := blk_frozen B2 1; have hf2_2 := blk_frozen B2 2; have hf0_1 := blk_frozen B0 1; have hf0_2 := blk_frozen B0 2; have hf1_0 := blk_frozen B1 0; have hf1_1 := blk_frozen B1 1; have hf1_2 := blk_frozen B1 2) | simp only [sub64_0 l2 l1 d1 b1 b2] | simp only [sub64 h2 h1 (bor l2 l1) c1 a1 a2 k0 k1])
  have f1 := blk_far B2 (p := ⟨w.heap.size, 0, none⟩) (by show w.heap.size + 2 ≠ w.heap.size; omega) (.bool n2)
  have f2 := blk_far f1 (p := ⟨w.heap.size, 1, none⟩) (by show w.heap.size + 2 ≠ w.heap.size; omega) (.int .u64 h2)
  have f3 := blk_far f2 (p := ⟨w.heap.size, 2, none⟩) (by show w.heap.size + 2 ≠ w.heap.size; omega) (.int .u64 l2)
  have f4 := blk_far f3 (p := ⟨w.heap.size + 1, 0, none⟩) (by show w.heap.size + 2 ≠ w.heap.size + 1; omega) (.bool n1)
  have f5 := blk_far f4 (p := ⟨w.heap.size + 1, 1, none⟩) (by show w.heap.size + 2 ≠ w.heap.size + 1; omega) (.int .u64 h1)
  have f6 := blk_far f5 (p := ⟨w.heap.size + 1, 2, none⟩) (by show w.heap.size + 2 ≠ w.heap.size + 1; omega) (.int .u64 l1)
  have hfin := blk_put (blk_put (blk_put f6 0 (.bool n2) rfl) 1 (.int .u64 ((h2 - h1 - bor l2 l1) % 18446744073709551616)) rfl) 2 (.int .u64 ((l2 - l1) % 18446744073709551616)) rfl
  refine bodyPost_ret (results_cell_row rfl _ _ (w.heap.size + 1 + 1) 51 #[.bool n2, .int .u64 ((h2 - h1 - bor l2 l1) % 18446744073709551616), .int .u64 ((l2 - l1) % 18446744073709551616)] (0, 0) _ rfl hfin Tryd.underlying51 rfl (by kernel_rfl)) rfl ?_
  refine ⟨rfl, ?_⟩
  have h0 : Below w.heap.size w w1 := below_step (below_alloc (below_alloc (below_alloc (Below.refl _ _) _) _) _) hb
  exact below_set (below_set (below_set (below_set (below_set (below_set (below_set (below_set (below_set h0 (by omega)) (by omega)) (by omega)) (by omega)) (by omega)) (by omega)) (by omega)) (by omega)) (by omega)
theorem fraction_wide_plus.calls (n1 : Bool) (h1 l1 : Int) (n2 : Bool) (h2 l2 : Int) (r1 : Bool) (r2 r3 : Int) (w : World) (h : fraction_wide_plus.f n1 h1 l1 n2 h2 l2 = some (r1, r2, r3)) :
    Calls Tryd.prog 31 #[.agg #[.bool n1, .int .u64 h1, .int .u64 l1], .agg #[.bool n2, .int .u64 h2, .int .u64 l2]] w fun e w' =>
      e = .returned (.agg #[.bool r1, .int .u64 r2, .int .u64 r3]) ∧ Below w.heap.size w w' := by
  unfold fraction_wide_plus.f at h
  by_cases hw : Word h1 ∧ Word l1 ∧ Word h2 ∧ Word l2
  · rw [if_pos hw] at h
    obtain ⟨a, b, c, d⟩ := hw
    have h := Option.some.inj h
    unfold plusF at h
    by_cases hn : n1 = n2
    · rw [if_pos hn] at h
      simp only [Prod.mk.injEq] at h
      obtain ⟨rfl, rfl, rfl⟩ := h
      exact plus_same n1 h1 l1 n2 h2 l2 hn a b c d w
    · rw [if_neg hn] at h
      by_cases hg : h2 < h1 ∨ (h1 = h2 ∧ l2 ≤ l1)
      · rw [if_pos hg] at h
        simp only [Prod.mk.injEq] at h
        obtain ⟨rfl, rfl, rfl⟩ := h
        refine plus_diff n1 h1 l1 n2 h2 l2 hn ?_ a b c d w
        unfold fraction_wide_atLeast.f
        rcases hg with hg | ⟨hg, hl⟩
        · rw [if_pos (by omega)]
        · rw [if_neg (by omega), if_pos hg, decide_eq_true (by omega)]
      · rw [if_neg hg] at h
        simp only [Prod.mk.injEq] at h
        obtain ⟨rfl, rfl, rfl⟩ := h
        refine plus_less n1 h1 l1 n2 h2 l2 hn ?_ a b c d w
        unfold fraction_wide_atLeast.f
        rw [if_neg (by omega)]
        by_cases he : h1 = h2
        · rw [if_pos he, decide_eq_false (by omega)]
        · rw [if_neg he]
  · rw [if_neg hw] at h
    cases h
end Go.Proofs.YtndfjpnpdnnpkaaDoor.F
