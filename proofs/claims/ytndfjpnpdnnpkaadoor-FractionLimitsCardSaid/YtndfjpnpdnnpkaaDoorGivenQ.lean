/- fraction.Parse: it cuts at the slash, takes what Atoi hands back of each half, and compares the text. -/
import Derived.Test.YtndfjpnpdnnpkaaDoorGiven
import Derived.Test.YtndfjpnpdnnpkaaDoorGivenP
import Derived.Test.YtndfjpnpdnnpkaaDoorFx6
namespace Go.Proofs.YtndfjpnpdnnpkaaDoor.F
set_option linter.unusedVariables false
set_option linter.unusedSimpArgs false
open Go.RowKit Go.Proofs.YtndfjpnpdnnpkaaDoorW.PrintWords Go.Proofs.YtndfjpnpdnnpkaaDoorW.PrintLast

/-- what Atoi hands back, with an error or without -/
def atoiV (l : List UInt8) : Int :=
  match Lib.atoiAll l with
  | .ok v => v
  | .range => Lib.atoiSat l
  | _ => 0
theorem atoi_any (t : ByteArray) (w : World) (hsz : t.size ≤ 140737488355328) (hGL : GL w) (v : Int) (hv : atoiV t.data.toList = v) :
    Calls Tryd.prog 58 #[.string t] w fun e w' => ∃ u, e = .returned (.tuple #[.int .i64 v, u]) ∧ Below w.heap.size w w' := by
  subst hv
  unfold atoiV
  cases hf : Lib.atoiAll t.data.toList with
  | ok v =>
    refine (Tryd.strconv_Atoi_ok t (by omega) v hf w).mono fun _ _ ⟨he, hw⟩ => ⟨_, he, ?_⟩
    rcases hw with rfl | ⟨u, rfl⟩
    · exact Below.refl _ _
    · exact bytes_below (Below.refl _ _) (Nat.le_refl _) _ _
  | range =>
    obtain ⟨tp, q, hv⟩ := hGL.rng
    exact (Tryd.strconv_Atoi_range_var t (by omega) hf tp q w hv).mono fun _ _ ⟨N, he, _, _, hb⟩ => ⟨_, he, hb⟩
  | _ =>
    obtain ⟨tp, q, hv⟩ := hGL.syn
    exact (Tryd.strconv_Atoi_syntax_var t (by omega) hf tp q w hv).mono fun _ _ ⟨N, he, _, _, hb⟩ => ⟨_, he, hb⟩
theorem size_alloc_ (w : World) (A : Obj) : (w.alloc A).heap.size = w.heap.size + 1 := by
  show (w.heap.push A).size = _
  simp
theorem size_set_ (w : World) (p : Addr) (v : Value) : (w.setCell p v).heap.size = w.heap.size := by simp [World.setCell]
theorem old_ {w : World} (A : Obj) {i : Nat} (h : i < w.heap.size) : (w.alloc A).heap[i]? = w.heap[i]? := by
  show (w.heap.push A)[i]? = _
  rw [Array.getElem?_push, if_neg (by omega)]
theorem fst_ {w w1 : World} {A : Obj} (hb : Below (w.alloc A).heap.size (w.alloc A) w1) : w1.heap[w.heap.size]? = some A := by
  rw [hb.block w.heap.size (by rw [size_alloc_]; omega)]
  show (w.heap.push A)[w.heap.size]? = _
  rw [Array.getElem?_push, if_pos rfl]
set_option maxRecDepth 100000 in
set_option maxHeartbeats 1600000 in
theorem parse_one0 (s x y : ByteArray) (vn vd : Int) (t : ByteArray) (hC : strings_Cut.f s ⟨#[47]⟩ = some (x, y, false)) (hx : x.size ≤ 140737488355328) (hy : y.size ≤ 140737488355328) (hA : atoiV x.data.toList = vn) (hV : fraction_Valid.f vn 1 = some false) (w : World) (hGL : GL w) :
    Calls Tryd.prog 35 #[.string s] w fun e w' => e = .returned (.tuple #[.agg #[.int .i64 (0), .int .i64 (0)], .int .i64 (5)]) ∧ Below w.heap.size w w' := by
  have XC := Lib.hid hC
  have XA := Lib.hid hA
  have XV := Lib.hid hV
  have XG := Lib.hid hGL
  clear hC hA hV hGL
  go_enter Tryd.func35, Tryd.ntmps35
  go_wp2_with fail
  refine (strings_Cut.calls s ⟨#[47]⟩ x y false _ XC.out).mono ?_
  rintro e w1 ⟨rfl, hb1⟩
  have R1 := fst_ hb1
  have B1 : Below w.heap.size w w1 := below_step (below_alloc (Below.refl _ _) _) hb1
  clear hb1
  have hg1 : w.heap.size < w1.heap.size := (Array.getElem?_eq_some_iff.1 R1).1
  go_wp2_with fail
  refine (atoi_any x _ hx (XG.out.below (below_alloc B1 _)) vn XA.out).mono ?_
  rintro e w2 ⟨u1, rfl, hb2⟩
  have A2 := fst_ hb2
  have R2 : w2.heap[w.heap.size]? = _ := (hb2.block w.heap.size (by rw [size_alloc_]; omega)).trans ((old_ _ hg1).trans R1)
  have B2 : Below w.heap.size w w2 := below_step (below_alloc B1 _) hb2
  have hg2 : w1.heap.size < w2.heap.size := (Array.getElem?_eq_some_iff.1 A2).1
  clear hb2 R1
  have zA20 := (blk_cell A2 0).trans rfl
  have fA20 := blk_frozen A2 0
  have zA21 := (blk_cell A2 1).trans rfl
  have fA21 := blk_frozen A2 1
  go_wp2_with fail
  refine (fraction_Valid.calls vn 1 false _ XV.out).mono ?_
  rintro e w5 ⟨rfl, hb5⟩
  have A5 : w5.heap[w1.heap.size]? = _ := (hb5.block _ (by rw [size_set_]; omega)).trans (blk_put A2 0 (.int .i64 vn) rfl)
  have R5 : w5.heap[w.heap.size]? = _ := (hb5.block _ (by rw [size_set_]; omega)).trans (blk_far R2 (p := ⟨w1.heap.size, 0, none⟩) (by show w.heap.size ≠ w1.heap.size; omega) _)
  have B5 : Below w.heap.size w w5 := below_step (below_set B2 (by omega)) hb5
  have hg5 : w1.heap.size < w5.heap.size := (Array.getElem?_eq_some_iff.1 A5).1
  clear hb5 A2 R2 zA20 zA21 fA20 fA21
  have zA50 := (blk_cell A5 0).trans rfl
  have fA50 := blk_frozen A5 0
  have zA51 := (blk_cell A5 1).trans rfl
  have fA51 := blk_frozen A5 1
  have zR50 := (blk_cell R5 0).trans rfl
  have fR50 := blk_frozen R5 0
  have zR51 := (blk_cell R5 1).trans rfl
  have fR51 := blk_frozen R5 1
  go_wp2
  have hfin := blk_put (blk_put R5 0 (.int .i64 (0)) rfl) 1 (.int .i64 (0)) rfl
  refine bodyPost_ret (results_ct rfl _ _ w.heap.size 25 #[.int .i64 (0), .int .i64 (0)] (0, 0) _ rfl hfin Tryd.underlying25 rfl (by kernel_rfl)) rfl ?_
  exact ⟨rfl, below_set (below_set B5 (Nat.le_refl _)) (Nat.le_refl _)⟩

set_option maxRecDepth 100000 in
set_option maxHeartbeats 1600000 in
theorem parse_one1 (s x y : ByteArray) (vn vd : Int) (t : ByteArray) (hC : strings_Cut.f s ⟨#[47]⟩ = some (x, y, false)) (hx : x.size ≤ 140737488355328) (hy : y.size ≤ 140737488355328) (hA : atoiV x.data.toList = vn) (hV : fraction_Valid.f vn 1 = some true) (hT : fraction_Text.f vn 1 = some t) (hE : (t.toList != s.toList) = true) (hE2 : (t.toList == s.toList) = false) (w : World) (hGL : GL w) :
    Calls Tryd.prog 35 #[.string s] w fun e w' => e = .returned (.tuple #[.agg #[.int .i64 (0), .int .i64 (0)], .int .i64 (5)]) ∧ Below w.heap.size w w' := by
  have XC := Lib.hid hC
  have XA := Lib.hid hA
  have XV := Lib.hid hV
  have XT := Lib.hid hT
  have XG := Lib.hid hGL
  clear hC hA hV hT hGL
  go_enter Tryd.func35, Tryd.ntmps35
  go_wp2_with fail
  refine (strings_Cut.calls s ⟨#[47]⟩ x y false _ XC.out).mono ?_
  rintro e w1 ⟨rfl, hb1⟩
  have R1 := fst_ hb1
  have B1 : Below w.heap.size w w1 := below_step (below_alloc (Below.refl _ _) _) hb1
  clear hb1
  have hg1 : w.heap.size < w1.heap.size := (Array.getElem?_eq_some_iff.1 R1).1
  go_wp2_with fail
  refine (atoi_any x _ hx (XG.out.below (below_alloc B1 _)) vn XA.out).mono ?_
  rintro e w2 ⟨u1, rfl, hb2⟩
  have A2 := fst_ hb2
  have R2 : w2.heap[w.heap.size]? = _ := (hb2.block w.heap.size (by rw [size_alloc_]; omega)).trans ((old_ _ hg1).trans R1)
  have B2 : Below w.heap.size w w2 := below_step (below_alloc B1 _) hb2
  have hg2 : w1.heap.size < w2.heap.size := (Array.getElem?_eq_some_iff.1 A2).1
  clear hb2 R1
  have zA20 := (blk_cell A2 0).trans rfl
  have fA20 := blk_frozen A2 0
  have zA21 := (blk_cell A2 1).trans rfl
  have fA21 := blk_frozen A2 1
  go_wp2_with fail
  refine (fraction_Valid.calls vn 1 true _ XV.out).mono ?_
  rintro e w5 ⟨rfl, hb5⟩
  have A5 : w5.heap[w1.heap.size]? = _ := (hb5.block _ (by rw [size_set_]; omega)).trans (blk_put A2 0 (.int .i64 vn) rfl)
  have R5 : w5.heap[w.heap.size]? = _ := (hb5.block _ (by rw [size_set_]; omega)).trans (blk_far R2 (p := ⟨w1.heap.size, 0, none⟩) (by show w.heap.size ≠ w1.heap.size; omega) _)
  have B5 : Below w.heap.size w w5 := below_step (below_set B2 (by omega)) hb5
  have hg5 : w1.heap.size < w5.heap.size := (Array.getElem?_eq_some_iff.1 A5).1
  clear hb5 A2 R2 zA20 zA21 fA20 fA21
  have zA50 := (blk_cell A5 0).trans rfl
  have fA50 := blk_frozen A5 0
  have zA51 := (blk_cell A5 1).trans rfl
  have fA51 := blk_frozen A5 1
  have zR50 := (blk_cell R5 0).trans rfl
  have fR50 := blk_frozen R5 0
  have zR51 := (blk_cell R5 1).trans rfl
  have fR51 := blk_frozen R5 1
  go_wp2_with fail
  refine (fraction_Text.calls vn 1 t _ (XG.out.below B5) XT.out).mono ?_
  rintro e w6 ⟨rfl, hb6⟩
  have A6 : w6.heap[w1.heap.size]? = _ := (hb6.block _ (by omega)).trans A5
  have R6 : w6.heap[w.heap.size]? = _ := (hb6.block _ (by omega)).trans R5
  have B6 : Below w.heap.size w w6 := below_step B5 hb6
  have hg6 : w1.heap.size < w6.heap.size := (Array.getElem?_eq_some_iff.1 A6).1
  clear hb6 A5 R5 zA50 zA51 fA50 fA51 zR50 zR51 fR50 fR51
  have zA60 := (blk_cell A6 0).trans rfl
  have fA60 := blk_frozen A6 0
  have zA61 := (blk_cell A6 1).trans rfl
  have fA61 := blk_frozen A6 1
  have zR60 := (blk_cell R6 0).trans rfl
  have fR60 := blk_frozen R6 0
  have zR61 := (blk_cell R6 1).trans rfl
  have fR61 := blk_frozen R6 1
  go_wp2
  have hfin := blk_put (blk_put R6 0 (.int .i64 (0)) rfl) 1 (.int .i64 (0)) rfl
  refine bodyPost_ret (results_ct rfl _ _ w.heap.size 25 #[.int .i64 (0), .int .i64 (0)] (0, 0) _ rfl hfin Tryd.underlying25 rfl (by kernel_rfl)) rfl ?_
  exact ⟨rfl, below_set (below_set B6 (Nat.le_refl _)) (Nat.le_refl _)⟩

set_option maxRecDepth 100000 in
set_option maxHeartbeats 1600000 in
theorem parse_one2 (s x y : ByteArray) (vn vd : Int) (t : ByteArray) (hC : strings_Cut.f s ⟨#[47]⟩ = some (x, y, false)) (hx : x.size ≤ 140737488355328) (hy : y.size ≤ 140737488355328) (hA : atoiV x.data.toList = vn) (hV : fraction_Valid.f vn 1 = some true) (hT : fraction_Text.f vn 1 = some t) (hE : (t.toList != s.toList) = false) (hE2 : (t.toList == s.toList) = true) (w : World) (hGL : GL w) :
    Calls Tryd.prog 35 #[.string s] w fun e w' => e = .returned (.tuple #[.agg #[.int .i64 (vn), .int .i64 (1)], .int .i64 (0)]) ∧ Below w.heap.size w w' := by
  have XC := Lib.hid hC
  have XA := Lib.hid hA
  have XV := Lib.hid hV
  have XT := Lib.hid hT
  have XG := Lib.hid hGL
  clear hC hA hV hT hGL
  go_enter Tryd.func35, Tryd.ntmps35
  go_wp2_with fail
  refine (strings_Cut.calls s ⟨#[47]⟩ x y false _ XC.out).mono ?_
  rintro e w1 ⟨rfl, hb1⟩
  have R1 := fst_ hb1
  have B1 : Below w.heap.size w w1 := below_step (below_alloc (Below.refl _ _) _) hb1
  clear hb1
  have hg1 : w.heap.size < w1.heap.size := (Array.getElem?_eq_some_iff.1 R1).1
  go_wp2_with fail
  refine (atoi_any x _ hx (XG.out.below (below_alloc B1 _)) vn XA.out).mono ?_
  rintro e w2 ⟨u1, rfl, hb2⟩
  have A2 := fst_ hb2
  have R2 : w2.heap[w.heap.size]? = _ := (hb2.block w.heap.size (by rw [size_alloc_]; omega)).trans ((old_ _ hg1).trans R1)
  have B2 : Below w.heap.size w w2 := below_step (below_alloc B1 _) hb2
  have hg2 : w1.heap.size < w2.heap.size := (Array.getElem?_eq_some_iff.1 A2).1
  clear hb2 R1
  have zA20 := (blk_cell A2 0).trans rfl
  have fA20 := blk_frozen A2 0
  have zA21 := (blk_cell A2 1).trans rfl
  have fA21 := blk_frozen A2 1
  go_wp2_with fail
  refine (fraction_Valid.calls vn 1 true _ XV.out).mono ?_
  rintro e w5 ⟨rfl, hb5⟩
  have A5 : w5.heap[w1.heap.size]? = _ := (hb5.block _ (by rw [size_set_]; omega)).trans (blk_put A2 0 (.int .i64 vn) rfl)
  have R5 : w5.heap[w.heap.size]? = _ := (hb5.block _ (by rw [size_set_]; omega)).trans (blk_far R2 (p := ⟨w1.heap.size, 0, none⟩) (by show w.heap.size ≠ w1.heap.size; omega) _)
  have B5 : Below w.heap.size w w5 := below_step (below_set B2 (by omega)) hb5
  have hg5 : w1.heap.size < w5.heap.size := (Array.getElem?_eq_some_iff.1 A5).1
  clear hb5 A2 R2 zA20 zA21 fA20 fA21
  have zA50 := (blk_cell A5 0).trans rfl
  have fA50 := blk_frozen A5 0
  have zA51 := (blk_cell A5 1).trans rfl
  have fA51 := blk_frozen A5 1
  have zR50 := (blk_cell R5 0).trans rfl
  have fR50 := blk_frozen R5 0
  have zR51 := (blk_cell R5 1).trans rfl
  have fR51 := blk_frozen R5 1
  go_wp2_with fail
  refine (fraction_Text.calls vn 1 t _ (XG.out.below B5) XT.out).mono ?_
  rintro e w6 ⟨rfl, hb6⟩
  have A6 : w6.heap[w1.heap.size]? = _ := (hb6.block _ (by omega)).trans A5
  have R6 : w6.heap[w.heap.size]? = _ := (hb6.block _ (by omega)).trans R5
  have B6 : Below w.heap.size w w6 := below_step B5 hb6
  have hg6 : w1.heap.size < w6.heap.size := (Array.getElem?_eq_some_iff.1 A6).1
  clear hb6 A5 R5 zA50 zA51 fA50 fA51 zR50 zR51 fR50 fR51
  have zA60 := (blk_cell A6 0).trans rfl
  have fA60 := blk_frozen A6 0
  have zA61 := (blk_cell A6 1).trans rfl
  have fA61 := blk_frozen A6 1
  have zR60 := (blk_cell R6 0).trans rfl
  have fR60 := blk_frozen R6 0
  have zR61 := (blk_cell R6 1).trans rfl
  have fR61 := blk_frozen R6 1
  go_wp2
  have hfin := blk_put (blk_put R6 0 (.int .i64 (vn)) rfl) 1 (.int .i64 (1)) rfl
  refine bodyPost_ret (results_ct rfl _ _ w.heap.size 25 #[.int .i64 (vn), .int .i64 (1)] (0, 0) _ rfl hfin Tryd.underlying25 rfl (by kernel_rfl)) rfl ?_
  exact ⟨rfl, below_set (below_set B6 (Nat.le_refl _)) (Nat.le_refl _)⟩

set_option maxRecDepth 100000 in
set_option maxHeartbeats 1600000 in
theorem parse_two0 (s x y : ByteArray) (vn vd : Int) (t : ByteArray) (hC : strings_Cut.f s ⟨#[47]⟩ = some (x, y, true)) (hx : x.size ≤ 140737488355328) (hy : y.size ≤ 140737488355328) (hA : atoiV x.data.toList = vn) (hD : atoiV y.data.toList = vd) (hV : fraction_Valid.f vn vd = some false) (w : World) (hGL : GL w) :
    Calls Tryd.prog 35 #[.string s] w fun e w' => e = .returned (.tuple #[.agg #[.int .i64 (0), .int .i64 (0)], .int .i64 (5)]) ∧ Below w.heap.size w w' := by
  have XC := Lib.hid hC
  have XA := Lib.hid hA
  have XD := Lib.hid hD
  have XV := Lib.hid hV
  have XG := Lib.hid hGL
  clear hC hA hD hV hGL
  go_enter Tryd.func35, Tryd.ntmps35
  go_wp2_with fail
  refine (strings_Cut.calls s ⟨#[47]⟩ x y true _ XC.out).mono ?_
  rintro e w1 ⟨rfl, hb1⟩
  have R1 := fst_ hb1
  have B1 : Below w.heap.size w w1 := below_step (below_alloc (Below.refl _ _) _) hb1
  clear hb1
  have hg1 : w.heap.size < w1.heap.size := (Array.getElem?_eq_some_iff.1 R1).1
  go_wp2_with fail
  refine (atoi_any x _ hx (XG.out.below (below_alloc B1 _)) vn XA.out).mono ?_
  rintro e w2 ⟨u1, rfl, hb2⟩
  have A2 := fst_ hb2
  have R2 : w2.heap[w.heap.size]? = _ := (hb2.block w.heap.size (by rw [size_alloc_]; omega)).trans ((old_ _ hg1).trans R1)
  have B2 : Below w.heap.size w w2 := below_step (below_alloc B1 _) hb2
  have hg2 : w1.heap.size < w2.heap.size := (Array.getElem?_eq_some_iff.1 A2).1
  clear hb2 R1
  have zA20 := (blk_cell A2 0).trans rfl
  have fA20 := blk_frozen A2 0
  have zA21 := (blk_cell A2 1).trans rfl
  have fA21 := blk_frozen A2 1
  go_wp2_with fail
  refine (atoi_any y _ hy (XG.out.below (below_set B2 (by omega))) vd XD.out).mono ?_
  rintro e w3 ⟨u2, rfl, hb3⟩
  have A3 : w3.heap[w1.heap.size]? = _ := (hb3.block _ (by rw [size_set_]; omega)).trans (blk_put A2 0 (.int .i64 vn) rfl)
  have R3 : w3.heap[w.heap.size]? = _ := (hb3.block _ (by rw [size_set_]; omega)).trans (blk_far R2 (p := ⟨w1.heap.size, 0, none⟩) (by show w.heap.size ≠ w1.heap.size; omega) _)
  have B3 : Below w.heap.size w w3 := below_step (below_set B2 (by omega)) hb3
  have hg3 : w1.heap.size < w3.heap.size := (Array.getElem?_eq_some_iff.1 A3).1
  clear hb3 A2 R2 zA20 zA21 fA20 fA21
  have zA30 := (blk_cell A3 0).trans rfl
  have fA30 := blk_frozen A3 0
  have zA31 := (blk_cell A3 1).trans rfl
  have fA31 := blk_frozen A3 1
  go_wp2_with fail
  refine (fraction_Valid.calls vn vd false _ XV.out).mono ?_
  rintro e w5 ⟨rfl, hb5⟩
  have A5 : w5.heap[w1.heap.size]? = _ := (hb5.block _ (by rw [size_set_]; omega)).trans (blk_put A3 1 (.int .i64 vd) rfl)
  have R5 : w5.heap[w.heap.size]? = _ := (hb5.block _ (by rw [size_set_]; omega)).trans (blk_far R3 (p := ⟨w1.heap.size, 1, none⟩) (by show w.heap.size ≠ w1.heap.size; omega) _)
  have B5 : Below w.heap.size w w5 := below_step (below_set B3 (by omega)) hb5
  have hg5 : w1.heap.size < w5.heap.size := (Array.getElem?_eq_some_iff.1 A5).1
  clear hb5 A3 R3 zA30 zA31 fA30 fA31
  have zA50 := (blk_cell A5 0).trans rfl
  have fA50 := blk_frozen A5 0
  have zA51 := (blk_cell A5 1).trans rfl
  have fA51 := blk_frozen A5 1
  have zR50 := (blk_cell R5 0).trans rfl
  have fR50 := blk_frozen R5 0
  have zR51 := (blk_cell R5 1).trans rfl
  have fR51 := blk_frozen R5 1
  go_wp2
  have hfin := blk_put (blk_put R5 0 (.int .i64 (0)) rfl) 1 (.int .i64 (0)) rfl
  refine bodyPost_ret (results_ct rfl _ _ w.heap.size 25 #[.int .i64 (0), .int .i64 (0)] (0, 0) _ rfl hfin Tryd.underlying25 rfl (by kernel_rfl)) rfl ?_
  exact ⟨rfl, below_set (below_set B5 (Nat.le_refl _)) (Nat.le_refl _)⟩

set_option maxRecDepth 100000 in
set_option maxHeartbeats 1600000 in
theorem parse_two1 (s x y : ByteArray) (vn vd : Int) (t : ByteArray) (hC : strings_Cut.f s ⟨#[47]⟩ = some (x, y, true)) (hx : x.size ≤ 140737488355328) (hy : y.size ≤ 140737488355328) (hA : atoiV x.data.toList = vn) (hD : atoiV y.data.toList = vd) (hV : fraction_Valid.f vn vd = some true) (hT : fraction_Text.f vn vd = some t) (hE : (t.toList != s.toList) = true) (hE2 : (t.toList == s.toList) = false) (w : World) (hGL : GL w) :
    Calls Tryd.prog 35 #[.string s] w fun e w' => e = .returned (.tuple #[.agg #[.int .i64 (0), .int .i64 (0)], .int .i64 (5)]) ∧ Below w.heap.size w w' := by
  have XC := Lib.hid hC
  have XA := Lib.hid hA
  have XD := Lib.hid hD
  have XV := Lib.hid hV
  have XT := Lib.hid hT
  have XG := Lib.hid hGL
  clear hC hA hD hV hT hGL
  go_enter Tryd.func35, Tryd.ntmps35
  go_wp2_with fail
  refine (strings_Cut.calls s ⟨#[47]⟩ x y true _ XC.out).mono ?_
  rintro e w1 ⟨rfl, hb1⟩
  have R1 := fst_ hb1
  have B1 : Below w.heap.size w w1 := below_step (below_alloc (Below.refl _ _) _) hb1
  clear hb1
  have hg1 : w.heap.size < w1.heap.size := (Array.getElem?_eq_some_iff.1 R1).1
  go_wp2_with fail
  refine (atoi_any x _ hx (XG.out.below (below_alloc B1 _)) vn XA.out).mono ?_
  rintro e w2 ⟨u1, rfl, hb2⟩
  have A2 := fst_ hb2
  have R2 : w2.heap[w.heap.size]? = _ := (hb2.block w.heap.size (by rw [size_alloc_]; omega)).trans ((old_ _ hg1).trans R1)
  have B2 : Below w.heap.size w w2 := below_step (below_alloc B1 _) hb2
  have hg2 : w1.heap.size < w2.heap.size := (Array.getElem?_eq_some_iff.1 A2).1
  clear hb2 R1
  have zA20 := (blk_cell A2 0).trans rfl
  have fA20 := blk_frozen A2 0
  have zA21 := (blk_cell A2 1).trans rfl
  have fA21 := blk_frozen A2 1
  go_wp2_with fail
  refine (atoi_any y _ hy (XG.out.below (below_set B2 (by omega))) vd XD.out).mono ?_
  rintro e w3 ⟨u2, rfl, hb3⟩
  have A3 : w3.heap[w1.heap.size]? = _ := (hb3.block _ (by rw [size_set_]; omega)).trans (blk_put A2 0 (.int .i64 vn) rfl)
  have R3 : w3.heap[w.heap.size]? = _ := (hb3.block _ (by rw [size_set_]; omega)).trans (blk_far R2 (p := ⟨w1.heap.size, 0, none⟩) (by show w.heap.size ≠ w1.heap.size; omega) _)
  have B3 : Below w.heap.size w w3 := below_step (below_set B2 (by omega)) hb3
  have hg3 : w1.heap.size < w3.heap.size := (Array.getElem?_eq_some_iff.1 A3).1
  clear hb3 A2 R2 zA20 zA21 fA20 fA21
  have zA30 := (blk_cell A3 0).trans rfl
  have fA30 := blk_frozen A3 0
  have zA31 := (blk_cell A3 1).trans rfl
  have fA31 := blk_frozen A3 1
  go_wp2_with fail
  refine (fraction_Valid.calls vn vd true _ XV.out).mono ?_
  rintro e w5 ⟨rfl, hb5⟩
  have A5 : w5.heap[w1.heap.size]? = _ := (hb5.block _ (by rw [size_set_]; omega)).trans (blk_put A3 1 (.int .i64 vd) rfl)
  have R5 : w5.heap[w.heap.size]? = _ := (hb5.block _ (by rw [size_set_]; omega)).trans (blk_far R3 (p := ⟨w1.heap.size, 1, none⟩) (by show w.heap.size ≠ w1.heap.size; omega) _)
  have B5 : Below w.heap.size w w5 := below_step (below_set B3 (by omega)) hb5
  have hg5 : w1.heap.size < w5.heap.size := (Array.getElem?_eq_some_iff.1 A5).1
  clear hb5 A3 R3 zA30 zA31 fA30 fA31
  have zA50 := (blk_cell A5 0).trans rfl
  have fA50 := blk_frozen A5 0
  have zA51 := (blk_cell A5 1).trans rfl
  have fA51 := blk_frozen A5 1
  have zR50 := (blk_cell R5 0).trans rfl
  have fR50 := blk_frozen R5 0
  have zR51 := (blk_cell R5 1).trans rfl
  have fR51 := blk_frozen R5 1
  go_wp2_with fail
  refine (fraction_Text.calls vn vd t _ (XG.out.below B5) XT.out).mono ?_
  rintro e w6 ⟨rfl, hb6⟩
  have A6 : w6.heap[w1.heap.size]? = _ := (hb6.block _ (by omega)).trans A5
  have R6 : w6.heap[w.heap.size]? = _ := (hb6.block _ (by omega)).trans R5
  have B6 : Below w.heap.size w w6 := below_step B5 hb6
  have hg6 : w1.heap.size < w6.heap.size := (Array.getElem?_eq_some_iff.1 A6).1
  clear hb6 A5 R5 zA50 zA51 fA50 fA51 zR50 zR51 fR50 fR51
  have zA60 := (blk_cell A6 0).trans rfl
  have fA60 := blk_frozen A6 0
  have zA61 := (blk_cell A6 1).trans rfl
  have fA61 := blk_frozen A6 1
  have zR60 := (blk_cell R6 0).trans rfl
  have fR60 := blk_frozen R6 0
  have zR61 := (blk_cell R6 1).trans rfl
  have fR61 := blk_frozen R6 1
  go_wp2
  have hfin := blk_put (blk_put R6 0 (.int .i64 (0)) rfl) 1 (.int .i64 (0)) rfl
  refine bodyPost_ret (results_ct rfl _ _ w.heap.size 25 #[.int .i64 (0), .int .i64 (0)] (0, 0) _ rfl hfin Tryd.underlying25 rfl (by kernel_rfl)) rfl ?_
  exact ⟨rfl, below_set (below_set B6 (Nat.le_refl _)) (Nat.le_refl _)⟩

set_option maxRecDepth 100000 in
set_option maxHeartbeats 1600000 in
theorem parse_two2 (s x y : ByteArray) (vn vd : Int) (t : ByteArray) (hC : strings_Cut.f s ⟨#[47]⟩ = some (x, y, true)) (hx : x.size ≤ 140737488355328) (hy : y.size ≤ 140737488355328) (hA : atoiV x.data.toList = vn) (hD : atoiV y.data.toList = vd) (hV : fraction_Valid.f vn vd = some true) (hT : fraction_Text.f vn vd = some t) (hE : (t.toList != s.toList) = false) (hE2 : (t.toList == s.toList) = true) (w : World) (hGL : GL w) :
    Calls Tryd.prog 35 #[.string s] w fun e w' => e = .returned (.tuple #[.agg #[.int .i64 (vn), .int .i64 (vd)], .int .i64 (0)]) ∧ Below w.heap.size w w' := by
  have XC := Lib.hid hC
  have XA := Lib.hid hA
  have XD := Lib.hid hD
  have XV := Lib.hid hV
  have XT := Lib.hid hT
  have XG := Lib.hid hGL
  clear hC hA hD hV hT hGL
  go_enter Tryd.func35, Tryd.ntmps35
  go_wp2_with fail
  refine (strings_Cut.calls s ⟨#[47]⟩ x y true _ XC.out).mono ?_
  rintro e w1 ⟨rfl, hb1⟩
  have R1 := fst_ hb1
  have B1 : Below w.heap.size w w1 := below_step (below_alloc (Below.refl _ _) _) hb1
  clear hb1
  have hg1 : w.heap.size < w1.heap.size := (Array.getElem?_eq_some_iff.1 R1).1
  go_wp2_with fail
  refine (atoi_any x _ hx (XG.out.below (below_alloc B1 _)) vn XA.out).mono ?_
  rintro e w2 ⟨u1, rfl, hb2⟩
  have A2 := fst_ hb2
  have R2 : w2.heap[w.heap.size]? = _ := (hb2.block w.heap.size (by rw [size_alloc_]; omega)).trans ((old_ _ hg1).trans R1)
  have B2 : Below w.heap.size w w2 := below_step (below_alloc B1 _) hb2
  have hg2 : w1.heap.size < w2.heap.size := (Array.getElem?_eq_some_iff.1 A2).1
  clear hb2 R1
  have zA20 := (blk_cell A2 0).trans rfl
  have fA20 := blk_frozen A2 0
  have zA21 := (blk_cell A2 1).trans rfl
  have fA21 := blk_frozen A2 1
  go_wp2_with fail
  refine (atoi_any y _ hy (XG.out.below (below_set B2 (by omega))) vd XD.out).mono ?_
  rintro e w3 ⟨u2, rfl, hb3⟩
  have A3 : w3.heap[w1.heap.size]? = _ := (hb3.block _ (by rw [size_set_]; omega)).trans (blk_put A2 0 (.int .i64 vn) rfl)
  have R3 : w3.heap[w.heap.size]? = _ := (hb3.block _ (by rw [size_set_]; omega)).trans (blk_far R2 (p := ⟨w1.heap.size, 0, none⟩) (by show w.heap.size ≠ w1.heap.size; omega) _)
  have B3 : Below w.heap.size w w3 := below_step (below_set B2 (by omega)) hb3
  have hg3 : w1.heap.size < w3.heap.size := (Array.getElem?_eq_some_iff.1 A3).1
  clear hb3 A2 R2 zA20 zA21 fA20 fA21
  have zA30 := (blk_cell A3 0).trans rfl
  have fA30 := blk_frozen A3 0
  have zA31 := (blk_cell A3 1).trans rfl
  have fA31 := blk_frozen A3 1
  go_wp2_with fail
  refine (fraction_Valid.calls vn vd true _ XV.out).mono ?_
  rintro e w5 ⟨rfl, hb5⟩
  have A5 : w5.heap[w1.heap.size]? = _ := (hb5.block _ (by rw [size_set_]; omega)).trans (blk_put A3 1 (.int .i64 vd) rfl)
  have R5 : w5.heap[w.heap.size]? = _ := (hb5.block _ (by rw [size_set_]; omega)).trans (blk_far R3 (p := ⟨w1.heap.size, 1, none⟩) (by show w.heap.size ≠ w1.heap.size; omega) _)
  have B5 : Below w.heap.size w w5 := below_step (below_set B3 (by omega)) hb5
  have hg5 : w1.heap.size < w5.heap.size := (Array.getElem?_eq_some_iff.1 A5).1
  clear hb5 A3 R3 zA30 zA31 fA30 fA31
  have zA50 := (blk_cell A5 0).trans rfl
  have fA50 := blk_frozen A5 0
  have zA51 := (blk_cell A5 1).trans rfl
  have fA51 := blk_frozen A5 1
  have zR50 := (blk_cell R5 0).trans rfl
  have fR50 := blk_frozen R5 0
  have zR51 := (blk_cell R5 1).trans rfl
  have fR51 := blk_frozen R5 1
  go_wp2_with fail
  refine (fraction_Text.calls vn vd t _ (XG.out.below B5) XT.out).mono ?_
  rintro e w6 ⟨rfl, hb6⟩
  have A6 : w6.heap[w1.heap.size]? = _ := (hb6.block _ (by omega)).trans A5
  have R6 : w6.heap[w.heap.size]? = _ := (hb6.block _ (by omega)).trans R5
  have B6 : Below w.heap.size w w6 := below_step B5 hb6
  have hg6 : w1.heap.size < w6.heap.size := (Array.getElem?_eq_some_iff.1 A6).1
  clear hb6 A5 R5 zA50 zA51 fA50 fA51 zR50 zR51 fR50 fR51
  have zA60 := (blk_cell A6 0).trans rfl
  have fA60 := blk_frozen A6 0
  have zA61 := (blk_cell A6 1).trans rfl
  have fA61 := blk_frozen A6 1
  have zR60 := (blk_cell R6 0).trans rfl
  have fR60 := blk_frozen R6 0
  have zR61 := (blk_cell R6 1).trans rfl
  have fR61 := blk_frozen R6 1
  go_wp2
  have hfin := blk_put (blk_put R6 0 (.int .i64 (vn)) rfl) 1 (.int .i64 (vd)) rfl
  refine bodyPost_ret (results_ct rfl _ _ w.heap.size 25 #[.int .i64 (vn), .int .i64 (vd)] (0, 0) _ rfl hfin Tryd.underlying25 rfl (by kernel_rfl)) rfl ?_
  exact ⟨rfl, below_set (below_set B6 (Nat.le_refl _)) (Nat.le_refl _)⟩

def parseTo (s : ByteArray) (n d : Int) : Option (Int × Int × Int) :=
  (fraction_Valid.f n d).bind fun v => if v = true then (fraction_Text.f n d).bind fun t => (if (t.toList == s.toList) = true then some (n, d, 0) else some (0, 0, 5)) else some (0, 0, 5)
def fraction_Parse.f (a0 : ByteArray) : Option (Int × Int × Int) :=
  (strings_Cut.f a0 ⟨#[47]⟩).bind fun c => if c.1.size ≤ 140737488355328 ∧ c.2.1.size ≤ 140737488355328 then parseTo a0 (atoiV c.1.data.toList) (if c.2.2 = true then atoiV c.2.1.data.toList else 1) else none
theorem fraction_Parse.calls (a0 : ByteArray) (r1 r2 r3 : Int) (w : World) (hGL : GL w) (h : fraction_Parse.f a0 = some (r1, r2, r3)) :
    Calls Tryd.prog 35 #[.string a0] w fun e w' => e = .returned (.tuple #[.agg #[.int .i64 r1, .int .i64 r2], .int .i64 r3]) ∧ Below w.heap.size w w' := by
  unfold fraction_Parse.f at h
  obtain ⟨⟨x, y, b⟩, hC, h⟩ := Option.bind_eq_some_iff.mp h
  by_cases hs : x.size ≤ 140737488355328 ∧ y.size ≤ 140737488355328
  · simp only [if_pos hs] at h
    unfold parseTo at h
    obtain ⟨v, hV, h⟩ := Option.bind_eq_some_iff.mp h
    have hne : ∀ t : ByteArray, ∀ c : Bool, (t.toList == a0.toList) = c → (t.toList != a0.toList) = !c := by
      intro t c hc
      rw [bne, hc]
    cases b with
    | true =>
      simp only [if_true] at hV h
      cases v with
      | false =>
        simp only [Bool.false_eq_true, if_false, Option.some.injEq, Prod.mk.injEq] at h
        obtain ⟨rfl, rfl, rfl⟩ := h
        exact parse_two0 a0 x y _ _ ⟨#[]⟩ hC hs.1 hs.2 rfl rfl hV w hGL
      | true =>
        simp only [if_true] at h
        obtain ⟨t, hT, h⟩ := Option.bind_eq_some_iff.mp h
        cases hE : (t.toList == a0.toList) with
        | true =>
          simp only [hE, if_true, Option.some.injEq, Prod.mk.injEq] at h
          obtain ⟨rfl, rfl, rfl⟩ := h
          exact parse_two2 a0 x y _ _ t hC hs.1 hs.2 rfl rfl hV hT (hne t _ hE) hE w hGL
        | false =>
          simp only [hE, Bool.false_eq_true, if_false, Option.some.injEq, Prod.mk.injEq] at h
          obtain ⟨rfl, rfl, rfl⟩ := h
          exact parse_two1 a0 x y _ _ t hC hs.1 hs.2 rfl rfl hV hT (hne t _ hE) hE w hGL
    | false =>
      simp only [Bool.false_eq_true, if_false] at hV h
      cases v with
      | false =>
        simp only [Bool.false_eq_true, if_false, Option.some.injEq, Prod.mk.injEq] at h
        obtain ⟨rfl, rfl, rfl⟩ := h
        exact parse_one0 a0 x y _ 1 ⟨#[]⟩ hC hs.1 hs.2 rfl hV w hGL
      | true =>
        simp only [if_true] at h
        obtain ⟨t, hT, h⟩ := Option.bind_eq_some_iff.mp h
        cases hE : (t.toList == a0.toList) with
        | true =>
          simp only [hE, if_true, Option.some.injEq, Prod.mk.injEq] at h
          obtain ⟨rfl, rfl, rfl⟩ := h
          exact parse_one2 a0 x y _ 1 t hC hs.1 hs.2 rfl hV hT (hne t _ hE) hE w hGL
        | false =>
          simp only [hE, Bool.false_eq_true, if_false, Option.some.injEq, Prod.mk.injEq] at h
          obtain ⟨rfl, rfl, rfl⟩ := h
          exact parse_one1 a0 x y _ 1 t hC hs.1 hs.2 rfl hV hT (hne t _ hE) hE w hGL
  · simp only [if_neg hs] at h
    cases h
end Go.Proofs.YtndfjpnpdnnpkaaDoor.F
