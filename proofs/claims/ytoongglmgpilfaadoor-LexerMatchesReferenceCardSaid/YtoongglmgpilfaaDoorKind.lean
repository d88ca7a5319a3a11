import Derived.Test.YtoongglmgpilfaaDoorLex
namespace Go.Proofs.YtoongglmgpilfaaDoor.L
set_option linter.unusedVariables false
set_option linter.unusedSimpArgs false
open Go.RowKit Go.Proofs.YtoongglmgpilfaaDoorW.PrintWords Go.Proofs.YtoongglmgpilfaaDoorW.PrintLast

/-- Kind, as Go's text has it. -/
def kdF (s : ByteArray) : Int :=
  if wdK s 0 ≠ 0 ∧ wdN s 0 = s.size then wdK s 0 else if sgN s 0 ≠ 0 ∧ sgN s 0 = s.size then 3 else 0

theorem scn_one (s : ByteArray) (B : Nat) (w0 w : World) (hb : Below B w0 w) (hB : B ≤ w.heap.size) : Scn B w0 w.heap.size none s 0 [] (w.alloc (.cells (scnCells s 0 (.slice none 0 0)) 57)) :=
  ⟨⟨.slice none 0 0, heap_alloc_new _ _, own_nil _ _ _ _⟩, hb.alloc hB _, hB, fun cs h => by cases h⟩

set_option maxRecDepth 100000 in
set_option maxHeartbeats 4000000 in
theorem kind_row (s : ByteArray) (w : World) (h : s.size ≤ 140737488351232) (hGL : GL w) (r : Int) (hr : kdF s = r) :
    Calls Tryd.prog 16 #[.string s] w fun e w' => e = .returned (.int .i64 r) ∧ Below w.heap.size w w' := by
  have HR := Lib.hid hr
  have hG : Hid (∀ W : World, Below w.heap.size w W → GL W) := Lib.hid (fun W hb => hGL.below hb)
  clear hr hGL
  go_enter Tryd.func16, Tryd.ntmps16
  go_wp2_with fail
  have i0 : ∀ W : World, (Instr.index 53 (.agg #[.func (.func 31) #[] #[], .func (.func 32) #[] #[]]) (.int .i64 0)).run Tryd.prog W = .ok (.func (.func 31) #[] #[]) W := fun _ => by kernel_rfl
  have i1 : ∀ W : World, (Instr.index 53 (.agg #[.func (.func 31) #[] #[], .func (.func 32) #[] #[]]) (.int .i64 1)).run Tryd.prog W = .ok (.func (.func 32) #[] #[]) W := fun _ => by kernel_rfl
  go_loopg [7] 2 (fun kq v wr => ∃ i : Nat, i + kq = 2 ∧ v = .int .i64 i ∧ Below w.heap.size w wr ∧ w.heap.size ≤ wr.heap.size ∧ Hid (1 ≤ i → ¬ (wdK s 0 ≠ 0 ∧ wdN s 0 = s.size)) ∧ Hid (2 ≤ i → ¬ (sgN s 0 ≠ 0 ∧ sgN s 0 = s.size)))
  case atStart => exact ⟨0, by omega, rfl, Below.refl _ _, by omega, Lib.hid (fun h => by omega), Lib.hid (fun h => by omega)⟩
  case round =>
    obtain ⟨i, hik, rfl, HB1, HB2, Q1, Q2⟩ := hrel
    have HIK := Lib.hid hik
    have hi3 : i ≤ 2 := by omega
    clear hik
    rcases (show i = 0 ∨ i = 1 ∨ i = 2 by omega) with rfl | rfl | rfl
    · go_wp2_with fail
      refine (classOf_any _).mono ?_
      rintro e w1 ⟨rfl, hb1⟩
      have hb2 : Below w.heap.size w w1 := below_then HB1 HB2 hb1
      have hs1 := hb1.size
      have hs2 : w.heap.size ≤ w1.heap.size := by omega
      clear hb1 hs1
      obtain ⟨CA, hCA⟩ : ∃ CA, clsCells.toArray = CA := ⟨_, rfl⟩
      rw [hCA]
      have hsz : CA.size = 256 := by rw [← hCA]; simp [clsCells]
      go_wp2_with fail
      generalize hF : Array.foldl _ (Tryd.zeroCells57.setIfInBounds 0 (Value.string s)) CA.zipIdx _ _ = SC
      have hSC : SC = scnCells s 0 (.slice none 0 0) := by
        subst hF
        subst hCA
        kernel_rfl
      clear hF hsz hCA
      subst hSC
      have H0 := scn_one s w.heap.size w w1 hb2 hs2
      generalize w1.heap.size = g at *
      obtain ⟨_, _, hw2, hw3⟩ := wdN_spec s 0 (by omega) (by omega)
      by_cases hz : wdK s 0 = 0
      · have HB := Lib.hid hz
        clear hz
        refine (word_any w.heap.size w hG g none s 0 [] _ (by omega) (by omega) h (by simp) H0 false (by rw [HB.out]; rfl) 0 [] (fun _ => ⟨rfl, rfl⟩) (fun h => absurd HB.out h)).mono ?_
        rintro e w2 ⟨rfl, H2⟩
        have hbel := H2.below
        have hgl := H2.lt
        go_wp2
        go_roundg 1
        case rel => exact ⟨1, by omega, by rfl, hbel, by omega, Lib.hid (fun _ => by rw [HB.out]; simp), Lib.hid (fun h => by omega)⟩
        case measure => (have := HIK.out; omega)
      · by_cases hn : wdN s 0 = s.size
        · have HB := Lib.hid hz
          have HN := Lib.hid hn
          have hne : (wdN s 0 == (s.size : Int)) = true := by rw [hn]; exact beq_self_eq_true _
          clear hz hn
          refine (word_any w.heap.size w hG g none s 0 [] _ (by omega) (by omega) h (by simp) H0 true (by simpa using HB.out) (wdN s 0) _ (fun h => absurd h HB.out) (fun _ => ⟨(Int.zero_add _).symm, rfl⟩)).mono ?_
          rintro e w2 ⟨rfl, H2⟩
          have hbel := H2.below
          have hgl := H2.lt
          have h1 := H2.c1
          obtain ⟨tv, hb258, hown⟩ := H2.ex
          have h258 := (blk_cell hb258 258).trans (scn_258 _ _ _)
          obtain ⟨A, c, rfl, hlc, hC⟩ := Kd.R_reads (tok_R hown)
          obtain ⟨ad, rfl, hk0, _, _⟩ := at_T39 hC 0 (by omega) (by simp)
          have hk : w2.cell? ad = some (.int .i64 (wdK s 0)) := by simpa [rd_T39, Addr.add] using hk0
          clear hk0 hC hown hb258 H2
          go_wp2
          go_ret
          have hr := HR.out
          unfold kdF at hr
          rw [if_pos ⟨HB.out, HN.out⟩] at hr
          rw [hr]
          exact ⟨rfl, hbel⟩
        · have HB := Lib.hid hz
          have HN := Lib.hid hn
          have hne : (wdN s 0 == (s.size : Int)) = false := by simpa using hn
          clear hz hn
          refine (word_any w.heap.size w hG g none s 0 [] _ (by omega) (by omega) h (by simp) H0 true (by simpa using HB.out) (wdN s 0) _ (fun h => absurd h HB.out) (fun _ => ⟨(Int.zero_add _).symm, rfl⟩)).mono ?_
          rintro e w2 ⟨rfl, H2⟩
          have hbel := H2.below
          have hgl := H2.lt
          have h1 := H2.c1
          go_wp2
          go_roundg 1
          case rel => exact ⟨1, by omega, by rfl, hbel, by omega, Lib.hid (fun _ => fun hh => HN.out hh.2), Lib.hid (fun h => by omega)⟩
          case measure => (have := HIK.out; omega)
    · go_wp2_with fail
      refine (classOf_any _).mono ?_
      rintro e w1 ⟨rfl, hb1⟩
      have hb2 : Below w.heap.size w w1 := below_then HB1 HB2 hb1
      have hs1 := hb1.size
      have hs2 : w.heap.size ≤ w1.heap.size := by omega
      clear hb1 hs1
      obtain ⟨CA, hCA⟩ : ∃ CA, clsCells.toArray = CA := ⟨_, rfl⟩
      rw [hCA]
      have hsz : CA.size = 256 := by rw [← hCA]; simp [clsCells]
      go_wp2_with fail
      generalize hF : Array.foldl _ (Tryd.zeroCells57.setIfInBounds 0 (Value.string s)) CA.zipIdx _ _ = SC
      have hSC : SC = scnCells s 0 (.slice none 0 0) := by
        subst hF
        subst hCA
        kernel_rfl
      clear hF hsz hCA
      subst hSC
      have H0 := scn_one s w.heap.size w w1 hb2 hs2
      generalize w1.heap.size = g at *
      by_cases hz : sgN s 0 = 0
      · have HB := Lib.hid hz
        clear hz
        refine (sign_k w.heap.size w g none s 0 [] _ (by omega) (by omega) h (by simp) H0 false (by rw [HB.out]; rfl) 0 [] (fun _ => ⟨rfl, rfl⟩) (fun h => absurd HB.out h)).mono ?_
        rintro e w2 ⟨rfl, H2⟩
        have hbel := H2.below
        have hgl := H2.lt
        go_wp2
        go_roundg 0
        case rel => exact ⟨2, by omega, by rfl, hbel, by omega, Lib.hid (fun _ => Q1.out (by omega)), Lib.hid (fun h => by rw [HB.out]; simp)⟩
        case measure => (have := HIK.out; omega)
      · by_cases hn : sgN s 0 = s.size
        · have HB := Lib.hid hz
          have HN := Lib.hid hn
          have hne : (sgN s 0 == (s.size : Int)) = true := by rw [hn]; exact beq_self_eq_true _
          clear hz hn
          refine (sign_k w.heap.size w g none s 0 [] _ (by omega) (by omega) h (by simp) H0 true (by simpa using HB.out) (sgN s 0) _ (fun h => absurd h HB.out) (fun _ => ⟨(Int.zero_add _).symm, rfl⟩)).mono ?_
          rintro e w2 ⟨rfl, H2⟩
          have hbel := H2.below
          have hgl := H2.lt
          have h1 := H2.c1
          obtain ⟨tv, hb258, hown⟩ := H2.ex
          have h258 := (blk_cell hb258 258).trans (scn_258 _ _ _)
          obtain ⟨A, c, rfl, hlc, hC⟩ := Kd.R_reads (tok_R hown)
          obtain ⟨ad, rfl, hk0, _, _⟩ := at_T39 hC 0 (by omega) (by simp)
          have hk : w2.cell? ad = some (.int .i64 3) := by simpa [rd_T39, Addr.add] using hk0
          clear hk0 hC hown hb258 H2
          go_wp2
          go_ret
          have hr := HR.out
          unfold kdF at hr
          rw [if_neg (Q1.out (by omega)), if_pos ⟨HB.out, HN.out⟩] at hr
          rw [hr]
          exact ⟨rfl, hbel⟩
        · have HB := Lib.hid hz
          have HN := Lib.hid hn
          have hne : (sgN s 0 == (s.size : Int)) = false := by simpa using hn
          clear hz hn
          refine (sign_k w.heap.size w g none s 0 [] _ (by omega) (by omega) h (by simp) H0 true (by simpa using HB.out) (sgN s 0) _ (fun h => absurd h HB.out) (fun _ => ⟨(Int.zero_add _).symm, rfl⟩)).mono ?_
          rintro e w2 ⟨rfl, H2⟩
          have hbel := H2.below
          have hgl := H2.lt
          have h1 := H2.c1
          go_wp2
          go_roundg 0
          case rel => exact ⟨2, by omega, by rfl, hbel, by omega, Lib.hid (fun _ => Q1.out (by omega)), Lib.hid (fun h => fun hh => HN.out hh.2)⟩
          case measure => (have := HIK.out; omega)
    · go_wp2
      go_ret
      have hr := HR.out
      unfold kdF at hr
      rw [if_neg (Q1.out (by omega)), if_neg (Q2.out (by omega))] at hr
      rw [← hr]
      exact ⟨rfl, HB1⟩
end Go.Proofs.YtoongglmgpilfaaDoor.L
