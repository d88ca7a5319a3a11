import Derived.Test.YtoongglmgpilfaaDoorWord
import Derived.Test.YtoongglmgpilfaaDoorSign
import Derived.Test.YtoongglmgpilfaaDoorCls
import Derived.Laws.EntriesVeiled
namespace Go.Proofs.YtoongglmgpilfaaDoor.L
set_option linter.unusedVariables false
set_option linter.unusedSimpArgs false
open Go.RowKit Go.Proofs.YtoongglmgpilfaaDoorW.PrintWords Go.Proofs.YtoongglmgpilfaaDoorW.PrintLast

set_option maxRecDepth 100000 in
set_option maxHeartbeats 1600000 in
theorem lex_big (s : ByteArray) (w : World) (h : 8000 < s.size) :
    Calls Tryd.prog 26 #[.string s] w fun e w' => e = .returned (.tuple #[.slice none 0 0, .int .i64 0, .int .i64 2]) ∧ w' = w := by
  have hd : decide ((8000 : Int) < (s.size : Int)) = true := decide_eq_true (by omega)
  go_enter Tryd.func26, Tryd.ntmps26
  go_wp2
  go_step3
  go_wp2
  rw [Exit.noGoto_ret]
  go_ret3
  exact ⟨rfl, rfl⟩

/-- how many bytes from an offset on are letters or digits -/
def wdF (s : ByteArray) (p : Int) : Nat → Int → Int
  | 0, n => n
  | f + 1, n => if isR s (p + n) [1, 2] = true then wdF s p f (n + 1) else n
def wdN (s : ByteArray) (p : Int) : Int := wdF s p s.size 0
theorem isR_lt {s : ByteArray} {q : Int} {cl : List Int} (h : isR s q cl = true) : q < s.size := by
  unfold isR at h
  simp at h
  exact h.1
theorem wdF_spec (s : ByteArray) (p : Int) : ∀ (f : Nat) (n : Int), 0 ≤ n → (s.size : Int) ≤ p + n + f → p + n ≤ s.size → (∀ k : Int, 0 ≤ k → k < n → isR s (p + k) [1, 2] = true) →
    (∀ k : Int, 0 ≤ k → k < wdF s p f n → isR s (p + k) [1, 2] = true) ∧ isR s (p + wdF s p f n) [1, 2] = false ∧ 0 ≤ wdF s p f n ∧ p + wdF s p f n ≤ s.size := by
  intro f
  induction f with
  | zero =>
    intro n h0 h1 h2 hk
    refine ⟨hk, ?_, h0, h2⟩
    show isR s (p + n) [1, 2] = false
    have : ¬ (p + n < (s.size : Int)) := by omega
    simp [isR, this]
  | succ f ih =>
    intro n h0 h1 h2 hk
    unfold wdF
    by_cases h : isR s (p + n) [1, 2] = true
    · rw [if_pos h]
      have := isR_lt h
      refine ih (n + 1) (by omega) (by omega) (by omega) (fun k k0 k1 => ?_)
      by_cases e : k = n
      · subst e; exact h
      · exact hk k k0 (by omega)
    · rw [if_neg h]
      exact ⟨hk, by simpa using h, h0, h2⟩
theorem wdN_spec (s : ByteArray) (p : Int) (hp : 0 ≤ p) (h : p ≤ s.size) :
    (∀ k : Int, 0 ≤ k → k < wdN s p → isR s (p + k) [1, 2] = true) ∧ isR s (p + wdN s p) [1, 2] = false ∧ 0 ≤ wdN s p ∧ p + wdN s p ≤ s.size :=
  wdF_spec s p s.size 0 (by omega) (by omega) (by omega) (fun k k0 k1 => by omega)

/-- the kind of the letters and digits at an offset -/
def wdK (s : ByteArray) (p : Int) : Int := wk (s.extract p.toNat (p + wdN s p).toNat).data.toList
/-- is there white space or a comment -/
def spB (s : ByteArray) (p : Int) : Bool := isR s p [3] || Lib.hasPrefix (rest s p) [47, 47]

theorem word_any (B : Nat) (w0 : World) (hG : Hid (∀ W : World, Below B w0 W → GL W)) (g : Nat) (X : Option (Array Value)) (s : ByteArray) (p : Int) (toks : List S39) (w : World) (hp : 0 ≤ p) (hpn : p ≤ s.size) (hs : s.size ≤ 140737488351232) (hl : toks.length ≤ 1000000) (H : Scn B w0 g X s p toks w) (b : Bool) (hb : (wdK s p != 0) = b) (q : Int) (tk : List S39)
    (h1 : wdK s p = 0 → q = p ∧ tk = toks) (h2 : wdK s p ≠ 0 → q = p + wdN s p ∧ tk = toks ++ [⟨wdK s p, s.extract p.toNat (p + wdN s p).toNat, p⟩]) :
    Calls Tryd.prog 31 #[.pointer (some ⟨g, 0, none⟩)] w fun e w' => e = .returned (.bool b) ∧ Scn B w0 g X s q tk w' := by
  obtain ⟨s1, s2, s3, s4⟩ := wdN_spec s p hp hpn
  refine (word_row B w0 hG g X s p toks w hp hpn hs hl H (wdN s p) s1 s2 s3 s4 _ rfl).mono ?_
  rintro e w' ⟨rfl, H'⟩
  change Scn B w0 g X s (if wdK s p = 0 then p else p + wdN s p) (if wdK s p = 0 then toks else toks ++ [⟨wdK s p, s.extract p.toNat (p + wdN s p).toNat, p⟩]) w' at H'
  refine ⟨ret_bool hb, ?_⟩
  by_cases hz : wdK s p = 0
  · obtain ⟨rfl, rfl⟩ := h1 hz
    rw [if_pos hz, if_pos hz] at H'
    exact H'
  · obtain ⟨rfl, rfl⟩ := h2 hz
    rw [if_neg hz, if_neg hz] at H'
    exact H'
theorem sign_k (B : Nat) (w0 : World) (g : Nat) (X : Option (Array Value)) (s : ByteArray) (p : Int) (toks : List S39) (w : World) (hp : 0 ≤ p) (hpn : p ≤ s.size) (hs : s.size ≤ 140737488351232) (hl : toks.length ≤ 1000000) (H : Scn B w0 g X s p toks w) (b : Bool) (hb : (sgN s p != 0) = b) (q : Int) (tk : List S39)
    (h1 : sgN s p = 0 → q = p ∧ tk = toks) (h2 : sgN s p ≠ 0 → q = p + sgN s p ∧ tk = toks ++ [⟨3, s.extract p.toNat (p + sgN s p).toNat, p⟩]) :
    Calls Tryd.prog 32 #[.pointer (some ⟨g, 0, none⟩)] w fun e w' => e = .returned (.bool b) ∧ Scn B w0 g X s q tk w' :=
  sign_row B w0 g X s p toks w hp hpn hs hl H b q tk
    (Lib.hid (fun n h hn => by subst h; exact ⟨by rw [← hb]; simpa using hn, (h2 hn).1, (h2 hn).2⟩))
    (Lib.hid (fun h => ⟨by rw [← hb, h]; rfl, (h1 h).1, (h1 h).2⟩))
theorem space_k (B : Nat) (w0 : World) (g : Nat) (X : Option (Array Value)) (s : ByteArray) (p : Int) (toks : List S39) (w : World) (hp : 0 ≤ p) (hpn : p < s.size) (hs : s.size ≤ 140737488351232) (H : Scn B w0 g X s p toks w) (b : Bool) (hb : spB s p = b) (q : Int) (hq : p + spN s p = q) :
    Calls Tryd.prog 36 #[.pointer (some ⟨g, 0, none⟩)] w fun e w' => e = .returned (.bool b) ∧ Scn B w0 g X s q toks w' := by
  subst hb
  subst hq
  exact space_any B w0 g X s p toks w hp hpn hs H

theorem spN_no (s : ByteArray) (p : Int) (h : spB s p = false) : p + spN s p = p := by
  unfold spB at h
  simp only [Bool.or_eq_false_iff] at h
  unfold spN
  rw [if_neg (by simp [h.1]), if_neg (by simp [h.2])]
  omega
theorem wdN_pos (s : ByteArray) (p : Int) (hp : 0 ≤ p) (hpn : p ≤ s.size) (h : wdK s p ≠ 0) : 1 ≤ wdN s p := by
  obtain ⟨_, _, h3, _⟩ := wdN_spec s p hp hpn
  by_cases e : wdN s p = 0
  · exfalso
    apply h
    unfold wdK
    rw [e, show (s.extract p.toNat (p + 0).toNat).data.toList = [] by simp [ByteArray.data_extract, show p.toNat ≤ (p + 0).toNat by omega]]
    rfl
  · omega

theorem sgN_range (s : ByteArray) (p : Int) (hp : 0 ≤ p) (hpn : p < s.size) : 0 ≤ sgN s p ∧ p + sgN s p ≤ s.size := by
  unfold sgN
  have h3 := rest_length s p hp (by omega)
  split
  · rename_i h
    have := hasPrefix_two h
    omega
  · split
    · rename_i h
      have := hasPrefix_two h
      omega
    · split <;> omega
/-- Lex, as Go's text has it. -/
def lxF (s : ByteArray) : Nat → Int → List S39 → Option (List S39 × Int × Int)
  | 0, _, _ => none
  | f + 1, p, toks =>
    if p < (s.size : Int) then
      if spB s p = true then lxF s f (p + spN s p) toks
      else if wdK s p ≠ 0 then lxF s f (p + wdN s p) (toks ++ [⟨wdK s p, s.extract p.toNat (p + wdN s p).toNat, p⟩])
      else if sgN s p ≠ 0 then lxF s f (p + sgN s p) (toks ++ [⟨3, s.extract p.toNat (p + sgN s p).toNat, p⟩])
      else some ([], p, 5)
    else some (toks ++ [⟨4, s.extract p.toNat (p + 0).toNat, p⟩], 0, 0)

theorem scn_new (s : ByteArray) (w w1 : World) (hb1 : Below w.heap.size w w1) (cs : Array Value) :
    Scn w.heap.size w w1.heap.size (some cs) s 0 [] ((w1.alloc (.cells (scnCells s 0 (.slice none 0 0)) 57)).alloc (.cells cs 61)) :=
  ⟨⟨.slice none 0 0, heap_alloc2_old _ _ _, own_nil _ _ _ _⟩, (hb1.alloc hb1.size _).alloc (by simp; have := hb1.size; omega) _, hb1.size, fun c h => by cases h; exact heap_alloc2_new _ _ _⟩

theorem reps_tok {w : World} {base : Nat} {ok : Nat → Prop} (l : List S39) : Reps (k39.M w base ok) 3 l (tokCells l) := by
  induction l with
  | nil => exact Reps.none _ _
  | cons t l ih => exact Reps.front (k39_mkM _ _ _ t) rfl ih (by simp [tokCells])
theorem tok_R {w : World} {base : Nat} {tv : Value} {toks : List S39} (h : w.ownsRow base 39 3 tv toks.length (tokCells toks)) : Kd.R k39 39 w base (fun _ => True) tv toks :=
  ⟨fun _ _ => trivial, _, h, reps_tok toks⟩

set_option maxRecDepth 100000 in
set_option maxHeartbeats 4000000 in
theorem lex_row (s : ByteArray) (w : World) (h : s.size ≤ 8000) (hGL : GL w) (k : Nat) (r : List S39) (r2 r3 : Int) (hr : lxF s k 0 [] = some (r, r2, r3)) :
    Calls Tryd.prog 26 #[.string s] w fun e w' => ∃ v, e = .returned (.tuple #[v, .int .i64 r2, .int .i64 r3]) ∧ Kd.R k39 39 w' w.heap.size (fun _ => True) v r ∧ Below w.heap.size w w' := by
  have hd : decide ((8000 : Int) < (s.size : Int)) = false := decide_eq_false (by omega)
  have HR := Lib.hid hr
  have hG : Hid (∀ W : World, Below w.heap.size w W → GL W) := Lib.hid (fun W hb => hGL.below hb)
  clear hr hGL
  go_enter Tryd.func26, Tryd.ntmps26
  go_wp2
  go_step3
  go_wp2_with fail
  refine (classOf_any _).mono ?_
  rintro e w1 ⟨rfl, hb1⟩
  obtain ⟨CA, hCA⟩ : ∃ CA, clsCells.toArray = CA := ⟨_, rfl⟩
  rw [hCA]
  have hsz : CA.size = 256 := by rw [← hCA]; simp [clsCells]
  go_wp2_with fail
  generalize hF : Array.foldl _ (Tryd.zeroCells57.setIfInBounds 0 (Value.string s)) CA.zipIdx _ _ = SC
  have hSC : SC = scnCells s 0 (.slice none 0 0) := by
    subst hF
    subst hCA
    kernel_rfl
  clear hF hsz hCA
  subst hSC
  go_step3
  have H0 := Lib.hid (scn_new s w w1 hb1 #[.func (.func 36) #[] #[], .func (.func 31) #[] #[], .func (.func 32) #[] #[]])
  generalize w1.heap.size = g at *
  go_wp2_with fail
  go_loopg [] k (fun kq wr => ∃ (p : Int) (toks : List S39), 0 ≤ p ∧ p ≤ s.size ∧ (toks.length : Int) ≤ p ∧ Aside0 (lxF s kq p toks = some (r, r2, r3)) ∧ Scn w.heap.size w g (some #[.func (.func 36) #[] #[], .func (.func 31) #[] #[], .func (.func 32) #[] #[]]) s p toks wr)
  case atStart => exact ⟨0, [], by omega, by omega, by simp, ⟨HR.out⟩, H0.out⟩
  case round =>
    obtain ⟨p, toks, hp0, hp1, hl, HA, HS⟩ := hrel
    obtain ⟨wo, rfl⟩ : ∃ wo : World, wo = wr := ⟨_, rfl⟩
    have hs47 : s.size ≤ 140737488351232 := by omega
    have hl6 : toks.length ≤ 1000000 := by omega
    cases gk with
    | zero => exact absurd HA.out (by simp [lxF])
    | succ k1 =>
      have H := HA.out
      clear HA
      simp only [lxF] at H
      have h1 := HS.c1
      by_cases hlt : p < (s.size : Int)
      · rw [if_pos hlt] at H
        have HH := Lib.hid H
        clear H
        have hsd := Lib.hid (HS.side _ rfl)
        have i0 : ∀ W : World, (Instr.index 61 (.agg #[.func (.func 36) #[] #[], .func (.func 31) #[] #[], .func (.func 32) #[] #[]]) (.int .i64 0)).run Tryd.prog W = .ok (.func (.func 36) #[] #[]) W := fun _ => by kernel_rfl
        have i1 : ∀ W : World, (Instr.index 61 (.agg #[.func (.func 36) #[] #[], .func (.func 31) #[] #[], .func (.func 32) #[] #[]]) (.int .i64 1)).run Tryd.prog W = .ok (.func (.func 31) #[] #[]) W := fun _ => by kernel_rfl
        have i2 : ∀ W : World, (Instr.index 61 (.agg #[.func (.func 36) #[] #[], .func (.func 31) #[] #[], .func (.func 32) #[] #[]]) (.int .i64 2)).run Tryd.prog W = .ok (.func (.func 32) #[] #[]) W := fun _ => by kernel_rfl
        go_wp2_with (refine wpList_load_row rfl 61 _ rfl (g + 1) rfl 61 _ (0, 0) _ hsd.out Tryd.underlying61 rfl (by kernel_rfl) ?_)
        go_loopg [25] 3 (fun kq v wr => ∃ i : Nat, i + kq = 3 ∧ v = .int .i64 i ∧ Scn w.heap.size w g (some #[.func (.func 36) #[] #[], .func (.func 31) #[] #[], .func (.func 32) #[] #[]]) s p toks wr ∧ Hid (1 ≤ i → spB s p = false) ∧ Hid (2 ≤ i → wdK s p = 0) ∧ Hid (3 ≤ i → sgN s p = 0))
        case atStart => exact ⟨0, by omega, rfl, HS, Lib.hid (fun h => by omega), Lib.hid (fun h => by omega), Lib.hid (fun h => by omega)⟩
        case round =>
          obtain ⟨i, hik, rfl, HS1, Q1, Q2, Q3⟩ := hrel
          have HIK := Lib.hid hik
          have hi3 : i ≤ 3 := by omega
          clear hik
          rcases (show i = 0 ∨ i = 1 ∨ i = 2 ∨ i = 3 by omega) with rfl | rfl | rfl | rfl
          · -- 0
            cases hb : spB s p with
            | true =>
              have hn := spN_range s p hp0 hlt
              have HB := Lib.hid hb
              clear hb
              have Hn := Lib.hid HH.out
              clear HH
              go_wp2_with fail
              refine (space_k w.heap.size w g _ s p toks _ hp0 hlt hs47 HS1 true HB.out _ rfl).mono ?_
              rintro e w2 ⟨rfl, H2⟩
              go_wp2
              go_roundg k1
              case rel =>
                have Hn' := Hn.out
                rw [if_pos HB.out] at Hn'
                exact ⟨p + spN s p, toks, by omega, by omega, by omega, ⟨Hn'⟩, H2⟩
              case measure => omega
            | false =>
              have HB := Lib.hid hb
              clear hb
              go_wp2_with fail
              refine (space_k w.heap.size w g _ s p toks _ hp0 hlt hs47 HS1 false HB.out _ (spN_no s p HB.out)).mono ?_
              rintro e w2 ⟨rfl, H2⟩
              go_wp2
              go_roundg 2
              case rel => exact ⟨1, by omega, by rfl, H2, Lib.hid (fun _ => HB.out), Lib.hid (fun h => by omega), Lib.hid (fun h => by omega)⟩
              case measure => (have := HIK.out; omega)
          · -- 1
            have hw0 := wdN_pos s p hp0 hp1
            obtain ⟨_, _, _, hw3⟩ := wdN_spec s p hp0 hp1
            by_cases hz : wdK s p = 0
            · have HB := Lib.hid hz
              clear hz hw0
              go_wp2_with fail
              refine (word_any w.heap.size w hG g _ s p toks _ hp0 hp1 hs47 hl6 HS1 false (by rw [HB.out]; rfl) p toks (fun _ => ⟨rfl, rfl⟩) (fun h => absurd HB.out h)).mono ?_
              rintro e w2 ⟨rfl, H2⟩
              go_wp2
              go_roundg 1
              case rel => exact ⟨2, by omega, by rfl, H2, Lib.hid (fun _ => Q1.out (by omega)), Lib.hid (fun _ => HB.out), Lib.hid (fun h => by omega)⟩
              case measure => (have := HIK.out; omega)
            · have hw1 := hw0 hz
              have HB := Lib.hid hz
              clear hz hw0
              have Hn := Lib.hid HH.out
              clear HH
              go_wp2_with fail
              refine (word_any w.heap.size w hG g _ s p toks _ hp0 hp1 hs47 hl6 HS1 true (by simpa using HB.out) _ _ (fun h => absurd h HB.out) (fun _ => ⟨rfl, rfl⟩)).mono ?_
              rintro e w2 ⟨rfl, H2⟩
              go_wp2
              go_roundg k1
              case rel =>
                have Hn' := Hn.out
                rw [if_neg (by rw [Q1.out (by omega)]; decide), if_pos HB.out] at Hn'
                exact ⟨p + wdN s p, _, by omega, by omega, by rw [List.length_append]; simp only [List.length_cons, List.length_nil]; omega, ⟨Hn'⟩, H2⟩
              case measure => omega
          · -- 2
            have hw0 := sgN_range s p hp0 hlt
            by_cases hz : sgN s p = 0
            · have HB := Lib.hid hz
              clear hz hw0
              go_wp2_with fail
              refine (sign_k w.heap.size w g _ s p toks _ hp0 hp1 hs47 hl6 HS1 false (by rw [HB.out]; rfl) p toks (fun _ => ⟨rfl, rfl⟩) (fun h => absurd HB.out h)).mono ?_
              rintro e w2 ⟨rfl, H2⟩
              go_wp2
              go_roundg 0
              case rel => exact ⟨3, by omega, by rfl, H2, Lib.hid (fun _ => Q1.out (by omega)), Lib.hid (fun _ => Q2.out (by omega)), Lib.hid (fun _ => HB.out)⟩
              case measure => (have := HIK.out; omega)
            · obtain ⟨hw1, hw2⟩ := hw0
              have HB := Lib.hid hz
              have hw1 : 1 ≤ sgN s p := by omega
              clear hz
              have Hn := Lib.hid HH.out
              clear HH
              go_wp2_with fail
              refine (sign_k w.heap.size w g _ s p toks _ hp0 hp1 hs47 hl6 HS1 true (by simpa using HB.out) _ _ (fun h => absurd h HB.out) (fun _ => ⟨rfl, rfl⟩)).mono ?_
              rintro e w2 ⟨rfl, H2⟩
              go_wp2
              go_roundg k1
              case rel =>
                have Hn' := Hn.out
                rw [if_neg (by rw [Q1.out (by omega)]; decide), if_neg (by simpa using Q2.out (by omega)), if_pos HB.out] at Hn'
                exact ⟨p + sgN s p, _, by omega, by omega, by rw [List.length_append]; simp only [List.length_cons, List.length_nil]; omega, ⟨Hn'⟩, H2⟩
              case measure => omega
          · -- 3
            have Hn' := HH.out
            rw [if_neg (by rw [Q1.out (by omega)]; decide), if_neg (by simpa using Q2.out (by omega)), if_neg (by simpa using Q3.out (by omega))] at Hn'
            have Hn := Lib.hid Hn'
            clear Hn' HH
            have h1' := HS1.c1
            go_wp2
            go_quiet (fail)
            go_wp2
            simp only [Option.some.injEq, Prod.mk.injEq] at Hn
            obtain ⟨h4, h5, h6⟩ := Hn.out
            subst h4
            subst h5
            subst h6
            rw [Exit.noGoto_ret]
            go_ret3
            exact ⟨_, rfl, tok_R (own_nil _ _ _ _), (HS1.step (pw_below_drewN (Below.refl _ _) _)).below⟩
      · rw [if_neg hlt] at H
        have hpe : p = s.size := by omega
        simp only [Option.some.injEq, Prod.mk.injEq] at H
        obtain ⟨h4, h5, h6⟩ := H
        subst h4
        subst h5
        subst h6
        have HLT := Lib.hid hlt
        go_wp2_with fail
        refine (take_any w.heap.size w g _ s p 0 4 toks _ hp0 (by omega) (by omega) hs47 hl6 HS).mono ?_
        rintro e w2 ⟨rfl, H2⟩
        obtain ⟨tv, hb258, hown⟩ := H2.ex
        have hbel2 := H2.below
        have h258 := (blk_cell hb258 258).trans (scn_258 _ _ _)
        go_wp2
        rw [Exit.noGoto_ret]
        go_ret3
        exact ⟨_, rfl, tok_R hown, hbel2⟩
end Go.Proofs.YtoongglmgpilfaaDoor.L
