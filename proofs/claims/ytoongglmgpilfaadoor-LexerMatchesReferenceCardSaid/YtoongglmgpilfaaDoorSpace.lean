import Derived.Test.YtoongglmgpilfaaDoorTake
import Derived.Test.YtoongglmgpilfaaDoorShelf
namespace Go.Proofs.YtoongglmgpilfaaDoor.L
set_option linter.unusedSimpArgs false
set_option linter.unusedVariables false
open Go.RowKit Go.Proofs.YtoongglmgpilfaaDoorW.PrintWords Go.Proofs.YtoongglmgpilfaaDoorW.PrintLast

/-- the answer of 'is' -/
def isR (s : ByteArray) (q : Int) (cl : List Int) : Bool := decide (q < (s.size : Int)) && cl.contains (clsI (bt s q))

theorem is_row (B : Nat) (w0 : World) (g : Nat) (X : Option (Array Value)) (s : ByteArray) (p k : Int) (toks : List S39) (cl : List Int) (w : World) (hp : 0 ≤ p) (hk : 0 ≤ k) (hpk : p + k ≤ 140737488351232) (hl : cl.length ≤ 2) (H : Scn B w0 g X s p toks w) :
    Calls Tryd.prog 40 #[.pointer (some ⟨g, 0, none⟩), .int .i64 k, .slice (some ⟨w.heap.size, 0, none⟩) cl.length cl.length] (w.alloc (.cells (cl.map (Value.int .u8)).toArray 5)) fun e w' =>
      e = .returned (.bool (isR s (p + k) cl)) ∧ Scn B w0 g X s p toks w' ∧ Below w.heap.size w w' := by
  have hb : Below w.heap.size w (w.alloc (.cells (cl.map (Value.int .u8)).toArray 5)) := below_alloc (Below.refl _ _) _
  have H1 := H.step hb
  have hR : ReadsInt (w.alloc (.cells (cl.map (Value.int .u8)).toArray 5)) .u8 (some ⟨w.heap.size, 0, none⟩) cl.length cl :=
    readsInt_of.2 (by
      have := own_lit w 0 5 .u8 cl (Nat.zero_le _) (by omega)
      obtain ⟨A, c, e, h⟩ := own_reads this
      injection e with e1 e2 e3
      subst e1
      exact readsInt_of.1 h)
  have fin : ∀ (e : Ending) (w' : World), e = .returned (.bool (isR s (p + k) cl)) ∧ Drawn0 (w.alloc (.cells (cl.map (Value.int .u8)).toArray 5)) w' → e = Ending.returned (.bool (isR s (p + k) cl)) ∧ Scn B w0 g X s p toks w' ∧ Below w.heap.size w w' := by
    rintro e w' ⟨rfl, hd⟩
    exact ⟨rfl, H1.step hd.below, below_step hb hd.below⟩
  by_cases ho : p + k < (s.size : Int)
  · refine (is_in g s p k _ _ cl _ hp hk hpk hl H1.c0 H1.c1 ho H1.cc hR).mono ?_
    rintro e w' ⟨rfl, hd⟩
    exact fin _ _ ⟨ret_bool (by simp [isR, ho]), hd⟩
  · refine (is_out g s p k _ _ hp hk hpk H1.c0 H1.c1 (by omega)).mono ?_
    rintro e w' ⟨rfl, hd⟩
    exact fin _ _ ⟨ret_bool (by simp [isR, ho]), hd⟩

theorem is_one (B : Nat) (w0 : World) (g : Nat) (X : Option (Array Value)) (s : ByteArray) (p k : Int) (toks : List S39) (c : Int) (w : World) (hp : 0 ≤ p) (hk : 0 ≤ k) (hpk : p + k ≤ 140737488351232) (H : Scn B w0 g X s p toks w) (b : Bool) (hb : isR s (p + k) [c] = b) :
    Calls Tryd.prog 40 #[.pointer (some ⟨g, 0, none⟩), .int .i64 k, .slice (some ⟨w.heap.size, 0, none⟩) 1 1] (w.alloc (.cells #[.int .u8 c] 5)) fun e w' =>
      e = .returned (.bool b) ∧ Scn B w0 g X s p toks w' ∧ Below w.heap.size w w' := by
  subst hb
  exact is_row B w0 g X s p k toks [c] w hp hk hpk (by simp) H
theorem is_two (B : Nat) (w0 : World) (g : Nat) (X : Option (Array Value)) (s : ByteArray) (p k : Int) (toks : List S39) (c d : Int) (w : World) (hp : 0 ≤ p) (hk : 0 ≤ k) (hpk : p + k ≤ 140737488351232) (H : Scn B w0 g X s p toks w) (b : Bool) (hb : isR s (p + k) [c, d] = b) :
    Calls Tryd.prog 40 #[.pointer (some ⟨g, 0, none⟩), .int .i64 k, .slice (some ⟨w.heap.size, 0, none⟩) 2 2] (w.alloc (.cells #[.int .u8 c, .int .u8 d] 5)) fun e w' =>
      e = .returned (.bool b) ∧ Scn B w0 g X s p toks w' ∧ Below w.heap.size w w' := by
  subst hb
  exact is_row B w0 g X s p k toks [c, d] w hp hk hpk (by simp) H

set_option maxRecDepth 100000 in
set_option maxHeartbeats 1600000 in
theorem space_white (B : Nat) (w0 : World) (g : Nat) (X : Option (Array Value)) (s : ByteArray) (p : Int) (toks : List S39) (w : World) (hp : 0 ≤ p) (hpn : p < s.size) (hs : s.size ≤ 140737488351232)
    (hc : isR s p [3] = true) (H : Scn B w0 g X s p toks w) :
    Calls Tryd.prog 36 #[.pointer (some ⟨g, 0, none⟩)] w fun e w' => e = .returned (.bool true) ∧ Scn B w0 g X s (p + 1) toks w' := by
  have HC := Lib.hid hc
  clear hc
  go_enter Tryd.func36, Tryd.ntmps36
  go_wp2_with fail
  refine (is_one B w0 g X s p 0 toks 3 w hp (by omega) (by omega) H true (by rw [Int.add_zero]; exact HC.out)).mono ?_
  rintro e w1 ⟨rfl, H1, hb1⟩
  have h1 := H1.c1
  have f1 := H1.f1
  have hs1 : IntKind.i64.wrap (p + 1) = p + 1 := IntWalk.i64_in _ (by omega)
  go_wp2
  go_ret
  exact ⟨rfl, H1.set1 _⟩

/-- what stands from an offset on -/
def rest (s : ByteArray) (p : Int) : List UInt8 := (s.extract p.toNat s.size).data.toList

/-- A quiet call behind draws. -/
theorem quietAgain {P : Program} {f : FuncId} {args : Array Value} {w : World} {a n : Nat} {v : Value} (h : Calls P f args (w.drewN (a + n)) fun e w' => e = .returned v ∧ w' = w.drewN (a + n)) :
    Calls P f args (w.drewN (a + n)) fun e w'' => e = .returned v ∧ ∃ m, w'' = w.drewN (a + m) := h.mono fun _ _ hh => ⟨hh.1, n, hh.2⟩

theorem hasP (s : ByteArray) (p : Int) (x : ByteArray) (b : Bool) (hb : Lib.hasPrefix (rest s p) x.data.toList = b) (w : World) :
    Calls Tryd.prog 42 #[.string (s.extract p.toNat s.size), .string x] w fun e w' => e = .returned (.bool b) ∧ w' = w := by
  subst hb
  exact Tryd.strings_HasPrefix _ _ _
theorem indexB (s : ByteArray) (p : Int) (c : Int) (n : Int) (hn : Lib.indexByte (rest s p) c.toNat.toUInt8 = n) (w : World) :
    Calls Tryd.prog 48 #[.string (s.extract p.toNat s.size), .int .u8 c] w fun e w' => e = .returned (.int .i64 n) ∧ w' = w := by
  subst hn
  exact Tryd.strings_IndexByte _ _ _

set_option maxRecDepth 100000 in
set_option maxHeartbeats 1600000 in
theorem space_no (B : Nat) (w0 : World) (g : Nat) (X : Option (Array Value)) (s : ByteArray) (p : Int) (toks : List S39) (w : World) (hp : 0 ≤ p) (hpn : p < s.size) (hs : s.size ≤ 140737488351232)
    (hc : isR s p [3] = false) (hx : Lib.hasPrefix (rest s p) [47, 47] = false) (H : Scn B w0 g X s p toks w) :
    Calls Tryd.prog 36 #[.pointer (some ⟨g, 0, none⟩)] w fun e w' => e = .returned (.bool false) ∧ Scn B w0 g X s p toks w' := by
  have HC := Lib.hid hc
  have HX := Lib.hid hx
  clear hc hx
  go_enter Tryd.func36, Tryd.ntmps36
  go_wp2_with fail
  refine (is_one B w0 g X s p 0 toks 3 w hp (by omega) (by omega) H false (by rw [Int.add_zero]; exact HC.out)).mono ?_
  rintro e w1 ⟨rfl, H1, hb1⟩
  have h0 := H1.c0
  have h1 := H1.c1
  have hq : p ≤ (s.size : Int) := by omega
  go_wp2
  go_quiet ((go_at_call 42; exact Calls.quiet_of_same (hasP s p _ false HX.out _)))
  go_wp2
  go_ret
  exact ⟨rfl, H1.step (pw_below_drewN (Below.refl _ _) _)⟩

set_option maxRecDepth 100000 in
set_option maxHeartbeats 1600000 in
theorem space_line (B : Nat) (w0 : World) (g : Nat) (X : Option (Array Value)) (s : ByteArray) (p n : Int) (toks : List S39) (w : World) (hp : 0 ≤ p) (hpn : p < s.size) (hs : s.size ≤ 140737488351232)
    (hc : isR s p [3] = false) (hx : Lib.hasPrefix (rest s p) [47, 47] = true) (hn : Lib.indexByte (rest s p) 10 = n) (hn0 : 0 ≤ n) (hn1 : p + n ≤ s.size) (H : Scn B w0 g X s p toks w) :
    Calls Tryd.prog 36 #[.pointer (some ⟨g, 0, none⟩)] w fun e w' => e = .returned (.bool true) ∧ Scn B w0 g X s (p + n) toks w' := by
  have HC := Lib.hid hc
  have HX := Lib.hid hx
  have HN := Lib.hid hn
  clear hc hx hn
  go_enter Tryd.func36, Tryd.ntmps36
  go_wp2_with fail
  refine (is_one B w0 g X s p 0 toks 3 w hp (by omega) (by omega) H false (by rw [Int.add_zero]; exact HC.out)).mono ?_
  rintro e w1 ⟨rfl, H1, hb1⟩
  have h0 := H1.c0
  have h1 := H1.c1
  have f1 := H1.f1
  have hq : p ≤ (s.size : Int) := by omega
  have hsum : IntKind.i64.wrap (p + n) = p + n := IntWalk.i64_in _ (by omega)
  have hneg : decide (n < 0) = false := decide_eq_false (by omega)
  go_wp2
  go_quiet ((go_at_call 42; exact Calls.quiet_of_same (hasP s p _ true HX.out _)))
  go_wp2
  go_quiet ((go_at_call 48; exact quietAgain (indexB s p 10 n HN.out _)))
  go_wp2
  go_ret
  exact ⟨rfl, (H1.set1 _).step (pw_below_drewN (Below.refl _ _) _)⟩

set_option maxRecDepth 100000 in
set_option maxHeartbeats 1600000 in
theorem space_end (B : Nat) (w0 : World) (g : Nat) (X : Option (Array Value)) (s : ByteArray) (p : Int) (toks : List S39) (w : World) (hp : 0 ≤ p) (hpn : p < s.size) (hs : s.size ≤ 140737488351232)
    (hc : isR s p [3] = false) (hx : Lib.hasPrefix (rest s p) [47, 47] = true) (hn : Lib.indexByte (rest s p) 10 = -1) (H : Scn B w0 g X s p toks w) :
    Calls Tryd.prog 36 #[.pointer (some ⟨g, 0, none⟩)] w fun e w' => e = .returned (.bool true) ∧ Scn B w0 g X s s.size toks w' := by
  have HC := Lib.hid hc
  have HX := Lib.hid hx
  have HN := Lib.hid hn
  clear hc hx hn
  go_enter Tryd.func36, Tryd.ntmps36
  go_wp2_with fail
  refine (is_one B w0 g X s p 0 toks 3 w hp (by omega) (by omega) H false (by rw [Int.add_zero]; exact HC.out)).mono ?_
  rintro e w1 ⟨rfl, H1, hb1⟩
  have h0 := H1.c0
  have h1 := H1.c1
  have f1 := H1.f1
  have hq : p ≤ (s.size : Int) := by omega
  have hdiff : IntKind.i64.wrap ((s.size : Int) - p) = (s.size : Int) - p := IntWalk.i64_in _ (by omega)
  go_wp2
  go_quiet ((go_at_call 42; exact Calls.quiet_of_same (hasP s p _ true HX.out _)))
  go_wp2
  go_quiet ((go_at_call 48; exact quietAgain (indexB s p 10 (-1) HN.out _)))
  go_wp2
  go_quiet (fail)
  go_wp2
  go_ret
  have e : p + ((s.size : Int) - p) = s.size := by omega
  have hh : Scn B w0 g X s s.size toks (w1.setCell ⟨g, 1, none⟩ (.int .i64 (p + ((s.size : Int) - p)))) := by
    rw [e]
    exact H1.set1 _
  exact ⟨rfl, hh.step (pw_below_drewN (Below.refl _ _) _)⟩

/-- how many bytes 'space' skips at an offset -/
def spN (s : ByteArray) (p : Int) : Int :=
  if isR s p [3] = true then 1
  else if Lib.hasPrefix (rest s p) [47, 47] = true then (if Lib.indexByte (rest s p) 10 = -1 then s.size - p else Lib.indexByte (rest s p) 10) else 0

theorem indexByte_lt (l : List UInt8) (c : UInt8) : Lib.indexByte l c ≤ l.length := by
  induction l with
  | nil => simp [Lib.indexByte]
  | cons b l ih =>
    unfold Lib.indexByte
    split
    · simp; omega
    · split
      · simp; omega
      · simp; omega
theorem rest_length (s : ByteArray) (p : Int) (hp : 0 ≤ p) (h : p ≤ s.size) : ((rest s p).length : Int) = s.size - p := by
  unfold rest
  rw [Array.length_toList]
  have : (s.extract p.toNat s.size).size = s.size - p.toNat := by simp
  have e : (s.extract p.toNat s.size).data.size = (s.extract p.toNat s.size).size := rfl
  rw [e, this]
  omega
theorem spN_range (s : ByteArray) (p : Int) (hp : 0 ≤ p) (h : p < s.size) : 0 ≤ spN s p ∧ p + spN s p ≤ s.size := by
  unfold spN
  have h1 := indexByte_lt (rest s p) 10
  have h2 := Lib.indexByte_ge (rest s p) 10
  have h3 := rest_length s p hp (by omega)
  split
  · omega
  · split
    · split <;> omega
    · omega

/-- space skips what there is to skip, and tells whether. -/
theorem space_any (B : Nat) (w0 : World) (g : Nat) (X : Option (Array Value)) (s : ByteArray) (p : Int) (toks : List S39) (w : World) (hp : 0 ≤ p) (hpn : p < s.size) (hs : s.size ≤ 140737488351232) (H : Scn B w0 g X s p toks w) :
    Calls Tryd.prog 36 #[.pointer (some ⟨g, 0, none⟩)] w fun e w' => e = .returned (.bool (isR s p [3] || Lib.hasPrefix (rest s p) [47, 47])) ∧ Scn B w0 g X s (p + spN s p) toks w' := by
  have hr := spN_range s p hp hpn
  by_cases hc : isR s p [3] = true
  · have e : spN s p = 1 := by simp [spN, hc]
    rw [e, hc]
    exact space_white B w0 g X s p toks w hp hpn hs hc H
  · have hc' : isR s p [3] = false := by simpa using hc
    by_cases hx : Lib.hasPrefix (rest s p) [47, 47] = true
    · rw [hc', hx]
      by_cases hn : Lib.indexByte (rest s p) 10 = -1
      · have e : p + spN s p = s.size := by simp only [spN, hc, hx, hn, if_true, if_false]; simp; omega
        rw [e]
        exact space_end B w0 g X s p toks w hp hpn hs hc' hx hn H
      · have e : spN s p = Lib.indexByte (rest s p) 10 := by simp [spN, hc, hx, hn]
        have h2 := Lib.indexByte_ge (rest s p) 10
        rw [e] at hr ⊢
        exact space_line B w0 g X s p _ toks w hp hpn hs hc' hx rfl (by omega) hr.2 H
    · have hx' : Lib.hasPrefix (rest s p) [47, 47] = false := by simpa using hx
      have e : spN s p = 0 := by simp [spN, hc', hx']
      rw [e, hc', hx', Int.add_zero]
      exact space_no B w0 g X s p toks w hp hpn hs hc' hx' H
end Go.Proofs.YtoongglmgpilfaaDoor.L
