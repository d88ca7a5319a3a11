import Derived.Test.YtoongglmgpilfaaDoorSpace
namespace Go.Proofs.YtoongglmgpilfaaDoor.L
set_option linter.unusedSimpArgs false
set_option linter.unusedVariables false
set_option linter.unusedVariables false
open Go.RowKit Go.Proofs.YtoongglmgpilfaaDoorW.PrintWords Go.Proofs.YtoongglmgpilfaaDoorW.PrintLast

/-- how long the sign at an offset is -/
def sgN (s : ByteArray) (p : Int) : Int :=
  if Lib.hasPrefix (rest s p) [45, 62] = true then 2 else if Lib.hasPrefix (rest s p) [61, 61] = true then 2 else if isR s p [4] = true then 1 else 0

theorem hasPrefix_two {l : List UInt8} {a b : UInt8} (h : Lib.hasPrefix l [a, b] = true) : 2 ≤ l.length := by
  unfold Lib.hasPrefix at h
  match l, h with
  | [], h => simp at h
  | [c], h => simp at h
  | c :: d :: r, h => simp

set_option maxRecDepth 100000 in
set_option maxHeartbeats 1600000 in
theorem sign_row (B : Nat) (w0 : World) (g : Nat) (X : Option (Array Value)) (s : ByteArray) (p : Int) (toks : List S39) (w : World) (hp : 0 ≤ p) (hpn : p ≤ s.size) (hs : s.size ≤ 140737488351232) (hl : toks.length ≤ 1000000) (H : Scn B w0 g X s p toks w)
    (b : Bool) (q : Int) (tk : List S39) (HA : Hid (∀ n : Int, sgN s p = n → n ≠ 0 → b = true ∧ q = p + n ∧ tk = toks ++ [⟨3, s.extract p.toNat (p + n).toNat, p⟩])) (HZ : Hid (sgN s p = 0 → b = false ∧ q = p ∧ tk = toks)) :
    Calls Tryd.prog 32 #[.pointer (some ⟨g, 0, none⟩)] w fun e w' => e = .returned (.bool b) ∧ Scn B w0 g X s q tk w' := by
  have hrl := rest_length s p hp hpn
  go_enter Tryd.func32, Tryd.ntmps32
  go_wp2_with fail
  go_loopw [7] (fun v wr => ∃ k : Nat, k ≤ 2 ∧ v = .int .i64 k ∧ Scn B w0 g X s p toks wr ∧ wr.cell? ⟨w.heap.size, 0, none⟩ = some (.string ⟨#[45, 62]⟩) ∧ wr.cell? ⟨w.heap.size, 1, none⟩ = some (.string ⟨#[61, 61]⟩) ∧
    Hid (1 ≤ k → Lib.hasPrefix (rest s p) [45, 62] = false) ∧ Hid (2 ≤ k → Lib.hasPrefix (rest s p) [61, 61] = false)) (fun v _ => (2 - intOf v).toNat)
  case atStart =>
    exact ⟨0, by omega, rfl, H.step (below_alloc (Below.refl _ _) _), by simp [World.cell?_alloc_new], by simp [World.cell?_alloc_new], Lib.hid (fun h => by omega), Lib.hid (fun h => by omega)⟩
  case round =>
    obtain ⟨k, hk, rfl, HS, hc0, hc1, HP1, HP2⟩ := hrel
    have h0 := HS.c0
    have h1 := HS.c1
    match k, hk with
    | 0, _ =>
      by_cases hx : Lib.hasPrefix (rest s p) [45, 62] = true
      · have h2 := hasPrefix_two hx
        have HX := Lib.hid hx
        clear hx
        go_wp2
        go_quiet ((go_at_call 42; exact Calls.quiet_of_same (hasP s p _ true HX.out _)))
        go_wp2_with fail
        refine (take_any B w0 g X s p 2 3 toks _ hp (by omega) (by omega) hs hl (HS.step (pw_below_drewN (Below.refl _ _) _))).mono ?_
        rintro e w3 ⟨rfl, H3⟩
        go_wp2
        go_ret
        have e2 : sgN s p = 2 := by simp [sgN, HX.out]
        obtain ⟨rfl, rfl, rfl⟩ := HA.out _ e2 (by omega)
        exact ⟨rfl, H3⟩
      · have hx' : Lib.hasPrefix (rest s p) [45, 62] = false := by simpa using hx
        have HX := Lib.hid hx'
        clear hx hx'
        go_wp2
        go_quiet ((go_at_call 42; exact Calls.quiet_of_same (hasP s p _ false HX.out _)))
        go_wp2
        go_roundw
        case rel => exact ⟨1, by omega, rfl, HS.step (pw_below_drewN (Below.refl _ _) _), by simpa using hc0, by simpa using hc1, Lib.hid (fun _ => HX.out), Lib.hid (fun h => by omega)⟩
        case measure => simp [intOf]
    | 1, _ =>
      by_cases hx : Lib.hasPrefix (rest s p) [61, 61] = true
      · have h2 := hasPrefix_two hx
        have HX := Lib.hid hx
        clear hx
        have HY := Lib.hid (HP1.out (by omega))
        go_wp2
        go_quiet ((go_at_call 42; exact Calls.quiet_of_same (hasP s p _ true HX.out _)))
        go_wp2_with fail
        refine (take_any B w0 g X s p 2 3 toks _ hp (by omega) (by omega) hs hl (HS.step (pw_below_drewN (Below.refl _ _) _))).mono ?_
        rintro e w3 ⟨rfl, H3⟩
        go_wp2
        go_ret
        have e2 : sgN s p = 2 := by simp [sgN, HX.out, HY.out]
        obtain ⟨rfl, rfl, rfl⟩ := HA.out _ e2 (by omega)
        exact ⟨rfl, H3⟩
      · have hx' : Lib.hasPrefix (rest s p) [61, 61] = false := by simpa using hx
        have HX := Lib.hid hx'
        clear hx hx'
        go_wp2
        go_quiet ((go_at_call 42; exact Calls.quiet_of_same (hasP s p _ false HX.out _)))
        go_wp2
        go_roundw
        case rel => exact ⟨2, by omega, rfl, HS.step (pw_below_drewN (Below.refl _ _) _), by simpa using hc0, by simpa using hc1, Lib.hid (fun _ => HP1.out (by omega)), Lib.hid (fun _ => HX.out)⟩
        case measure => simp [intOf]
    | 2, _ =>
      have HX := Lib.hid (HP1.out (by omega))
      have HY := Lib.hid (HP2.out (by omega))
      by_cases hi : isR s p [4] = true
      · have hlt : p < s.size := by unfold isR at hi; simp at hi; exact hi.1
        have HI := Lib.hid hi
        clear hi
        go_wp2_with fail
        refine (is_one B w0 g X s p 0 toks 4 _ hp (by omega) (by omega) HS true (by rw [Int.add_zero]; exact HI.out)).mono ?_
        rintro e w1 ⟨rfl, H1, hb1⟩
        go_wp2_with fail
        refine (take_any B w0 g X s p 1 3 toks _ hp (by omega) (by omega) hs hl H1).mono ?_
        rintro e w3 ⟨rfl, H3⟩
        go_wp2
        go_ret
        have e2 : sgN s p = 1 := by simp [sgN, HX.out, HY.out, HI.out]
        obtain ⟨rfl, rfl, rfl⟩ := HA.out _ e2 (by omega)
        exact ⟨rfl, H3⟩
      · have hi' : isR s p [4] = false := by simpa using hi
        have HI := Lib.hid hi'
        clear hi hi'
        go_wp2_with fail
        refine (is_one B w0 g X s p 0 toks 4 _ hp (by omega) (by omega) HS false (by rw [Int.add_zero]; exact HI.out)).mono ?_
        rintro e w1 ⟨rfl, H1, hb1⟩
        go_wp2
        go_ret
        have e2 : sgN s p = 0 := by simp [sgN, HX.out, HY.out, HI.out]
        obtain ⟨rfl, rfl, rfl⟩ := HZ.out e2
        exact ⟨rfl, H1⟩

theorem sign_any (B : Nat) (w0 : World) (g : Nat) (X : Option (Array Value)) (s : ByteArray) (p : Int) (toks : List S39) (w : World) (hp : 0 ≤ p) (hpn : p ≤ s.size) (hs : s.size ≤ 140737488351232) (hl : toks.length ≤ 1000000) (H : Scn B w0 g X s p toks w) :
    Calls Tryd.prog 32 #[.pointer (some ⟨g, 0, none⟩)] w fun e w' => e = .returned (.bool (sgN s p != 0)) ∧ Scn B w0 g X s (p + sgN s p) (if sgN s p = 0 then toks else toks ++ [⟨3, s.extract p.toNat (p + sgN s p).toNat, p⟩]) w' :=
  sign_row B w0 g X s p toks w hp hpn hs hl H _ _ _
    (Lib.hid (fun n h hn => by subst h; exact ⟨by simpa using hn, rfl, by rw [if_neg hn]⟩))
    (Lib.hid (fun h => by rw [h]; exact ⟨rfl, by omega, by rw [if_pos rfl]⟩))
end Go.Proofs.YtoongglmgpilfaaDoor.L
