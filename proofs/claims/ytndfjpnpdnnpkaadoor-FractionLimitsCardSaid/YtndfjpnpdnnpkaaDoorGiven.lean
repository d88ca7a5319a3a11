/- What the fraction's texts take of the library by its contracts: Itoa, the index of a byte, Add64, Sub64; and what the listed variables hold. -/
import Derived.Test.YtndfjpnpdnnpkaaDoorFx0
import Derived.Test.YtndfjpnpdnnpkaaDoorShelf
import Derived.WalkSpells
import Derived.Outline
import Derived.Lib.Hide
import Derived.Lib.LaidTab
import Derived.Lib.AtoiAllCases
import Derived.WalkSmall
import Derived.Laws.Externs
import Derived.Shelf.Spec.BitsCarry
namespace Go.Proofs.YtndfjpnpdnnpkaaDoor.F
set_option linter.unusedVariables false
set_option linter.unusedSimpArgs false
open Go.RowKit Go.Proofs.YtndfjpnpdnnpkaaDoorW.PrintWords Go.Proofs.YtndfjpnpdnnpkaaDoorW.PrintLast

/-- What the library's three listed variables hold, as the row lists them. -/
structure GL (w : World) : Prop where
  tab : Lib.TabIs Tryd.prog w "internal/strconv.uint64pow10" .u64 Lib.pow10Tab
  syn : ∃ tp p, w.var? Tryd.prog "strconv.ErrSyntax" = some #[.iface tp p]
  rng : ∃ tp p, w.var? Tryd.prog "strconv.ErrRange" = some #[.iface tp p]
theorem var_below {n : String} {cs : Array Value} {w w' : World} (hb : Below w.heap.size w w') (h : w.var? Tryd.prog n = some cs) : w'.var? Tryd.prog n = some cs := by
  unfold World.var? at h ⊢
  cases hg : Tryd.prog.globalNamed n with
  | none => rw [hg] at h; exact h
  | some g =>
    rw [hg] at h
    simp only [Option.bind_some] at h ⊢
    by_cases hlt : g < w.heap.size
    · rw [hb.block g hlt]; exact h
    · rw [Array.getElem?_eq_none (by omega)] at h
      simp at h
theorem GL.below {w w' : World} (h : GL w) (hb : Below w.heap.size w w') : GL w' := by
  obtain ⟨t, ⟨a, b, hs⟩, ⟨c, d, hr⟩⟩ := h
  exact ⟨var_below hb t, ⟨a, b, var_below hb hs⟩, ⟨c, d, var_below hb hr⟩⟩

def itoaB (n : Int) : ByteArray := ⟨(Lib.itoa n).toArray⟩
def strconv_Itoa.f (a0 : Int) : Option ByteArray := if -9223372036854775808 ≤ a0 ∧ a0 ≤ 9223372036854775807 then some (itoaB a0) else none
theorem strconv_Itoa.calls (a0 : Int) (r : ByteArray) (w : World) (hGL : GL w) (h : strconv_Itoa.f a0 = some r) :
    Calls Tryd.prog 34 #[.int .i64 a0] w fun e w' => e = .returned (.string r) ∧ Below w.heap.size w w' := by
  unfold strconv_Itoa.f at h
  by_cases hb : -9223372036854775808 ≤ a0 ∧ a0 ≤ 9223372036854775807
  · rw [if_pos hb] at h
    obtain rfl := Option.some.inj h
    refine (Tryd.strconv_Itoa a0 hb.1 hb.2 w hGL.tab).mono fun _ _ ⟨he, k, os, hw⟩ => ⟨he, ?_⟩
    subst hw
    exact ⟨rfl, rfl, rfl, by simp [Go.Sort.grow, World.drewN], fun i hi => by simp only [Go.Sort.grow, World.drewN]; rw [Array.getElem?_append_left hi]⟩
  · rw [if_neg hb] at h
    cases h
def stringslite_Index.f (a0 a1 : ByteArray) : Option Int := if a1 = ⟨#[47]⟩ then some (Lib.indexByte a0.data.toList 47) else none
theorem stringslite_Index.calls (a0 a1 : ByteArray) (r : Int) (w : World) (h : stringslite_Index.f a0 a1 = some r) :
    Calls Tryd.prog 71 #[.string a0, .string a1] w fun e w' => e = .returned (.int .i64 r) ∧ Below w.heap.size w w' := by
  unfold stringslite_Index.f at h
  by_cases hb : a1 = ⟨#[47]⟩
  · rw [if_pos hb] at h
    obtain rfl := Option.some.inj h
    subst hb
    exact (Tryd.stringslite_Index_one a0 47 w).mono (by rintro e w' ⟨rfl, rfl⟩; exact ⟨rfl, Below.refl _ _⟩)
  · rw [if_neg hb] at h
    cases h

/-! ### Add64, Sub64: the model stands in for both -/
theorem add64 (x y c : Int) (hx : 0 ≤ x) (hy : 0 ≤ y) (hc0 : 0 ≤ c) (hc : c ≤ 1) (w : World) : (callFunc 48 #[.int .u64 x, .int .u64 y, .int .u64 c]).run Tryd.prog w =
    .ok (.value (.tuple #[.int .u64 ((x + y + c) % 18446744073709551616), .int .u64 ((x + y + c) / 18446744073709551616)])) w := by
  rw [run_callFunc_extern Tryd.func48 (by kernel_rfl) (by kernel_rfl) (by kernel_rfl) (e := add64Entry) (by kernel_rfl), run_add64 x y c hx hy hc0 hc]
  rfl
def bor (x y : Int) : Int := if x < y then 1 else 0
theorem sub64 (x y b : Int) (hx : 0 ≤ x) (hy : 0 ≤ y) (hy' : y < 18446744073709551616) (hb0 : 0 ≤ b) (hb : b ≤ 1) (w : World) : (callFunc 50 #[.int .u64 x, .int .u64 y, .int .u64 b]).run Tryd.prog w =
    .ok (.value (.tuple #[.int .u64 ((x - y - b) % 18446744073709551616), .int .u64 (bor x (y + b))])) w := by
  obtain ⟨x, rfl⟩ := Int.eq_ofNat_of_zero_le hx
  obtain ⟨y, rfl⟩ := Int.eq_ofNat_of_zero_le hy
  obtain ⟨b, rfl⟩ := Int.eq_ofNat_of_zero_le hb0
  have e1 : (((x + 18446744073709551616 - y - b) % 18446744073709551616 : Nat) : Int) = ((x : Int) - y - b) % 18446744073709551616 := by omega
  have e2 : ((if x < y + b then 1 else 0 : Nat) : Int) = bor (x : Int) ((y : Int) + b) := by unfold bor; split <;> split <;> omega
  rw [← e1, ← e2, run_callFunc_extern Tryd.func50 (by kernel_rfl) (by kernel_rfl) (by kernel_rfl) (e := sub64Entry) (by kernel_rfl), run_sub64 x y b (by omega)]
  rfl
theorem add64_0 (x y : Int) (hx : 0 ≤ x) (hy : 0 ≤ y) (w : World) : (callFunc 48 #[.int .u64 x, .int .u64 y, .int .u64 0]).run Tryd.prog w =
    .ok (.value (.tuple #[.int .u64 ((x + y) % 18446744073709551616), .int .u64 ((x + y) / 18446744073709551616)])) w := by
  simpa using add64 x y 0 hx hy (Int.le_refl 0) (by decide) w
theorem sub64_0 (x y : Int) (hx : 0 ≤ x) (hy : 0 ≤ y) (hy' : y < 18446744073709551616) (w : World) : (callFunc 50 #[.int .u64 x, .int .u64 y, .int .u64 0]).run Tryd.prog w =
    .ok (.value (.tuple #[.int .u64 ((x - y) % 18446744073709551616), .int .u64 (bor x y)])) w := by
  simpa using sub64 x y 0 hx hy hy' (Int.le_refl 0) (by decide) w
def Word (x : Int) : Prop := 0 ≤ x ∧ x < 18446744073709551616
instance (x : Int) : Decidable (Word x) := by unfold Word; infer_instance

/-! ### the greatest common divisor of two numbers -/
theorem gcd_step (x y : Int) (hx : 0 ≤ x) (hy : 0 < y) : ((Int.gcd y (x % y) : Nat) : Int) = Int.gcd x y := by
  obtain ⟨x, rfl⟩ := Int.eq_ofNat_of_zero_le hx
  obtain ⟨y, rfl⟩ := Int.eq_ofNat_of_zero_le (Int.le_of_lt hy)
  rw [← Int.natCast_emod]
  simp only [Int.gcd_natCast_natCast]
  rw [Nat.gcd_comm y, ← Nat.gcd_rec y x, Nat.gcd_comm]
set_option maxRecDepth 100000 in
set_option maxHeartbeats 1600000 in
theorem gcd_two (a b : Int) (ha : Word a) (hb : Word b) (bk o : Nat) (c0 : Nat) (hc : 2 ≤ c0) (w : World) (h0 : w.cell? ⟨bk, o, none⟩ = some (.int .u64 a)) (h1 : w.cell? ⟨bk, o + 1, none⟩ = some (.int .u64 b)) :
    Calls Tryd.prog 42 #[.slice (some ⟨bk, o, none⟩) 2 c0] w fun e w' => e = .returned (.int .u64 (Int.gcd a b)) ∧ Drawn0 w w' := by
  have hu := Tryd.underlying81
  go_enter Tryd.func42, Tryd.ntmps42
  go_wp2
  repeat (go_quiet (fail); try go_wp2)
  go_loopw [3, 12] (fun v3 v12 w' => ∃ (x i : Int), v3 = .int .u64 x ∧ v12 = .int .i64 i ∧ ((i = 0 ∧ x = a) ∨ (i = 1 ∧ x = Int.gcd a b)) ∧ Drawn0 w w') (fun _ v12 _ => (1 - intOf v12).toNat)
  case atStart => exact ⟨a, 0, rfl, rfl, .inl ⟨rfl, rfl⟩, Drawn0.refl _⟩
  case round =>
    obtain ⟨x, i, rfl, rfl, hx, ⟨m, rfl⟩⟩ := hrel
    rcases hx with ⟨rfl, rfl⟩ | ⟨rfl, rfl⟩
    · have h1' : (w.drewN m).cell? ⟨bk, o + 1, none⟩ = some (.int .u64 b) := by simpa using h1
      go_wp2
      repeat (go_quiet (fail); try go_wp2)
      go_loopw [3, 5] (fun v3 v5 w' => ∃ (y z : Int), v3 = .int .u64 y ∧ v5 = .int .u64 z ∧ 0 ≤ y ∧ 0 ≤ z ∧ ((Int.gcd y z : Nat) : Int) = Int.gcd x b ∧ Drawn0 w w') (fun _ v5 _ => (intOf v5).toNat)
      case atStart => exact ⟨x, b, rfl, rfl, ha.1, hb.1, rfl, ⟨m, rfl⟩⟩
      case round =>
        obtain ⟨y, z, rfl, rfl, hy, hz, hg, ⟨m2, rfl⟩⟩ := hrel
        have HG := Lib.hid hg
        clear hg
        by_cases hp : 0 < z
        · have hd : decide (0 < z) = true := decide_eq_true hp
          have hz0 : (z == 0) = false := by rw [beq_eq_false_iff_ne]; omega
          go_wp2
          repeat (go_quiet (fail); try go_wp2)
          go_roundw
          case rel => exact ⟨z, y % z, rfl, rfl, hz, Int.emod_nonneg _ (by omega), by rw [gcd_step y z hy hp]; exact HG.out, by repeat (first | exact Drawn0.refl _ | apply Drawn0.step)⟩
          case measure =>
            have := Int.emod_lt_of_pos y hp
            have := Int.emod_nonneg y (b := z) (by omega)
            show (y % z).toNat < z.toNat
            omega
        · have hz1 : z = 0 := by omega
          subst hz1
          go_wp2
          refine ⟨⟨y, 1, rfl, rfl, .inr ⟨rfl, ?_⟩, ⟨m2, rfl⟩⟩, by decide⟩
          rw [← HG.out, Int.gcd_zero_right]
          omega
    · go_wp2
      go_ret
      exact ⟨rfl, m, rfl⟩

def fraction_gcd.f (l0 : List Int) : Option Int :=
  match l0 with
  | [a, b] => if Word a ∧ Word b then some (Int.gcd a b) else none
  | _ => none
theorem fraction_gcd.calls (A0 : Option Addr) (c0 : Nat) (l0 : List Int) (r : Int) (w : World) (hr0 : Kd.C (Kd.int .u64) w A0 l0.length l0) (hc0 : l0.length ≤ c0) (h : fraction_gcd.f l0 = some r) :
    Calls Tryd.prog 42 #[.slice A0 l0.length c0] w fun e w' => e = .returned (.int .u64 r) ∧ Below w.heap.size w w' := by
  match l0, hr0, hc0, h with
  | [], hr0, hc0, h => cases h
  | [a], hr0, hc0, h => cases h
  | a :: b :: c :: l, hr0, hc0, h => cases h
  | [a, b], hr0, hc0, h =>
    unfold fraction_gcd.f at h
    by_cases hw : Word a ∧ Word b
    · simp only [if_pos hw] at h
      obtain rfl := Option.some.inj h
      have hcell : ∀ (j : Nat) y, [a, b][j]? = some y → ∃ ad, A0 = some ad ∧ w.cell? (ad.add j) = some (.int .u64 y) := by
        intro j y hj
        have hl := (List.getElem?_eq_some_iff.1 hj).1
        obtain ⟨ad, c, e, _, hK, hc⟩ := Kd.C_get hr0 0 j (by omega) (by omega)
        have hx : [a, b].getD (j : Int).toNat 0 = y := by simp [List.getD, hj]
        rw [hx] at hK
        obtain rfl : c = [.int .u64 y] := hK
        refine ⟨ad, e, ?_⟩
        have := hc 0 _ rfl
        simpa [Kd.int, Kd.scalar] using this
      obtain ⟨ad, rfl, h0⟩ := hcell 0 a rfl
      obtain ⟨bk, o, sp⟩ := ad
      have hsp : sp = none := by
        cases sp with
        | none => rfl
        | some q =>
          exfalso
          have := h0
          unfold World.cell? at this
          split at this
          · simp [Addr.add] at this
          · cases this
      subst hsp
      obtain ⟨ad', he, h1⟩ := hcell 1 b rfl
      injection he with he
      subst he
      refine (gcd_two a b hw.1 hw.2 bk o c0 hc0 w (by simpa [Addr.add] using h0) (by simpa [Addr.add] using h1)).mono ?_
      rintro e w' ⟨rfl, hd⟩
      exact ⟨rfl, hd.below⟩
    · simp only [if_neg hw] at h
      cases h
def bits_LeadingZeros64.f (a0 : Int) : Option Int := if Word a0 then some (64 - (Lib.bitLen a0.toNat : Int)) else none
theorem bits_LeadingZeros64.calls (a0 : Int) (r : Int) (w : World) (h : bits_LeadingZeros64.f a0 = some r) :
    Calls Tryd.prog 66 #[.int .u64 a0] w fun e w' => e = .returned (.int .i64 r) ∧ Below w.heap.size w w' := by
  unfold bits_LeadingZeros64.f at h
  by_cases hw : Word a0
  · rw [if_pos hw] at h
    obtain rfl := Option.some.inj h
    exact (Tryd.bits_LeadingZeros64 a0 w hw.1 (by have := hw.2; omega)).mono (by rintro e w' ⟨rfl, rfl⟩; exact ⟨rfl, Below.refl _ _⟩)
  · rw [if_neg hw] at h
    cases h
def bits_Mul64.f (a0 a1 : Int) : Option (Int × Int) := if Word a0 ∧ Word a1 then some (a0 * a1 / 18446744073709551616, a0 * a1 % 18446744073709551616) else none
theorem bits_Mul64.calls (a0 a1 : Int) (r1 r2 : Int) (w : World) (h : bits_Mul64.f a0 a1 = some (r1, r2)) :
    Calls Tryd.prog 47 #[.int .u64 a0, .int .u64 a1] w fun e w' => e = .returned (.tuple #[.int .u64 r1, .int .u64 r2]) ∧ Below w.heap.size w w' := by
  unfold bits_Mul64.f at h
  by_cases hw : Word a0 ∧ Word a1
  · rw [if_pos hw] at h
    simp only [Option.some.injEq, Prod.mk.injEq] at h
    obtain ⟨rfl, rfl⟩ := h
    obtain ⟨⟨a, b⟩, ⟨c, d⟩⟩ := hw
    obtain ⟨a0, rfl⟩ := Int.eq_ofNat_of_zero_le a
    obtain ⟨a1, rfl⟩ := Int.eq_ofNat_of_zero_le c
    refine (Tryd.bits_Mul64 a0 a1 (by omega) (by omega) w).mono ?_
    rintro e w' ⟨rfl, rfl⟩
    have e1 : ((a0 * a1 / 18446744073709551616 : Nat) : Int) = (a0 : Int) * (a1 : Int) / 18446744073709551616 := by omega
    have e2 : ((a0 * a1 % 18446744073709551616 : Nat) : Int) = (a0 : Int) * (a1 : Int) % 18446744073709551616 := by omega
    exact ⟨by rw [e1, e2], Below.refl _ _⟩
  · rw [if_neg hw] at h
    cases h
end Go.Proofs.YtndfjpnpdnnpkaaDoor.F
