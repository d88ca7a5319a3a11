import Derived.Test.YtoongglmgpilfaaDoorLx0
import Derived.WalkSpells
import Derived.Deep.RegionHeld3
import Derived.Outline
import Derived.Lib.Hide
namespace Go.Proofs.YtoongglmgpilfaaDoor.L
open Go.RowKit Go.Proofs.YtoongglmgpilfaaDoorW.PrintWords Go.Proofs.YtoongglmgpilfaaDoorW.PrintLast

/-- class of a byte -/
def clsI (c : Int) : Int :=
  if 97 ≤ c ∧ c ≤ 122 then 1 else if 48 ≤ c ∧ c ≤ 57 then 2 else if c = 32 ∨ c = 10 then 3
  else if c ∈ ([40, 41, 123, 125, 91, 93, 44, 59, 58, 61, 43, 45, 38, 124, 94, 126, 60, 63, 64, 35, 46] : List Int) then 4 else 0

theorem ret_bool {a b : Bool} (h : a = b) : Ending.returned (.bool a) = .returned (.bool b) := by rw [h]
theorem rd_mem (cl : List Int) (j : Nat) (h : j < cl.length) : cl.contains (rd cl j) = true := by
  simp [rd, List.getD, h]
theorem take_snoc_not (cl : List Int) (j : Nat) (h : j < cl.length) (x : Int) (hno : (cl.take j).contains x = false) (hne : ¬ x = rd cl j) : (cl.take (j + 1)).contains x = false := by
  have e : rd cl j = cl[j] := by simp [rd, List.getD, h]
  rw [e] at hne
  rw [List.take_succ_eq_append_getElem h, List.contains_eq_any_beq, List.any_append, ← List.contains_eq_any_beq, hno]
  simpa using hne

theorem is_out (g : Nat) (s : ByteArray) (p k : Int) (v2 : Value) (w : World) (hp : 0 ≤ p) (hk : 0 ≤ k) (hpk : p + k ≤ 140737488351232)
    (h0 : w.cell? ⟨g, 0, none⟩ = some (.string s)) (h1 : w.cell? ⟨g, 1, none⟩ = some (.int .i64 p)) (ho : (s.size : Int) ≤ p + k) :
    Calls Tryd.prog 40 #[.pointer (some ⟨g, 0, none⟩), .int .i64 k, v2] w fun e w' => e = .returned (.bool false) ∧ Drawn0 w w' := by
  go_enter Tryd.func40, Tryd.ntmps40
  go_wp2
  go_quiet (fail)
  go_wp2
  go_ret
  exact ⟨rfl, (Drawn0.refl _).step _⟩

theorem is_in (g : Nat) (s : ByteArray) (p k : Int) (A : Option Addr) (c : Nat) (cl : List Int) (w : World) (hp : 0 ≤ p) (hk : 0 ≤ k) (hpk : p + k ≤ 140737488351232) (hlen : cl.length ≤ 2)
    (h0 : w.cell? ⟨g, 0, none⟩ = some (.string s)) (h1 : w.cell? ⟨g, 1, none⟩ = some (.int .i64 p)) (ho : p + k < (s.size : Int))
    (hc : ∀ j : Nat, j < 256 → w.cell? ⟨g, 2 + j, none⟩ = some (.int .u8 (clsI j))) (hr : ReadsInt w .u8 A cl.length cl) :
    Calls Tryd.prog 40 #[.pointer (some ⟨g, 0, none⟩), .int .i64 k, .slice A cl.length c] w fun e w' => e = .returned (.bool (cl.contains (clsI (bt s (p + k))))) ∧ Drawn0 w w' := by
  have hb := bt_range s (p + k)
  obtain ⟨b, hbe⟩ : ∃ b : Nat, bt s (p + k) = b := ⟨(bt s (p + k)).toNat, by omega⟩
  have hcb := hc b (by omega)
  have hx := bt_at s (p + k)
  clear hc
  go_enter Tryd.func40, Tryd.ntmps40
  go_wp2
  go_quiet (fail)
  go_wp2
  go_loopw [23] (fun t wr => ∃ j : Nat, j ≤ cl.length ∧ t = .int .i64 j ∧ (cl.take j).contains (clsI (bt s (p + k))) = false ∧ Drawn0 w wr) (fun t _ => cl.length - (intOf t).toNat)
  case atStart => exact ⟨0, Nat.zero_le _, rfl, by simp, (Drawn0.refl _).step _⟩
  case round =>
    obtain ⟨j, hj, rfl, hno, ⟨m, rfl⟩⟩ := hrel
    have Hno := Lib.hid hno
    clear hno
    by_cases hlt : j < cl.length
    · obtain ⟨ad, rfl, hcell⟩ := hr.at_ (j : Int) (by omega) (by omega)
      have hcell' : (w.drewN m).cell? (ad.add j) = some (.int .u8 (rd cl j)) := by simpa using hcell
      clear hcell
      have hcb' : (w.drewN m).cell? ⟨g, 2 + b, none⟩ = some (.int .u8 (clsI b)) := by simpa using hcb
      have h0' : (w.drewN m).cell? ⟨g, 0, none⟩ = some (.string s) := by simpa using h0
      have h1' : (w.drewN m).cell? ⟨g, 1, none⟩ = some (.int .i64 p) := by simpa using h1
      have hlt' : ((j : Int) < (cl.length : Int)) := by omega
      have hnn : (0 : Int) ≤ p + k := by omega
      by_cases heq : clsI b = rd cl j
      · have hE : (clsI b == rd cl j) = true := by simpa using heq
        have HE := Lib.hid heq
        clear heq
        go_wp2
        go_quiet (fail)
        go_wp2
        go_ret
        refine ⟨ret_bool ?_, by repeat (first | exact Drawn0.refl _ | apply Drawn0.step)⟩
        rw [hbe, HE.out]
        exact (rd_mem cl j hlt).symm
      · have hE : (clsI b == rd cl j) = false := by simpa using heq
        have HE := Lib.hid heq
        clear heq
        go_wp2
        go_quiet (fail)
        go_wp2
        go_roundw
        case rel =>
          refine ⟨j + 1, by omega, by go_num, ?_, by repeat (first | exact Drawn0.refl _ | apply Drawn0.step)⟩
          exact take_snoc_not cl j hlt _ Hno.out (by rw [hbe]; exact HE.out)
        case measure => simp [intOf]; omega
    · have hje : j = cl.length := by omega
      have HJ := Lib.hid hje
      clear hje
      have hge : ¬ ((j : Int) < (cl.length : Int)) := by omega
      go_wp2
      go_ret
      refine ⟨ret_bool ?_, by repeat (first | exact Drawn0.refl _ | apply Drawn0.step)⟩
      have e := Hno.out
      rw [HJ.out, List.take_length] at e
      rw [hbe] at e
      simpa using e.symm
end Go.Proofs.YtoongglmgpilfaaDoor.L
