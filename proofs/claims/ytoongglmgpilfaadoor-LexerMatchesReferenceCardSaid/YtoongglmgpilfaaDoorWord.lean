import Derived.Test.YtoongglmgpilfaaDoorSpace
import Derived.Lib.LaidTab
import Derived.Lib.AtoiAllCases
import Derived.WalkSmall
namespace Go.Proofs.YtoongglmgpilfaaDoor.L
set_option linter.unusedSimpArgs false
set_option linter.unusedVariables false
set_option linter.unusedVariables false
open Go.RowKit Go.Proofs.YtoongglmgpilfaaDoorW.PrintWords Go.Proofs.YtoongglmgpilfaaDoorW.PrintLast

/-- What the library's three listed variables hold, as the row lists them. -/
structure GL (w : World) : Prop where
  tab : Lib.TabIs Tryd.prog w "internal/strconv.uint64pow10" .u64 Lib.pow10Tab
  syn : ∃ tp p, w.var? Tryd.prog "strconv.ErrSyntax" = some #[.iface tp p]
  rng : ∃ tp p, w.var? Tryd.prog "strconv.ErrRange" = some #[.iface tp p]

theorem var_below {n : String} {cs : Array Value} {w w' : World} (hb : Below w.heap.size w w') (h : w.var? Tryd.prog n = some cs) : w'.var? Tryd.prog n = some cs := by
  unfold World.var? at h ⊢
  cases hg : Tryd.prog.globalNamed n with
  | none => rw [hg] at h; exact h
  | some g =>
    rw [hg] at h
    simp only [Option.bind_some] at h ⊢
    by_cases hlt : g < w.heap.size
    · rw [hb.block g hlt]; exact h
    · rw [Array.getElem?_eq_none (by omega)] at h
      simp at h
theorem GL.below {w w' : World} (h : GL w) (hb : Below w.heap.size w w') : GL w' := by
  obtain ⟨t, ⟨a, b, hs⟩, ⟨c, d, hr⟩⟩ := h
  exact ⟨var_below hb t, ⟨a, b, var_below hb hs⟩, ⟨c, d, var_below hb hr⟩⟩

/-- the kind of a word, as Go's text finds it -/
def wk (l : List UInt8) : Int :=
  match l with
  | [] => 0
  | c :: _ => if 97 ≤ (c.toNat : Int) ∧ (c.toNat : Int) ≤ 122 then 1 else
    match Lib.atoiAll l with
    | .ok v => if v ≤ 1000000 ∧ Lib.itoa v = l then 2 else 0
    | _ => 0

theorem wk_nil {t : ByteArray} (h : t.size = 0) : wk t.data.toList = 0 := by
  have : t.data.toList = [] := by
    apply List.length_eq_zero_iff.1
    rw [Array.length_toList]; exact h
  rw [this]; rfl

set_option maxRecDepth 100000 in
set_option maxHeartbeats 1600000 in
theorem wk_empty (t : ByteArray) (w : World) (h : t.toList.isEmpty = true) :
    Calls Tryd.prog 41 #[.string t] w fun e w' => e = .returned (.int .i64 0) ∧ w' = w := by
  go_enter Tryd.func41, Tryd.ntmps41
  go_wp2
  go_ret
  exact ⟨rfl, rfl⟩

set_option maxRecDepth 100000 in
set_option maxHeartbeats 1600000 in
theorem wk_letter (t : ByteArray) (w : World) (hne : t.toList.isEmpty = false) (hs : 0 < t.size) (h1 : 97 ≤ bt t 0) (h2 : bt t 0 ≤ 122) :
    Calls Tryd.prog 41 #[.string t] w fun e w' => e = .returned (.int .i64 1) ∧ w' = w := by
  have hx : ∀ h : 0 < t.size, ((t[0]'h).toNat : Int) = bt t 0 := bt_at t 0
  have h1' : decide (97 ≤ bt t 0) = true := decide_eq_true h1
  have h2' : decide (bt t 0 ≤ 122) = true := decide_eq_true h2
  go_enter Tryd.func41, Tryd.ntmps41
  go_wp2
  go_ret
  exact ⟨rfl, rfl⟩

set_option maxRecDepth 100000 in
set_option maxHeartbeats 1600000 in
theorem wk_syntax (t : ByteArray) (w : World) (hne : t.toList.isEmpty = false) (hs : 0 < t.size) (h1 : ¬ (97 ≤ bt t 0 ∧ bt t 0 ≤ 122)) (hsz : t.size ≤ 140737488355328) (hGL : GL w) (hf : Lib.atoiAll t.data.toList = Lib.atoiAll []) :
    Calls Tryd.prog 41 #[.string t] w fun e w' => e = .returned (.int .i64 0) ∧ Below w.heap.size w w' := by
  have hx : ∀ h : 0 < t.size, ((t[0]'h).toNat : Int) = bt t 0 := bt_at t 0
  obtain ⟨tp, q, hv⟩ := hGL.syn
  have HF := Lib.hid hf
  have HV := Lib.hid hv
  clear hf hv hGL
  by_cases h97 : 97 ≤ bt t 0
  · have h1' : decide (97 ≤ bt t 0) = true := decide_eq_true h97
    have h2' : decide (bt t 0 ≤ 122) = false := decide_eq_false (by omega)
    clear h1 h97
    go_enter Tryd.func41, Tryd.ntmps41
    go_wp2_with fail
    refine (Tryd.strconv_Atoi_syntax_var t (by omega) HF.out tp q _ HV.out).mono ?_
    rintro e w1 ⟨N, rfl, hN, hcell, hb⟩
    clear hcell
    go_wp2
    go_ret
    exact ⟨rfl, hb⟩
  · have h1' : decide (97 ≤ bt t 0) = false := decide_eq_false h97
    clear h1 h97
    go_enter Tryd.func41, Tryd.ntmps41
    go_wp2_with fail
    refine (Tryd.strconv_Atoi_syntax_var t (by omega) HF.out tp q _ HV.out).mono ?_
    rintro e w1 ⟨N, rfl, hN, hcell, hb⟩
    clear hcell
    go_wp2
    go_ret
    exact ⟨rfl, hb⟩

set_option maxRecDepth 100000 in
set_option maxHeartbeats 1600000 in
theorem wk_range (t : ByteArray) (w : World) (hne : t.toList.isEmpty = false) (hs : 0 < t.size) (h1 : ¬ (97 ≤ bt t 0 ∧ bt t 0 ≤ 122)) (hsz : t.size ≤ 140737488355328) (hGL : GL w) (hf : Lib.atoiAll t.data.toList = .range) :
    Calls Tryd.prog 41 #[.string t] w fun e w' => e = .returned (.int .i64 0) ∧ Below w.heap.size w w' := by
  have hx : ∀ h : 0 < t.size, ((t[0]'h).toNat : Int) = bt t 0 := bt_at t 0
  obtain ⟨tp, q, hv⟩ := hGL.rng
  have HF := Lib.hid hf
  have HV := Lib.hid hv
  clear hf hv hGL
  by_cases h97 : 97 ≤ bt t 0
  · have h1' : decide (97 ≤ bt t 0) = true := decide_eq_true h97
    have h2' : decide (bt t 0 ≤ 122) = false := decide_eq_false (by omega)
    clear h1 h97
    go_enter Tryd.func41, Tryd.ntmps41
    go_wp2_with fail
    refine (Tryd.strconv_Atoi_range_var t (by omega) HF.out tp q _ HV.out).mono ?_
    rintro e w1 ⟨N, rfl, hN, hcell, hb⟩
    clear hcell
    go_wp2
    go_ret
    exact ⟨rfl, hb⟩
  · have h1' : decide (97 ≤ bt t 0) = false := decide_eq_false h97
    clear h1 h97
    go_enter Tryd.func41, Tryd.ntmps41
    go_wp2_with fail
    refine (Tryd.strconv_Atoi_range_var t (by omega) HF.out tp q _ HV.out).mono ?_
    rintro e w1 ⟨N, rfl, hN, hcell, hb⟩
    clear hcell
    go_wp2
    go_ret
    exact ⟨rfl, hb⟩

theorem atoi_call (t : ByteArray) (w : World) (hsz : t.size ≤ 140737488355328) (v : Int) (hf : Lib.atoiAll t.data.toList = .ok v) :
    Calls Tryd.prog 49 #[.string t] w fun e w' => e = .returned (.tuple #[.int .i64 v, .nilIface]) ∧ Below w.heap.size w w' :=
  (Tryd.strconv_Atoi_ok t (by omega) v hf w).mono fun _ _ ⟨he, hw⟩ => ⟨he, by
    rcases hw with rfl | ⟨u, rfl⟩
    · exact Below.refl _ _
    · exact bytes_below (Below.refl _ _) (Nat.le_refl _) _ _⟩
theorem itoa_call (n : Int) (w : World) (h0 : -9223372036854775808 ≤ n) (h1 : n ≤ 9223372036854775807) (hGL : GL w) (x : ByteArray) (hx : (⟨(Lib.itoa n).toArray⟩ : ByteArray) = x) :
    Calls Tryd.prog 50 #[.int .i64 n] w fun e w' => e = .returned (.string x) ∧ Below w.heap.size w w' := by
  subst hx
  refine (Tryd.strconv_Itoa n h0 h1 w hGL.tab).mono fun _ _ ⟨he, k, os, hw⟩ => ⟨he, ?_⟩
  subst hw
  exact ⟨rfl, rfl, rfl, by simp [Go.Sort.grow, World.drewN], fun i hi => by simp only [Go.Sort.grow, World.drewN]; rw [Array.getElem?_append_left hi]⟩

set_option maxRecDepth 100000 in
set_option maxHeartbeats 1600000 in
theorem wk_big (t : ByteArray) (w : World) (hne : t.toList.isEmpty = false) (hs : 0 < t.size) (h1 : ¬ (97 ≤ bt t 0 ∧ bt t 0 ≤ 122)) (hsz : t.size ≤ 140737488355328) (v : Int) (hf : Lib.atoiAll t.data.toList = .ok v) (hv : 1000000 < v) :
    Calls Tryd.prog 41 #[.string t] w fun e w' => e = .returned (.int .i64 0) ∧ Below w.heap.size w w' := by
  have hx : ∀ h : 0 < t.size, ((t[0]'h).toNat : Int) = bt t 0 := bt_at t 0
  have HF := Lib.hid hf
  clear hf
  have hd : decide (1000000 < v) = true := decide_eq_true hv
  by_cases h97 : 97 ≤ bt t 0
  · have h1' : decide (97 ≤ bt t 0) = true := decide_eq_true h97
    have h2' : decide (bt t 0 ≤ 122) = false := decide_eq_false (by omega)
    clear h1 h97
    go_enter Tryd.func41, Tryd.ntmps41
    go_wp2_with fail
    refine (atoi_call t _ hsz v HF.out).mono ?_
    rintro e w1 ⟨rfl, hb⟩
    go_wp2
    go_ret
    exact ⟨rfl, hb⟩
  · have h1' : decide (97 ≤ bt t 0) = false := decide_eq_false h97
    clear h1 h97
    go_enter Tryd.func41, Tryd.ntmps41
    go_wp2_with fail
    refine (atoi_call t _ hsz v HF.out).mono ?_
    rintro e w1 ⟨rfl, hb⟩
    go_wp2
    go_ret
    exact ⟨rfl, hb⟩

set_option maxRecDepth 100000 in
set_option maxHeartbeats 1600000 in
theorem wk_yes (t : ByteArray) (w : World) (hne : t.toList.isEmpty = false) (hs : 0 < t.size) (h1 : ¬ (97 ≤ bt t 0 ∧ bt t 0 ≤ 122)) (hsz : t.size ≤ 140737488355328) (hGL : GL w) (v : Int) (hf : Lib.atoiAll t.data.toList = .ok v) (hv : v ≤ 1000000) (hv0 : -9223372036854775808 ≤ v) (hi : (⟨(Lib.itoa v).toArray⟩ : ByteArray) = t) :
    Calls Tryd.prog 41 #[.string t] w fun e w' => e = .returned (.int .i64 2) ∧ Below w.heap.size w w' := by
  have hx : ∀ h : 0 < t.size, ((t[0]'h).toNat : Int) = bt t 0 := bt_at t 0
  have HF := Lib.hid hf
  clear hf
  have hd : decide (1000000 < v) = false := decide_eq_false (by omega)
  have HI := Lib.hid hi
  clear hi
  by_cases h97 : 97 ≤ bt t 0
  · have h1' : decide (97 ≤ bt t 0) = true := decide_eq_true h97
    have h2' : decide (bt t 0 ≤ 122) = false := decide_eq_false (by omega)
    clear h1 h97
    go_enter Tryd.func41, Tryd.ntmps41
    go_wp2_with fail
    refine (atoi_call t _ hsz v HF.out).mono ?_
    rintro e w1 ⟨rfl, hb⟩
    have hGL1 := hGL.below hb
    go_wp2_with fail
    refine (itoa_call v _ hv0 (by omega) hGL1 t HI.out).mono ?_
    rintro e w2 ⟨rfl, hb2⟩
    go_wp2
    go_ret
    exact ⟨rfl, below_step hb hb2⟩
  · have h1' : decide (97 ≤ bt t 0) = false := decide_eq_false h97
    clear h1 h97
    go_enter Tryd.func41, Tryd.ntmps41
    go_wp2_with fail
    refine (atoi_call t _ hsz v HF.out).mono ?_
    rintro e w1 ⟨rfl, hb⟩
    have hGL1 := hGL.below hb
    go_wp2_with fail
    refine (itoa_call v _ hv0 (by omega) hGL1 t HI.out).mono ?_
    rintro e w2 ⟨rfl, hb2⟩
    go_wp2
    go_ret
    exact ⟨rfl, below_step hb hb2⟩

set_option maxRecDepth 100000 in
set_option maxHeartbeats 1600000 in
theorem wk_no (t : ByteArray) (w : World) (hne : t.toList.isEmpty = false) (hs : 0 < t.size) (h1 : ¬ (97 ≤ bt t 0 ∧ bt t 0 ≤ 122)) (hsz : t.size ≤ 140737488355328) (hGL : GL w) (v : Int) (hf : Lib.atoiAll t.data.toList = .ok v) (hv : v ≤ 1000000) (hv0 : -9223372036854775808 ≤ v) (x : ByteArray) (hi : (⟨(Lib.itoa v).toArray⟩ : ByteArray) = x) (hne1 : (x.toList == t.toList) = false) (hne2 : (x.toList != t.toList) = true) :
    Calls Tryd.prog 41 #[.string t] w fun e w' => e = .returned (.int .i64 0) ∧ Below w.heap.size w w' := by
  have hx : ∀ h : 0 < t.size, ((t[0]'h).toNat : Int) = bt t 0 := bt_at t 0
  have HF := Lib.hid hf
  clear hf
  have hd : decide (1000000 < v) = false := decide_eq_false (by omega)
  have HI := Lib.hid hi
  clear hi
  by_cases h97 : 97 ≤ bt t 0
  · have h1' : decide (97 ≤ bt t 0) = true := decide_eq_true h97
    have h2' : decide (bt t 0 ≤ 122) = false := decide_eq_false (by omega)
    clear h1 h97
    go_enter Tryd.func41, Tryd.ntmps41
    go_wp2_with fail
    refine (atoi_call t _ hsz v HF.out).mono ?_
    rintro e w1 ⟨rfl, hb⟩
    have hGL1 := hGL.below hb
    go_wp2_with fail
    refine (itoa_call v _ hv0 (by omega) hGL1 x HI.out).mono ?_
    rintro e w2 ⟨rfl, hb2⟩
    go_wp2
    go_ret
    exact ⟨rfl, below_step hb hb2⟩
  · have h1' : decide (97 ≤ bt t 0) = false := decide_eq_false h97
    clear h1 h97
    go_enter Tryd.func41, Tryd.ntmps41
    go_wp2_with fail
    refine (atoi_call t _ hsz v HF.out).mono ?_
    rintro e w1 ⟨rfl, hb⟩
    have hGL1 := hGL.below hb
    go_wp2_with fail
    refine (itoa_call v _ hv0 (by omega) hGL1 x HI.out).mono ?_
    rintro e w2 ⟨rfl, hb2⟩
    go_wp2
    go_ret
    exact ⟨rfl, below_step hb hb2⟩

theorem bytes_ext {a b : ByteArray} (h : a.data.toList = b.data.toList) : a = b := by
  cases a; cases b
  simp at h
  subst h
  rfl
theorem data_size (t : ByteArray) : t.data.toList.length = t.size := by rw [Array.length_toList]; rfl
theorem bt_get (s : ByteArray) (j : Nat) (h : j < s.size) : bt s j = ((s.data.toList[j]'(by rw [data_size]; exact h)).toNat : Int) := by
  unfold bt
  rw [dif_pos (by simpa using h)]
  rfl

/-- wordKind, at every string. -/
theorem wordKind_any (t : ByteArray) (w : World) (hsz : t.size ≤ 140737488355328) (hGL : GL w) :
    Calls Tryd.prog 41 #[.string t] w fun e w' => e = .returned (.int .i64 (wk t.data.toList)) ∧ Below w.heap.size w w' := by
  by_cases h0 : t.size = 0
  · rw [wk_nil h0]
    refine (wk_empty t w ?_).mono fun e w' ⟨he, hw⟩ => ⟨he, hw ▸ Below.refl _ _⟩
    rw [ByteArray.toList_eq, List.isEmpty_iff]
    apply List.length_eq_zero_iff.1
    rw [data_size]; exact h0
  · have hs : 0 < t.size := by omega
    have hne : t.toList.isEmpty = false := by
      rw [ByteArray.toList_eq]
      cases h : t.data.toList with
      | nil => have := data_size t; rw [h] at this; simp at this; omega
      | cons c r => rfl
    obtain ⟨c, r, hl⟩ : ∃ c r, t.data.toList = c :: r := by
      cases h : t.data.toList with
      | nil => have := data_size t; rw [h] at this; simp at this; omega
      | cons c r => exact ⟨c, r, rfl⟩
    have hb : bt t 0 = (c.toNat : Int) := by
      have := bt_get t 0 hs
      simp only [hl, List.getElem_cons_zero] at this
      exact this
    by_cases h1 : 97 ≤ bt t 0 ∧ bt t 0 ≤ 122
    · have e : wk t.data.toList = 1 := by
        rw [hl]; unfold wk; rw [hb] at h1; simp only []; rw [if_pos h1]
      rw [e]
      exact (wk_letter t w hne hs h1.1 h1.2).mono fun e w' ⟨he, hw⟩ => ⟨he, hw ▸ Below.refl _ _⟩
    · have hk : wk t.data.toList = match Lib.atoiAll t.data.toList with | .ok v => if v ≤ 1000000 ∧ Lib.itoa v = t.data.toList then 2 else 0 | _ => 0 := by
        rw [hb] at h1
        rw [hl]; unfold wk; simp only []; rw [if_neg h1]
      rcases hA : Lib.atoiAll t.data.toList with v | _ | _
      rotate_left
      · rw [hk, hA]; exact wk_syntax t w hne hs h1 hsz hGL hA
      · rw [hk, hA]; exact wk_range t w hne hs h1 hsz hGL hA
      · have hbd := Lib.atoiAll_bounds hA
        rw [hk, hA]
        simp only []
        by_cases hv : v ≤ 1000000
        · by_cases hi : Lib.itoa v = t.data.toList
          · rw [if_pos ⟨hv, hi⟩]
            exact wk_yes t w hne hs h1 hsz hGL v hA hv hbd.1 (bytes_ext (by simpa using hi))
          · rw [if_neg (fun h => hi h.2)]
            refine wk_no t w hne hs h1 hsz hGL v hA hv hbd.1 _ rfl ?_ ?_
            · rw [ByteArray.toList_eq, ByteArray.toList_eq]; simpa using hi
            · rw [ByteArray.toList_eq, ByteArray.toList_eq]; simpa using hi
        · rw [if_neg (fun h => hv h.1)]
          exact wk_big t w hne hs h1 hsz v hA (by omega)

theorem wordKind_k (t : ByteArray) (w : World) (hsz : t.size ≤ 140737488355328) (hGL : GL w) (kd : Int) (hk : wk t.data.toList = kd) :
    Calls Tryd.prog 41 #[.string t] w fun e w' => e = .returned (.int .i64 kd) ∧ Below w.heap.size w w' := by
  subst hk
  exact wordKind_any t w hsz hGL
theorem ext_size_le (s : ByteArray) (a b : Nat) : (s.extract a b).size ≤ s.size := by
  rw [ByteArray.size_extract]; omega

set_option maxRecDepth 100000 in
set_option maxHeartbeats 1600000 in
/-- word: the letters and digits at the offset; taken, if they are of a kind. -/
theorem word_row (B : Nat) (w0 : World) (hG : Hid (∀ W : World, Below B w0 W → GL W)) (g : Nat) (X : Option (Array Value)) (s : ByteArray) (p : Int) (toks : List S39) (w : World) (hp : 0 ≤ p) (hpn : p ≤ s.size) (hs : s.size ≤ 140737488351232) (hl : toks.length ≤ 1000000) (H : Scn B w0 g X s p toks w) (n : Int) (hn : ∀ k : Int, 0 ≤ k → k < n → isR s (p + k) [1, 2] = true) (hn' : isR s (p + n) [1, 2] = false) (hn0 : 0 ≤ n) (hn1 : p + n ≤ s.size) (kd : Int) (hkd : wk (s.extract p.toNat (p + n).toNat).data.toList = kd) :
    Calls Tryd.prog 31 #[.pointer (some ⟨g, 0, none⟩)] w fun e w' => e = .returned (.bool (kd != 0)) ∧ Scn B w0 g X s (if kd = 0 then p else p + n) (if kd = 0 then toks else toks ++ [⟨kd, s.extract p.toNat (p + n).toNat, p⟩]) w' := by
  have HN := Lib.hid hn
  have HN' := Lib.hid hn'
  have HK := Lib.hid hkd
  clear hn hn' hkd
  go_enter Tryd.func31, Tryd.ntmps31
  go_wp2_with fail
  go_loopw [3] (fun v wr => ∃ k : Int, 0 ≤ k ∧ k ≤ n ∧ v = .int .i64 k ∧ Scn B w0 g X s p toks wr) (fun v _ => (n - intOf v).toNat)
  case atStart => exact ⟨0, by omega, by omega, rfl, H⟩
  case round =>
    obtain ⟨k, hk0, hk1, rfl, HS⟩ := hrel
    by_cases hlt : k < n
    · have hs1 : IntKind.i64.wrap (k + 1) = k + 1 := IntWalk.i64_in _ (by omega)
      go_wp2_with fail
      refine (is_two B w0 g X s p k toks 1 2 _ hp hk0 (by omega) HS true (HN.out k hk0 hlt)).mono ?_
      rintro e w1 ⟨rfl, H1, hb1⟩
      go_wp2
      go_roundw
      case rel => exact ⟨k + 1, by omega, by omega, rfl, H1⟩
      case measure => simp [intOf]; omega
    · obtain rfl : k = n := by omega
      go_wp2_with fail
      refine (is_two B w0 g X s p k toks 1 2 _ hp hk0 (by omega) HS false HN'.out).mono ?_
      rintro e w1 ⟨rfl, H1, hb1⟩
      have h0 := H1.c0
      have h1 := H1.c1
      have hsum : IntKind.i64.wrap (p + k) = p + k := IntWalk.i64_in _ (by omega)
      have hq0 : (0 : Int) ≤ p + k := by omega
      have hq1 : p ≤ p + k := by omega
      have Hd := H1.step (below_drew (Below.refl _ _))
      have HGd := hG.out _ Hd.below
      go_wp2
      go_region_held3 (fun w' => w'.cell? ⟨g, 0, none⟩ = some (.string s) ∧ w'.cell? ⟨g, 1, none⟩ = some (.int .i64 p)) (go_keep)
        (first
          | (go_at_call 41; refine (wordKind_k (s.extract p.toNat (p + k).toNat) _ (by have := ext_size_le s p.toNat (p + k).toNat; omega) HGd kd HK.out).mono ?_; rintro e w2 ⟨rfl, hb2⟩; have H2 := Hd.step hb2; have k0 := H2.c0; have k1 := H2.c1))
      clear hsum
      by_cases hz : kd = 0
      · subst hz
        go_wp2
        go_ret
        exact ⟨rfl, by simpa using H2⟩
      · have hzb : (kd != 0) = true := by simpa using hz
        have HZ := Lib.hid hz
        clear hz
        go_wp2_with fail
        refine (take_any B w0 g X s p k kd toks _ hp hk0 hn1 hs hl H2).mono ?_
        rintro e w3 ⟨rfl, H3⟩
        go_wp2
        go_ret
        refine ⟨rfl, ?_⟩
        first | exact H3 | (rw [if_neg HZ.out, if_neg HZ.out]; exact H3)
end Go.Proofs.YtoongglmgpilfaaDoor.L
