import Derived.Test.YtoongglmgpilfaaDoorPNum
import Derived.Test.YtoongglmgpilfaaDoorLx5
import Derived.Test.YtoongglmgpilfaaDoorLx6
import Derived.Test.YtoongglmgpilfaaDoorLx7
namespace Go.Proofs.YtoongglmgpilfaaDoor.L
set_option linter.unusedVariables false
set_option linter.unusedSimpArgs false
open Go.RowKit Go.Proofs.YtoongglmgpilfaaDoorW.PrintWords Go.Proofs.YtoongglmgpilfaaDoorW.PrintLast Lx

theorem rword_all : ∀ i : Fin 256, wireloomref08_word.f (i.val : Int) = some (isWord (UInt8.ofNat i.val)) := by decide +kernel
theorem rdigit_all : ∀ i : Fin 256, wireloomref08_digit.f (i.val : Int) = some (isDig (UInt8.ofNat i.val)) := by decide +kernel
theorem rspace_all : ∀ i : Fin 256, wireloomref08_space.f (i.val : Int) = some (isWhite (UInt8.ofNat i.val)) := by decide +kernel
theorem rword (c : UInt8) : wireloomref08_word.f (c.toNat : Int) = some (isWord c) := by
  have := rword_all ⟨c.toNat, c.toNat_lt⟩
  rwa [show UInt8.ofNat c.toNat = c from UInt8.ofNat_toNat] at this
theorem rdigit (c : UInt8) : wireloomref08_digit.f (c.toNat : Int) = some (isDig c) := by
  have := rdigit_all ⟨c.toNat, c.toNat_lt⟩
  rwa [show UInt8.ofNat c.toNat = c from UInt8.ofNat_toNat] at this
theorem rspace (c : UInt8) : wireloomref08_space.f (c.toNat : Int) = some (isWhite c) := by
  have := rspace_all ⟨c.toNat, c.toNat_lt⟩
  rwa [show UInt8.ofNat c.toNat = c from UInt8.ofNat_toNat] at this
/-- the byte at an offset -/
theorem bt_drop {s : ByteArray} {p : Nat} {a : UInt8} {r : List UInt8} (e : s.data.toList.drop p = a :: r) : p < s.size ∧ bt s p = (a.toNat : Int) ∧ s.data.toList.drop (p + 1) = r ∧ r.length + p + 1 = s.size := by
  have hl := congrArg List.length e
  rw [List.length_drop, data_size, List.length_cons] at hl
  have hp : p < s.size := by omega
  refine ⟨hp, ?_, ?_, by omega⟩
  · rw [bt_get s p hp]
    have h0 : s.data.toList[p]? = some a := by rw [drop_get0, e]; rfl
    have hl' : p < s.data.toList.length := by rw [data_size]; exact hp
    rw [List.getElem?_eq_getElem hl'] at h0
    injection h0 with h0
    rw [h0]
  · rw [show p + 1 = p + 1 from rfl, ← List.drop_drop, e]
    rfl
theorem w1 (p : Nat) (h : p ≤ 100000) : wrap64 ((p : Int) + 1) = ((p + 1 : Nat) : Int) := by rw [w64 (by omega)]; omega
theorem toNat_eq {a : UInt8} {n : UInt8} : ((a.toNat : Int) = (n.toNat : Int)) ↔ a = n := by
  constructor
  · intro h; exact UInt8.toNat_inj.1 (by omega)
  · rintro rfl; rfl

theorem ne_num {a n : UInt8} {m : Int} (hm : (n.toNat : Int) = m) (h : a ≠ n) : ¬ (a.toNat : Int) = m := by
  intro e
  apply h
  apply UInt8.toNat_inj.1
  omega

/-! ### blank -/
theorem blank_line (s : ByteArray) (hs : s.size ≤ 100000) : ∀ (l : List UInt8) (p : Nat), s.data.toList.drop p = l → p ≤ s.size → ∀ k, wireloomref08_blank.l1 (k + (l.takeWhile notNl).length + 1) s p = wireloomref08_blank.l0 k s ((p + (l.takeWhile notNl).length : Nat) : Int) := by
  intro l
  induction l with
  | nil =>
    intro p e hp k
    have hl := congrArg List.length e
    rw [List.length_drop, data_size, List.length_nil] at hl
    have : p = s.size := by omega
    rw [List.takeWhile_nil, List.length_nil, wireloomref08_blank.l1, if_neg (by omega)]
    rfl
  | cons a r ih =>
    intro p e hp k
    obtain ⟨h1, h2, h3, h4⟩ := bt_drop e
    rw [List.takeWhile_cons]
    by_cases ha : a = 10
    · rw [if_neg (by subst ha; decide), List.length_nil, wireloomref08_blank.l1, if_pos (by omega), if_pos (by omega), h2, if_pos (by subst ha; rfl)]
      rfl
    · rw [if_pos (by simpa [notNl] using ha), List.length_cons, show k + ((r.takeWhile notNl).length + 1) + 1 = (k + (r.takeWhile notNl).length + 1) + 1 by omega, wireloomref08_blank.l1, if_pos (by omega), if_pos (by omega), h2,
        if_neg (ne_num (n := 10) (m := 10) rfl ha), w1 p (by omega), ih (p + 1) h3 (by omega) k]
      rw [show p + 1 + (r.takeWhile notNl).length = p + ((r.takeWhile notNl).length + 1) by omega]

theorem blank_ok (s : ByteArray) (hs : s.size ≤ 100000) : ∀ l : List UInt8, ∀ p : Nat, s.data.toList.drop p = l → p ≤ s.size →
    ∃ j : Nat, p ≤ j ∧ j ≤ s.size ∧ lex p l = lex j (s.data.toList.drop j) ∧ (∀ n, Lx.step (s.data.toList.drop j) ≠ .skip n) ∧ ∀ k, 3 * (s.size - p) + 3 ≤ k → wireloomref08_blank.l0 k s p = some (j : Int) := by
  have stop : ∀ (l : List UInt8) (p : Nat), s.data.toList.drop p = l → p ≤ s.size → (∀ n, Lx.step l ≠ .skip n) → ∃ j : Nat, p ≤ j ∧ j ≤ s.size ∧ lex p l = lex j (s.data.toList.drop j) ∧ (∀ n, Lx.step (s.data.toList.drop j) ≠ .skip n) ∧ ∀ k, 3 * (s.size - p) + 3 ≤ k → wireloomref08_blank.l0 k s p = some (j : Int) := by
    intro l p e hp hn
    refine ⟨p, Nat.le_refl _, hp, by rw [e], by rw [e]; exact hn, fun k hk => ?_⟩
    obtain ⟨k, rfl⟩ : ∃ j, k = j + 1 + 1 := ⟨k - 2, by omega⟩
    cases l with
    | nil =>
      have hl := congrArg List.length e
      rw [List.length_drop, data_size, List.length_nil] at hl
      rw [wireloomref08_blank.l0, if_neg (by omega)]
    | cons a r =>
      obtain ⟨h1, h2, h3, h4⟩ := bt_drop e
      have hw : isWhite a = false := by
        by_cases hw : isWhite a = true
        · exact absurd (by rw [step_cons, if_pos hw]) (hn 1)
        · simpa using hw
      have hc : isCom (a :: r) = false := by
        by_cases hc : isCom (a :: r) = true
        · exact absurd (by rw [step_cons, if_neg (by rw [hw]; decide), if_pos hc]) (hn _)
        · simpa using hc
      rw [wireloomref08_blank.l0, if_pos (by omega), if_pos (by omega), h2, rspace, Option.bind_some, hw, if_neg (by decide)]
      by_cases h47 : a = 47
      · subst h47
        rw [if_pos (show ((47 : UInt8).toNat : Int) = 47 from rfl), w1 p (by omega)]
        cases r with
        | nil =>
          simp only [List.length_nil] at h4
          rw [if_pos (by omega), wireloomref08_blank.j1, if_pos rfl]
        | cons b r =>
          obtain ⟨g1, g2, g3, g4⟩ := bt_drop h3
          have hb : b ≠ 47 := by
            rintro rfl
            simp [isCom] at hc
          rw [if_neg (by omega), if_pos (by omega), if_pos (by omega), g2, wireloomref08_blank.j1, if_pos]
          rw [bne_iff_ne]
          exact ne_num (n := 47) (m := 47) rfl hb
      · rw [if_neg (ne_num (n := 47) (m := 47) rfl h47), wireloomref08_blank.j1, if_pos rfl]
  refine lex_induct ?_ ?_ ?_ ?_
  · intro p e hp
    exact stop [] p e hp (by intro n h; cases h)
  · intro l n hl hst h1 h2 ih p e hp
    have hlen := congrArg List.length e
    rw [List.length_drop, data_size] at hlen
    obtain ⟨j, j1, j2, j3, j4, j5⟩ := ih (p + n) (by rw [← List.drop_drop, e]) (by omega)
    refine ⟨j, by omega, j2, by rw [lex_skip p hst]; exact j3, j4, fun k hk => ?_⟩
    cases l with
    | nil => exact absurd rfl hl
    | cons a r =>
      obtain ⟨b1, b2, b3, b4⟩ := bt_drop e
      have hsc := step_cons a r
      by_cases hw : isWhite a = true
      · rw [if_pos hw, hst] at hsc
        injection hsc with hsc
        subst hsc
        obtain ⟨k, rfl⟩ : ∃ j, k = j + 1 := ⟨k - 1, by omega⟩
        rw [wireloomref08_blank.l0, if_pos (by omega), if_pos (by omega), b2, rspace, Option.bind_some, hw, if_pos rfl, w1 p (by omega)]
        exact j5 k (by omega)
      · rw [if_neg hw] at hsc
        have hw' : isWhite a = false := by simpa using hw
        by_cases hc : isCom (a :: r) = true
        · rw [if_pos hc, hst] at hsc
          injection hsc with hsc
          have hr : ∃ r', a = 47 ∧ r = 47 :: r' := by
            simp [isCom] at hc
            obtain ⟨rfl, hc⟩ := hc
            cases r with
            | nil => simp at hc
            | cons b r => simp at hc; exact ⟨r, rfl, by rw [hc]⟩
          obtain ⟨r', rfl, rfl⟩ := hr
          obtain ⟨c1, c2, c3, c4⟩ := bt_drop b3
          have hn2 : 2 ≤ n := by rw [hsc]; simp [List.takeWhile_cons, notNl]
          have hbl := blank_line s hs _ p e hp (k - n - 3)
          obtain ⟨k', hk'⟩ : ∃ k', k = k' + 1 + 1 := ⟨k - 2, by omega⟩
          rw [hk', wireloomref08_blank.l0, if_pos (by omega), if_pos (by omega), b2, rspace, Option.bind_some, hw', if_neg (by decide), if_pos (show ((47 : UInt8).toNat : Int) = 47 from rfl), w1 p (by omega), if_neg (by omega), if_pos (by omega), if_pos (by omega), c2, wireloomref08_blank.j1,
            if_neg (by decide), show k' = k - n - 3 + n + 1 by omega]
          rw [← hsc] at hbl
          rw [hbl]
          exact j5 _ (by omega)
        · rw [if_neg hc] at hsc
          split at hsc
          · rw [hst] at hsc; cases hsc
          · split at hsc <;> rw [hst] at hsc <;> cases hsc
  · intro l k n hl hst _ _ _ p e hp
    exact stop l p e hp (by intro m h; rw [hst] at h; cases h)
  · intro l hl hst p e hp
    exact stop l p e hp (by intro m h; rw [hst] at h; cases h)

/-! ### kind -/
theorem kind_word (s : ByteArray) (hs : s.size ≤ 100000) : ∀ (l : List UInt8) (p : Nat), s.data.toList.drop p = l → p ≤ s.size → ∀ k, l.length + 1 ≤ k → wireloomref08_kind.l0 k s p = some (if l.all isWord = true then 1 else 0) := by
  intro l
  induction l with
  | nil =>
    intro p e hp k hk
    obtain ⟨k, rfl⟩ : ∃ j, k = j + 1 := ⟨k - 1, by omega⟩
    have hl := congrArg List.length e
    rw [List.length_drop, data_size, List.length_nil] at hl
    rw [wireloomref08_kind.l0, if_neg (by omega)]
    rfl
  | cons a r ih =>
    intro p e hp k hk
    obtain ⟨k, rfl⟩ : ∃ j, k = j + 1 := ⟨k - 1, by simp only [List.length_cons] at hk; omega⟩
    obtain ⟨b1, b2, b3, b4⟩ := bt_drop e
    rw [wireloomref08_kind.l0, if_pos (by omega), if_pos (by omega), b2, rword, Option.bind_some, List.all_cons]
    cases ha : isWord a with
    | true =>
      rw [if_pos rfl, w1 p (by omega), ih (p + 1) b3 (by omega) k (by simp only [List.length_cons] at hk; omega)]
      simp
    | false => rw [if_neg (by decide)]; simp
theorem kind_num (s : ByteArray) (hs : s.size ≤ 100000) (h0 : 0 < s.size) : ∀ (l : List UInt8) (p n : Nat), s.data.toList.drop p = l → p ≤ s.size → n ≤ 20000000 → ∀ k, l.length + 1 ≤ k →
    wireloomref08_kind.l1 k s n p = some (if l.all isDig = true ∧ vl n l ≤ 1000000 ∧ ¬ (bt s 0 = 48 ∧ (s.size : Int) > 1) then 2 else 0) := by
  intro l
  induction l with
  | nil =>
    intro p n e hp hn k hk
    obtain ⟨k, rfl⟩ : ∃ j, k = j + 1 := ⟨k - 1, by omega⟩
    have hl := congrArg List.length e
    rw [List.length_drop, data_size, List.length_nil] at hl
    rw [wireloomref08_kind.l1, if_neg (by omega)]
    by_cases hb : (n : Int) > 1000000
    · rw [if_pos hb, if_neg (by rintro ⟨_, h, _⟩; have : n ≤ 1000000 := h; omega)]
    · rw [if_neg hb, if_pos (by omega)]
      have hv : vl n [] ≤ 1000000 := by show n ≤ 1000000; omega
      by_cases h1 : bt s 0 = 48
      · rw [if_pos h1]
        by_cases h2 : (s.size : Int) > 1
        · rw [if_pos h2, if_neg (by rintro ⟨_, _, h⟩; exact h ⟨h1, h2⟩)]
        · rw [if_neg h2, if_pos ⟨rfl, hv, fun h => h2 h.2⟩]
      · rw [if_neg h1, if_pos ⟨rfl, hv, fun h => h1 h.1⟩]
  | cons a r ih =>
    intro p n e hp hn k hk
    simp only [List.length_cons] at hk
    obtain ⟨k, rfl⟩ : ∃ j, k = j + 1 := ⟨k - 1, by omega⟩
    obtain ⟨b1, b2, b3, b4⟩ := bt_drop e
    rw [wireloomref08_kind.l1, if_pos (by omega), if_pos (by omega), b2, rdigit, Option.bind_some, List.all_cons]
    cases ha : isDig a with
    | false => rw [if_neg (by decide), if_neg (by simp)]
    | true =>
      have hd := (dig_iff a).1 ha
      have hg := vl_ge r (10 * n + (a.toNat - 48))
      rw [if_pos rfl]
      by_cases hb : (n : Int) > 1000000
      · rw [if_pos hb, if_neg (by
          rintro ⟨_, h, _⟩
          have h : vl (10 * n + (a.toNat - 48)) r ≤ 1000000 := h
          omega)]
      · have hw : wrap64 (wrap64 (10 * (n : Int)) + (((a.toNat : Int) - 48) % 256)) = ((10 * n + (a.toNat - 48) : Nat) : Int) := by
          rw [w64 (n := 10 * (n : Int)) (by omega), w64 (by omega)]; omega
        rw [if_neg hb, hw, w1 p (by omega), ih (p + 1) _ b3 (by omega) (by omega) k (by omega)]
        simp only [Bool.true_and]
        rfl
/-- THE REFERENCE's KIND OF A STRING. -/
def kindR (l : List UInt8) : Int :=
  match l with
  | [] => 0
  | c :: r => if isDig c = true then wk (c :: r) else if (c :: r).all isWord = true then 1 else 0
theorem kind_ok (s : ByteArray) (hs : s.size ≤ 100000) (k : Nat) (hk : s.size + 1 ≤ k) : wireloomref08_kind.f k s = some (kindR s.data.toList) := by
  have hd := data_size s
  unfold wireloomref08_kind.f
  cases e : s.data.toList with
  | nil => rw [e] at hd; rw [if_pos (by simp at hd; omega)]; rfl
  | cons c r =>
    have e' : s.data.toList.drop 0 = c :: r := e
    obtain ⟨b1, b2, b3, b4⟩ := bt_drop e'
    have b2' : bt s 0 = (c.toNat : Int) := b2
    have hlen : (c :: r).length = s.size := by rw [← e, hd]
    rw [if_neg (by omega), if_pos (by omega), b2', rdigit, Option.bind_some]
    cases hc : isDig c with
    | true =>
      have := kind_num s hs b1 _ 0 0 e' (by omega) (by omega) k (by omega)
      have t : wireloomref08_kind.l1 k s 0 0 = _ := this
      rw [if_pos rfl, t, kindR, if_pos hc, wk_dig c r hc]
      congr 1
      have hl : (¬ (bt s 0 = 48 ∧ (s.size : Int) > 1)) ↔ lead (c :: r) = true := by
        rw [b2']
        cases r with
        | nil =>
          simp only [List.length_cons, List.length_nil] at hlen
          exact ⟨fun _ => rfl, fun _ h => by omega⟩
        | cons d r =>
          simp only [List.length_cons] at hlen
          have hx : lead (c :: d :: r) = true ↔ c ≠ 48 := by simp [lead]
          rw [hx]
          exact ⟨fun h h48 => h ⟨by subst h48; rfl, by omega⟩, fun h h' => ne_num (n := 48) (m := 48) rfl h h'.1⟩
      simp only [hl]
    | false =>
      have := kind_word s hs _ 0 e' (by omega) k (by omega)
      have t : wireloomref08_kind.l0 k s 0 = _ := this
      have hf : ¬ isDig c = true := by rw [hc]; decide
      rw [if_neg (by decide), t, kindR, if_neg hf]

/-! ### sign -/
theorem sign_loop (s : ByteArray) (p : Nat) {a : UInt8} {r : List UInt8} (e : s.data.toList.drop p = a :: r) : ∀ k, 30 ≤ k → wireloomref08_sign.l0 k s p 0 = some (if isSign a = true then 1 else 0) := by
  intro k hk
  obtain ⟨b1, b2, b3, b4⟩ := bt_drop e
  obtain ⟨k, rfl⟩ : ∃ j, k = j + 30 := ⟨k - 30, by omega⟩
  have step1 : ∀ (k n : Nat) (c : UInt8), n < 21 → bt (⟨#[40, 41, 123, 125, 91, 93, 44, 59, 58, 61, 43, 45, 38, 124, 94, 126, 60, 63, 64, 35, 46]⟩ : ByteArray) n = (c.toNat : Int) → wireloomref08_sign.l0 (k + 1) s p n = if a = c then some 1 else wireloomref08_sign.l0 k s p ((n + 1 : Nat) : Int) := by
    intro k n c hn hb
    rw [wireloomref08_sign.l0, if_pos (by omega), if_pos (by omega), if_pos (by omega), if_pos (by omega), hb, b2, w1 n (by omega)]
    by_cases h : a = c
    · rw [if_pos h, if_pos (by rw [h])]
    · rw [if_neg h, if_neg (fun x => h (UInt8.toNat_inj.1 (by omega)))]
  have h0 := step1 (k + 29) 0 40 (by omega) rfl
  have h1 := step1 (k + 28) 1 41 (by omega) rfl
  have h2 := step1 (k + 27) 2 123 (by omega) rfl
  have h3 := step1 (k + 26) 3 125 (by omega) rfl
  have h4 := step1 (k + 25) 4 91 (by omega) rfl
  have h5 := step1 (k + 24) 5 93 (by omega) rfl
  have h6 := step1 (k + 23) 6 44 (by omega) rfl
  have h7 := step1 (k + 22) 7 59 (by omega) rfl
  have h8 := step1 (k + 21) 8 58 (by omega) rfl
  have h9 := step1 (k + 20) 9 61 (by omega) rfl
  have h10 := step1 (k + 19) 10 43 (by omega) rfl
  have h11 := step1 (k + 18) 11 45 (by omega) rfl
  have h12 := step1 (k + 17) 12 38 (by omega) rfl
  have h13 := step1 (k + 16) 13 124 (by omega) rfl
  have h14 := step1 (k + 15) 14 94 (by omega) rfl
  have h15 := step1 (k + 14) 15 126 (by omega) rfl
  have h16 := step1 (k + 13) 16 60 (by omega) rfl
  have h17 := step1 (k + 12) 17 63 (by omega) rfl
  have h18 := step1 (k + 11) 18 64 (by omega) rfl
  have h19 := step1 (k + 10) 19 35 (by omega) rfl
  have h20 := step1 (k + 9) 20 46 (by omega) rfl
  have h21 : wireloomref08_sign.l0 (k + 9) s p 21 = some 0 := by rw [wireloomref08_sign.l0, if_neg (by omega)]
  have g0 : wireloomref08_sign.l0 (k + 30) s p 0 = _ := h0
  rw [g0, h1, h2, h3, h4, h5, h6, h7, h8, h9, h10, h11, h12, h13, h14, h15, h16, h17, h18, h19, h20]
  have g21 : wireloomref08_sign.l0 (k + 9) s p ((20 + 1 : Nat) : Int) = some 0 := h21
  rw [g21]
  have hm : isSign a = true ↔ (a = 40 ∨ a = 41 ∨ a = 123 ∨ a = 125 ∨ a = 91 ∨ a = 93 ∨ a = 44 ∨ a = 59 ∨ a = 58 ∨ a = 61 ∨ a = 43 ∨ a = 45 ∨ a = 38 ∨ a = 124 ∨ a = 94 ∨ a = 126 ∨ a = 60 ∨ a = 63 ∨ a = 64 ∨ a = 35 ∨ a = 46) := by
    simp [isSign, signs]
  by_cases hs : isSign a = true
  · rw [if_pos hs]
    rcases hm.1 hs with h | h | h | h | h | h | h | h | h | h | h | h | h | h | h | h | h | h | h | h | h <;> subst h <;> rfl
  · rw [if_neg hs]
    have hn := mt hm.2 hs
    simp only [not_or] at hn
    obtain ⟨n0, n1, n2, n3, n4, n5, n6, n7, n8, n9, n10, n11, n12, n13, n14, n15, n16, n17, n18, n19, n20⟩ := hn
    rw [if_neg n0, if_neg n1, if_neg n2, if_neg n3, if_neg n4, if_neg n5, if_neg n6, if_neg n7, if_neg n8, if_neg n9, if_neg n10, if_neg n11, if_neg n12, if_neg n13, if_neg n14, if_neg n15, if_neg n16, if_neg n17, if_neg n18, if_neg n19, if_neg n20]
theorem sign_ok (s : ByteArray) (hs : s.size ≤ 100000) (p : Nat) (hp : p < s.size) (k : Nat) (hk : 31 ≤ k) : wireloomref08_sign.f k s p = some (signLen (s.data.toList.drop p) : Int) := by
  cases e : s.data.toList.drop p with
  | nil => have := congrArg List.length e; rw [List.length_drop, data_size] at this; simp at this; omega
  | cons a r =>
    obtain ⟨b1, b2, b3, b4⟩ := bt_drop e
    obtain ⟨k, rfl⟩ : ∃ j, k = j + 1 := ⟨k - 1, by omega⟩
    have hj0 : wireloomref08_sign.j0 (k + 1) s p false = some (if isSign a = true then 1 else 0) := by
      rw [wireloomref08_sign.j0, if_neg (by decide)]
      exact sign_loop s p e k (by omega)
    have hj1 : wireloomref08_sign.j0 (k + 1) s p true = some 2 := by rw [wireloomref08_sign.j0, if_pos rfl]
    have hif : ((if isSign a = true then 1 else 0 : Nat) : Int) = if isSign a = true then 1 else 0 := by split <;> rfl
    unfold wireloomref08_sign.f
    rw [signLen_cons, w1 p (by omega)]
    cases r with
    | nil =>
      simp only [List.length_nil] at b4
      have hx : ¬ ((a == 45 && ([] : List UInt8).head? == some 62) || (a == 61 && ([] : List UInt8).head? == some 61)) = true := by simp
      rw [if_neg (by omega), hj0, if_neg hx, hif]
    | cons b r =>
      obtain ⟨g1, g2, g3, g4⟩ := bt_drop b3
      rw [if_pos (by omega), if_pos (by omega), if_pos (by omega), b2, g2]
      by_cases h45 : a = 45
      · subst h45
        rw [if_pos (show ((45 : UInt8).toNat : Int) = 45 from rfl), if_pos (by omega)]
        by_cases h62 : b = 62
        · subst h62
          rw [if_pos (show ((62 : UInt8).toNat : Int) = 62 from rfl), hj1]
          rfl
        · rw [if_neg (ne_num (n := 62) (m := 62) rfl h62), if_neg (show ¬ ((45 : UInt8).toNat : Int) = 61 by decide), hj0, if_neg (show ¬ (((45 : UInt8) == 45 && (b :: r).head? == some 62) || ((45 : UInt8) == 61 && (b :: r).head? == some 61)) = true by simp [h62]), hif]
      · rw [if_neg (ne_num (n := 45) (m := 45) rfl h45)]
        by_cases h61 : a = 61
        · subst h61
          rw [if_pos (show ((61 : UInt8).toNat : Int) = 61 from rfl), if_pos (by omega)]
          by_cases hb : b = 61
          · subst hb
            rw [show (((61 : UInt8).toNat : Int) == 61) = true from rfl, hj1]
            rfl
          · rw [show ((b.toNat : Int) == 61) = false by rw [beq_eq_false_iff_ne]; exact ne_num (n := 61) (m := 61) rfl hb, hj0, if_neg (show ¬ (((61 : UInt8) == 45 && (b :: r).head? == some 62) || ((61 : UInt8) == 61 && (b :: r).head? == some 61)) = true by simp [hb]), hif]
        · rw [if_neg (ne_num (n := 61) (m := 61) rfl h61), hj0, if_neg (show ¬ ((a == 45 && (b :: r).head? == some 62) || (a == 61 && (b :: r).head? == some 61)) = true by simp [h45, h61]), hif]
end Go.Proofs.YtoongglmgpilfaaDoor.L
