import Derived.Test.YtoongglmgpilfaaDoorPList
namespace Go.Proofs.YtoongglmgpilfaaDoor.L
set_option linter.unusedVariables false
set_option linter.unusedSimpArgs false
open Go.RowKit Go.Proofs.YtoongglmgpilfaaDoorW.PrintWords Go.Proofs.YtoongglmgpilfaaDoorW.PrintLast Lx

theorem ext_list (s : ByteArray) (a b : Nat) : (s.extract a b).data.toList = (s.data.toList.drop a).take (b - a) := by
  rw [ByteArray.data_extract, Array.toList_extract]
theorem rest_eq (s : ByteArray) (p : Nat) : rest s p = s.data.toList.drop p := by
  unfold rest
  rw [ext_list, Int.toNat_natCast, List.take_of_length_le]
  rw [List.length_drop, data_size]; exact Nat.le_refl _
theorem cls_word : ∀ i : Fin 256, ([1, 2] : List Int).contains (clsI (i.val : Int)) = isWord (UInt8.ofNat i.val) := by decide +kernel
theorem cls_white : ∀ i : Fin 256, ([3] : List Int).contains (clsI (i.val : Int)) = isWhite (UInt8.ofNat i.val) := by decide +kernel
theorem cls_sign : ∀ i : Fin 256, ([4] : List Int).contains (clsI (i.val : Int)) = isSign (UInt8.ofNat i.val) := by decide +kernel
theorem cls_w (c : UInt8) : ([1, 2] : List Int).contains (clsI (c.toNat : Int)) = isWord c := by
  have := cls_word ⟨c.toNat, c.toNat_lt⟩
  rwa [show UInt8.ofNat c.toNat = c from UInt8.ofNat_toNat] at this
theorem cls_s (c : UInt8) : ([3] : List Int).contains (clsI (c.toNat : Int)) = isWhite c := by
  have := cls_white ⟨c.toNat, c.toNat_lt⟩
  rwa [show UInt8.ofNat c.toNat = c from UInt8.ofNat_toNat] at this
theorem cls_g (c : UInt8) : ([4] : List Int).contains (clsI (c.toNat : Int)) = isSign c := by
  have := cls_sign ⟨c.toNat, c.toNat_lt⟩
  rwa [show UInt8.ofNat c.toNat = c from UInt8.ofNat_toNat] at this
theorem isR_get (s : ByteArray) (j : Nat) (cl : List Int) : isR s j cl = (s.data.toList[j]?).any fun c => cl.contains (clsI (c.toNat : Int)) := by
  unfold isR
  by_cases h : j < s.size
  · have hl : j < s.data.toList.length := by rw [data_size]; exact h
    rw [bt_get s j h, List.getElem?_eq_getElem hl, decide_eq_true (by omega)]
    rfl
  · have hl : s.data.toList.length ≤ j := by rw [data_size]; omega
    rw [List.getElem?_eq_none hl, decide_eq_false (by omega)]
    rfl
theorem word_len (l : List UInt8) : ∀ n : Nat, (∀ k < n, (l[k]?).any isWord = true) → (l[n]?).any isWord = false → n = (l.takeWhile isWord).length := by
  induction l with
  | nil =>
    intro n h1 h2
    cases n with
    | zero => rfl
    | succ n => have := h1 0 (by omega); simp at this
  | cons a r ih =>
    intro n h1 h2
    cases n with
    | zero =>
      simp at h2
      simp [List.takeWhile_cons, h2]
    | succ n =>
      have h0 := h1 0 (by omega)
      simp at h0
      rw [List.takeWhile_cons, if_pos h0, List.length_cons]
      have := ih n (fun k hk => by have := h1 (k + 1) (by omega); simpa using this) (by simpa using h2)
      omega
theorem nl_len (l : List UInt8) : (if Lib.indexByte l 10 = -1 then (l.length : Int) else Lib.indexByte l 10) = (l.takeWhile notNl).length := by
  induction l with
  | nil => rfl
  | cons b r ih =>
    have hge := Lib.indexByte_ge r 10
    unfold Lib.indexByte
    by_cases hb : b = 10
    · subst hb
      rfl
    · have h1 : (b == 10) = false := by simpa using hb
      have h2 : notNl b = true := by simpa [notNl] using hb
      rw [List.takeWhile_cons, if_pos h2, h1]
      simp only [Bool.false_eq_true, if_false, List.length_cons]
      by_cases hi : Lib.indexByte r 10 = -1
      · rw [if_pos hi] at ih
        simp only [hi, beq_self_eq_true, if_true]
        omega
      · rw [if_neg hi] at ih
        have hi2 : (Lib.indexByte r 10 == -1) = false := by simpa using hi
        simp only [hi2, Bool.false_eq_true, if_false]
        rw [if_neg (by omega)]
        omega
theorem drop_get (s : ByteArray) (p k : Nat) : s.data.toList[p + k]? = (s.data.toList.drop p)[k]? := by rw [List.getElem?_drop]
theorem drop_get0 (s : ByteArray) (p : Nat) : s.data.toList[p]? = (s.data.toList.drop p)[0]? := by rw [List.getElem?_drop, Nat.add_zero]
theorem pre_two (a x y : UInt8) (r : List UInt8) : Lib.hasPrefix (a :: r) [x, y] = (a == x && r.head? == some y) := by
  unfold Lib.hasPrefix
  cases r with
  | nil => simp [List.isPrefixOf]
  | cons b r =>
    simp only [List.isPrefixOf, List.head?_cons, Bool.and_true]
    rw [BEq.comm (a := x) (b := a), BEq.comm (a := y) (b := b)]
    rfl

theorem wdN_len (s : ByteArray) (p : Nat) (hp : p ≤ s.size) : wdN s p = ((s.data.toList.drop p).takeWhile isWord).length := by
  obtain ⟨h1, h2, h3, h4⟩ := wdN_spec s p (by omega) (by omega)
  obtain ⟨n, hn⟩ : ∃ n : Nat, wdN s p = n := ⟨(wdN s p).toNat, by omega⟩
  rw [hn] at h1 h2 h4 ⊢
  have hf : (fun c : UInt8 => ([1, 2] : List Int).contains (clsI (c.toNat : Int))) = isWord := funext cls_w
  have := word_len (s.data.toList.drop p) n (fun k hk => by
    have := h1 k (by omega) (by omega)
    rw [show ((p : Int) + (k : Int)) = ((p + k : Nat) : Int) by omega, isR_get, hf, drop_get] at this
    exact this) (by
    rw [show ((p : Int) + (n : Int)) = ((p + n : Nat) : Int) by omega, isR_get, hf, drop_get] at h2
    exact h2)
  omega
theorem take_tw (p : UInt8 → Bool) (l : List UInt8) : l.take (l.takeWhile p).length = l.takeWhile p :=
  (List.prefix_iff_eq_take.1 (List.takeWhile_prefix p (l := l))).symm
theorem wdK_eq (s : ByteArray) (p : Nat) (hp : p ≤ s.size) : wdK s p = wk ((s.data.toList.drop p).takeWhile isWord) := by
  unfold wdK
  rw [wdN_len s p hp, ext_list, show ((p : Int).toNat) = p by omega, show ((p : Int) + (((s.data.toList.drop p).takeWhile isWord).length : Int)).toNat - p = ((s.data.toList.drop p).takeWhile isWord).length by omega, take_tw]
theorem sgN_eq (s : ByteArray) (p : Nat) (hp : p < s.size) : sgN s p = signLen (s.data.toList.drop p) := by
  have hl : p < s.data.toList.length := by rw [data_size]; exact hp
  have hf : (fun c : UInt8 => ([4] : List Int).contains (clsI (c.toNat : Int))) = isSign := funext cls_g
  unfold sgN
  rw [rest_eq, isR_get, hf, drop_get0]
  cases e : s.data.toList.drop p with
  | nil => have := congrArg List.length e; rw [List.length_drop] at this; simp at this; omega
  | cons a r =>
    rw [pre_two, pre_two, signLen_cons]
    simp only [List.getElem?_cons_zero, Option.any_some]
    by_cases h1 : (a == 45 && r.head? == some 62) = true
    · rw [if_pos h1, if_pos (by rw [h1]; rfl)]; rfl
    · by_cases h2 : (a == 61 && r.head? == some 61) = true
      · rw [if_neg h1, if_pos h2, if_pos (by rw [h2]; simp)]; rfl
      · have h12 : ¬ ((a == 45 && r.head? == some 62) || (a == 61 && r.head? == some 61)) = true := by
          simp only [Bool.not_eq_true] at h1 h2
          rw [h1, h2]
          decide
        rw [if_neg h1, if_neg h2, if_neg h12]
        split <;> rfl
theorem sp_eq (s : ByteArray) (p : Nat) (hp : p < s.size) : ∃ a r, s.data.toList.drop p = a :: r ∧ spB s p = (isWhite a || isCom (a :: r)) ∧
    spN s p = if isWhite a = true then 1 else if isCom (a :: r) = true then (((a :: r).takeWhile notNl).length : Int) else 0 := by
  have hl : p < s.data.toList.length := by rw [data_size]; exact hp
  have hf : (fun c : UInt8 => ([3] : List Int).contains (clsI (c.toNat : Int))) = isWhite := funext cls_s
  cases e : s.data.toList.drop p with
  | nil => have := congrArg List.length e; rw [List.length_drop] at this; simp at this; omega
  | cons a r =>
    have hR : isR s p [3] = isWhite a := by
      rw [isR_get, hf, drop_get0, e]
      rfl
    have hlen : ((a :: r).length : Int) = s.size - p := by
      have := congrArg List.length e
      rw [List.length_drop, data_size] at this
      omega
    refine ⟨a, r, rfl, ?_, ?_⟩
    · unfold spB
      rw [rest_eq, hR, e, pre_two]
      rfl
    · unfold spN
      rw [rest_eq, hR, e, pre_two, ← hlen, nl_len]
      rfl
theorem step_is (s : ByteArray) (p : Nat) (hp : p < s.size) :
    (spB s p = true ∧ ∃ n : Nat, spN s p = n ∧ Lx.step (s.data.toList.drop p) = .skip n) ∨
    (spB s p = false ∧ wdK s p ≠ 0 ∧ ∃ n : Nat, wdN s p = n ∧ Lx.step (s.data.toList.drop p) = .tok (wdK s p) n) ∨
    (spB s p = false ∧ wdK s p = 0 ∧ sgN s p ≠ 0 ∧ ∃ n : Nat, sgN s p = n ∧ Lx.step (s.data.toList.drop p) = .tok 3 n) ∨
    (spB s p = false ∧ wdK s p = 0 ∧ sgN s p = 0 ∧ Lx.step (s.data.toList.drop p) = .bad) := by
  obtain ⟨a, r, e, h1, h2⟩ := sp_eq s p hp
  have h3 := wdK_eq s p (by omega)
  have h4 := wdN_len s p (by omega)
  have h5 := sgN_eq s p hp
  rw [e] at h3 h4 h5 ⊢
  rw [step_cons]
  by_cases hw : isWhite a = true
  · left
    rw [if_pos hw] at h2
    exact ⟨by rw [h1, hw]; rfl, 1, h2, by rw [if_pos hw]⟩
  · rw [if_neg hw] at h2 ⊢
    by_cases hc : isCom (a :: r) = true
    · left
      rw [if_pos hc] at h2
      exact ⟨by rw [h1, hc]; simp, _, h2, by rw [if_pos hc]⟩
    · right
      rw [if_neg hc]
      have hb : spB s p = false := by simp only [Bool.not_eq_true] at hw hc; rw [h1, hw, hc]; rfl
      by_cases hk : wdK s p ≠ 0
      · left
        refine ⟨hb, hk, _, h4, ?_⟩
        rw [h3] at hk ⊢
        rw [if_pos hk]
      · have hk0 : wdK s p = 0 := by omega
        right
        rw [h3] at hk
        rw [if_neg hk]
        by_cases hg : sgN s p ≠ 0
        · left
          refine ⟨hb, hk0, hg, _, h5, ?_⟩
          rw [if_pos (by omega)]
        · right
          exact ⟨hb, hk0, by omega, by rw [if_neg (by omega)]⟩

/-- a token, as the program holds it -/
def conv (t : Tok) : S39 := ⟨t.kind, ⟨t.text.toArray⟩, t.off⟩
def endT (s : ByteArray) : S39 := ⟨4, ⟨#[]⟩, s.size⟩
def lexR (s : ByteArray) (p : Nat) (toks : List S39) (z : List Tok × Option Nat) : Option (List S39 × Int × Int) :=
  match z.2 with
  | none => some (toks ++ z.1.map conv ++ [endT s], 0, 0)
  | some e => some ([], e, 5)
theorem ext_tok (s : ByteArray) (p n : Nat) : s.extract (p : Int).toNat ((p : Int) + (n : Int)).toNat = ⟨((s.data.toList.drop p).take n).toArray⟩ := by
  apply bytes_ext
  rw [ext_list, show ((p : Int).toNat) = p by omega, show ((p : Int) + (n : Int)).toNat - p = n by omega]
theorem lxF_eq (s : ByteArray) : ∀ (f p : Nat) (toks : List S39), p ≤ s.size → s.size - p < f → lxF s f p toks = lexR s p toks (lex p (s.data.toList.drop p)) := by
  intro f
  induction f with
  | zero => intro p toks h1 h2; omega
  | succ f ih =>
    intro p toks h1 h2
    unfold lxF
    by_cases hp : p < s.size
    · rw [if_pos (by omega)]
      have hlen : (Lx.step (s.data.toList.drop p)).len ≤ s.size - p := by
        have := step_le (s.data.toList.drop p)
        rw [List.length_drop, data_size] at this
        exact this
      have hne : s.data.toList.drop p ≠ [] := by
        intro e
        have := congrArg List.length e
        rw [List.length_drop, data_size] at this
        simp at this; omega
      rcases step_is s p hp with ⟨a1, n, a2, a3⟩ | ⟨a1, b1, n, a2, a3⟩ | ⟨a1, b1, b2, n, a2, a3⟩ | ⟨a1, b1, b2, a3⟩
      · rw [if_pos a1, a2, lex_skip p a3, List.drop_drop, show ((p : Int) + (n : Int)) = ((p + n : Nat) : Int) by omega]
        have := step_pos_skip a3
        rw [a3] at hlen
        exact ih (p + n) toks (by simp only [St.len] at hlen; omega) (by omega)
      · rw [if_neg (by rw [a1]; decide), if_pos b1, a2, lex_tok p a3, List.drop_drop, ext_tok, show ((p : Int) + (n : Int)) = ((p + n : Nat) : Int) by omega]
        have := step_pos_tok a3
        rw [a3] at hlen
        rw [ih (p + n) _ (by simp only [St.len] at hlen; omega) (by omega)]
        unfold lexR
        simp only [List.map_cons, List.append_assoc, List.cons_append, List.nil_append]
        rfl
      · rw [if_neg (by rw [a1]; decide), if_neg (by omega), if_pos b2, a2, lex_tok p a3, List.drop_drop, ext_tok, show ((p : Int) + (n : Int)) = ((p + n : Nat) : Int) by omega]
        have := step_pos_tok a3
        rw [a3] at hlen
        rw [ih (p + n) _ (by simp only [St.len] at hlen; omega) (by omega)]
        unfold lexR
        simp only [List.map_cons, List.append_assoc, List.cons_append, List.nil_append]
        rfl
      · rw [if_neg (by rw [a1]; decide), if_neg (by omega), if_neg (by omega), lex_bad p hne a3]
        rfl
    · have e : p = s.size := by omega
      subst e
      rw [if_neg (by omega), List.drop_of_length_le (by rw [data_size]; exact Nat.le_refl _), lex_nil]
      have : s.extract ((s.size : Int)).toNat ((s.size : Int) + 0).toNat = ⟨#[]⟩ := by
        apply bytes_ext
        rw [ext_list, show ((s.size : Int) + 0).toNat - (s.size : Int).toNat = 0 by omega]
        rfl
      rw [this]
      unfold lexR
      simp [endT]
/-- LEX, WHAT IT ANSWERS. -/
theorem Lex_ok (s : ByteArray) (h : s.size ≤ 8000) : lexer_Lex.f s = lexR s 0 [] (lex 0 s.data.toList) := by
  unfold lexer_Lex.f
  rw [if_neg (by omega)]
  exact lxF_eq s (s.size + 1) 0 [] (by omega) (by omega)
theorem lexed_ok (s : ByteArray) (h : s.size ≤ 8000) : wireloomlaw08_lexed.f s = lexR s 0 [] (lex 0 s.data.toList) := by
  unfold wireloomlaw08_lexed.f
  rw [Lex_ok s h]
  unfold lexR
  split <;> rfl
theorem lexed_big (s : ByteArray) (h : 8000 < s.size) : wireloomlaw08_lexed.f s = some ([], 0, 2) := by
  unfold wireloomlaw08_lexed.f lexer_Lex.f
  rw [if_pos h]
  rfl
/-- KIND, WHAT IT ANSWERS. -/
theorem kdF_eq (s : ByteArray) : kdF s = kd s.data.toList := by
  unfold kdF kd
  by_cases hs : s.size = 0
  · have e : s.data.toList = [] := List.length_eq_zero_iff.1 (by rw [data_size]; exact hs)
    have h1 := wdK_eq s 0 (by omega)
    have h2 : sgN s 0 = 0 := by
      unfold sgN
      have hr : rest s ((0 : Nat) : Int) = [] := by rw [rest_eq, e]; rfl
      have hi : isR s ((0 : Nat) : Int) [4] = false := by rw [isR_get, e]; rfl
      have hr' : rest s 0 = [] := hr
      have hi' : isR s 0 [4] = false := hi
      rw [hr', hi']
      rfl
    have h1' : wdK s 0 = 0 := h1.trans (by rw [e]; rfl)
    rw [h1', h2, e]
    rfl
  · have h1 : wdK s 0 = _ := wdK_eq s 0 (by omega)
    have h2 : wdN s 0 = _ := wdN_len s 0 (by omega)
    have h3 : sgN s 0 = _ := sgN_eq s 0 (by omega)
    rw [List.drop_zero] at h1 h2 h3
    have hd := data_size s
    cases e : s.data.toList with
    | nil => rw [e] at hd; simp at hd; omega
    | cons a r =>
      rw [e] at h1 h2 h3 hd
      rw [step_cons]
      have hnw : ∀ x, isWord a = false → (a :: r).takeWhile isWord = x → x = [] := by
        intro x hx hy
        rw [← hy]
        simp [List.takeWhile_cons, hx]
      by_cases hw : isWhite a = true
      · have ha : a = 32 ∨ a = 10 := by simpa [isWhite] using hw
        have hw0 : isWord a = false := by rcases ha with rfl | rfl <;> decide
        have hg0 : signLen (a :: r) = 0 := by rcases ha with rfl | rfl <;> rfl
        have hk0 : wdK s 0 = 0 := by rw [h1, hnw _ hw0 rfl]; rfl
        rw [if_neg (by omega), if_neg (by omega), if_pos hw]
      · rw [if_neg hw]
        by_cases hc : isCom (a :: r) = true
        · have ha : a = 47 := by simp [isCom] at hc; exact hc.1
          have hw0 : isWord a = false := by subst ha; decide
          have hg0 : signLen (a :: r) = 0 := by subst ha; rfl
          have hk0 : wdK s 0 = 0 := by rw [h1, hnw _ hw0 rfl]; rfl
          rw [if_neg (by omega), if_neg (by omega), if_pos hc]
        · rw [if_neg hc, ← h1]
          by_cases hk : wdK s 0 ≠ 0
          · rw [if_pos hk]
            simp only []
            by_cases hn : ((a :: r).takeWhile isWord).length = (a :: r).length
            · rw [if_pos ⟨hk, by omega⟩, if_pos hn]
            · have hg0 : signLen (a :: r) = 0 := by
                by_cases hg : signLen (a :: r) ≠ 0
                · exfalso
                  apply hk
                  rw [h1, hnw _ (sign_head hg) rfl]
                  rfl
                · omega
              rw [if_neg (by omega), if_neg (by omega), if_neg hn]
          · rw [if_neg (by omega), if_neg hk]
            by_cases hg : signLen (a :: r) ≠ 0
            · rw [if_pos hg]
              simp only []
              by_cases hn : signLen (a :: r) = (a :: r).length
              · rw [if_pos ⟨by omega, by omega⟩, if_pos hn]
              · rw [if_neg (by omega), if_neg hn]
            · rw [if_neg (by omega), if_neg hg]
theorem Kind_ok (s : ByteArray) (h : s.size ≤ 140737488351232) : lexer_Kind.f s = some (kd s.data.toList) := by
  unfold lexer_Kind.f
  rw [if_pos h, kdF_eq]
end Go.Proofs.YtoongglmgpilfaaDoor.L
