/- The reference's ParseIn accepts exactly the texts of the valid fractions. -/
import Derived.Test.YtndfjpnpdnnpkaaDoorPTp
namespace Go.Proofs.YtndfjpnpdnnpkaaDoor.F
set_option linter.unusedVariables false
set_option linter.unusedSimpArgs false
open Go.RowKit Go.Proofs.YtndfjpnpdnnpkaaDoorW.PrintWords Go.Proofs.YtndfjpnpdnnpkaaDoorW.PrintLast Go.Proofs.YtndfjpnpdnnpkaaDoorW.PrintMore
theorem j1f (k : Nat) (s : ByteArray) (i v c : Int) : wireloomref02_read.j1 (k + 1) s i v c false = some (v, i) := by rw [wireloomref02_read.j1, if_neg (by decide)]
theorem read_run : ∀ (ds pre : List UInt8) (acc cnt : Nat) (rest : List UInt8), (∀ c ∈ ds, dg c) → cnt + ds.length ≤ 19 → vl acc ds ≤ 4611686018427387904 → (∀ c r, rest = c :: r → ¬ dg c) → (pre ++ (ds ++ rest)).length ≤ 1000000 →
    ∃ k, wireloomref02_read.l0 k (B (pre ++ (ds ++ rest))) (pre.length : Int) (acc : Int) (cnt : Int) = some (((vl acc ds : Nat) : Int), ((pre.length + ds.length : Nat) : Int)) := by
  intro ds
  induction ds with
  | nil =>
    intro pre acc cnt rest _ _ _ hr hl
    refine ⟨2, ?_⟩
    rw [wireloomref02_read.l0]
    show _ = some ((acc : Int), ((pre.length : Nat) : Int))
    by_cases hc : (cnt : Int) < 19
    · rw [if_pos hc]
      cases hrest : rest with
      | nil =>
        rw [if_neg (by rw [B_size]; simp), j1f]
      | cons c r =>
        have hn := hr c r hrest
        rw [List.nil_append, if_pos (by rw [B_size]; simp; omega), if_pos (by omega), bt_at]
        by_cases h48 : (c.toNat : Int) ≥ 48
        · rw [if_pos h48, decide_eq_false (by unfold dg at hn; omega), j1f]
        · rw [if_neg h48, j1f]
    · rw [if_neg hc, j1f]
  | cons c ds ih =>
    intro pre acc cnt rest hd hcnt hv hr hl
    have hc : dg c := hd c (by simp)
    unfold dg at hc
    have hv' : vl (10 * acc + (c.toNat - 48)) ds ≤ 4611686018427387904 := hv
    have hg := vl_ge ds (10 * acc + (c.toNat - 48))
    have hlen : (pre ++ (c :: ds ++ rest)).length = pre.length + (ds.length + 1 + rest.length) := by simp; omega
    rw [List.length_cons] at hcnt
    have hsplit : pre ++ (c :: ds ++ rest) = (pre ++ [c]) ++ (ds ++ rest) := by simp
    obtain ⟨k, hk⟩ := ih (pre ++ [c]) (10 * acc + (c.toNat - 48)) (cnt + 1) rest (fun c hc => hd c (by simp [hc])) (by omega) hv' hr (by rw [← hsplit]; exact hl)
    refine ⟨k + 2, ?_⟩
    have hsz : ((B (pre ++ (c :: ds ++ rest))).size : Int) = (pre.length + (ds.length + 1 + rest.length) : Nat) := by rw [B_size, hlen]
    have hbt : bt (B (pre ++ (c :: ds ++ rest))) (pre.length : Int) = (c.toNat : Int) := bt_at pre c (ds ++ rest)
    rw [wireloomref02_read.l0, if_pos (by omega), if_pos (by omega), if_pos (by omega), hbt, if_pos (by omega), decide_eq_true (by omega), wireloomref02_read.j1, if_pos rfl, MostR, Option.bind_some,
      show wrap64 (Int.tdiv 4611686018427387904 10) = 461168601842738790 by decide +kernel, if_neg (by omega), if_pos (by omega), if_pos (by omega), hbt, w64 (n := (pre.length : Int) + 1) (by omega), w64 (n := 10 * (acc : Int)) (by omega), w64 (by omega), w64 (n := (cnt : Int) + 1) (by omega)]
    rw [← hsplit] at hk
    have e1 : (((pre ++ [c]).length : Nat) : Int) = (pre.length : Int) + 1 := by simp
    have e2 : ((10 * acc + (c.toNat - 48) : Nat) : Int) = 10 * (acc : Int) + ((c.toNat : Int) - 48) % 256 := by omega
    have e3 : ((cnt + 1 : Nat) : Int) = (cnt : Int) + 1 := by omega
    rw [e1, e2, e3] at hk
    rw [hk]
    show some (((vl (10 * acc + (c.toNat - 48)) ds : Nat) : Int), _) = some (((vl (10 * acc + (c.toNat - 48)) ds : Nat) : Int), _)
    congr 2
    rw [List.length_append, List.length_cons, List.length_nil, List.length_cons]
    omega
theorem read_tot (s : ByteArray) (hs : s.size ≤ 1000000) : ∀ (n : Nat) (i v c : Int), (s.size : Int) - i ≤ n → 0 ≤ i → i ≤ s.size → ∃ k v' j, wireloomref02_read.l0 k s i v c = some (v', j) ∧ 0 ≤ j ∧ j ≤ s.size := by
  intro n
  induction n with
  | zero =>
    intro i v c h h0 h1
    refine ⟨2, v, i, ?_, h0, h1⟩
    rw [wireloomref02_read.l0]
    split
    · rw [if_neg (by omega), j1f]
    · rw [j1f]
  | succ n ih =>
    intro i v c h h0 h1
    have hF : ∃ k v' j, wireloomref02_read.j1 k s i v c false = some (v', j) ∧ 0 ≤ j ∧ j ≤ s.size := ⟨1, v, i, j1f 0 s i v c, h0, h1⟩
    have hB : ∀ b : Bool, i < s.size → ∃ k v' j, wireloomref02_read.j1 k s i v c b = some (v', j) ∧ 0 ≤ j ∧ j ≤ s.size := by
      intro b hlt
      cases b with
      | false => exact hF
      | true =>
        by_cases hm : v > wrap64 (Int.tdiv 4611686018427387904 10)
        · exact ⟨1, 0, s.size, by rw [wireloomref02_read.j1, if_pos rfl, MostR, Option.bind_some, if_pos hm], by omega, by omega⟩
        · obtain ⟨k, v', j, hk, q⟩ := ih (i + 1) (wrap64 (wrap64 (10 * v) + (bt s i - 48) % 256)) (wrap64 (c + 1)) (by omega) (by omega) (by omega)
          exact ⟨k + 1, v', j, by rw [wireloomref02_read.j1, if_pos rfl, MostR, Option.bind_some, if_neg hm, if_pos h0, if_pos hlt, w64 (n := i + 1) (by omega)]; exact hk, q⟩
    have lift : ∀ b : Bool, (∃ k v' j, wireloomref02_read.j1 k s i v c b = some (v', j) ∧ 0 ≤ j ∧ j ≤ s.size) → (∀ k, wireloomref02_read.l0 (k + 1) s i v c = wireloomref02_read.j1 k s i v c b) → ∃ k v' j, wireloomref02_read.l0 k s i v c = some (v', j) ∧ 0 ≤ j ∧ j ≤ s.size := by
      rintro b ⟨k, v', j, hk, q⟩ he
      exact ⟨k + 1, v', j, by rw [he]; exact hk, q⟩
    by_cases h19 : c < 19
    · by_cases hlt : i < s.size
      · by_cases h48 : bt s i ≥ 48
        · exact lift _ (hB (decide (bt s i ≤ 57)) hlt) (fun k => by rw [wireloomref02_read.l0, if_pos h19, if_pos hlt, if_pos h0, if_pos h48])
        · exact lift _ hF (fun k => by rw [wireloomref02_read.l0, if_pos h19, if_pos hlt, if_pos h0, if_neg h48])
      · exact lift _ hF (fun k => by rw [wireloomref02_read.l0, if_pos h19, if_neg hlt])
    · exact lift _ hF (fun k => by rw [wireloomref02_read.l0, if_neg h19])
theorem rup {k k' : Nat} (h : k ≤ k') {s : ByteArray} {i : Int} {r : Int × Int} (e : wireloomref02_read.f k s i = some r) : wireloomref02_read.f k' s i = some r :=
  at_rounds (g := fun k => wireloomref02_read.f k s i) (fun k => wireloomref02_read.mono _ _ k) h e
theorem vup {k k' : Nat} (h : k ≤ k') {n d : Int} {r : Bool} (e : wireloomref02_Valid.f k n d = some r) : wireloomref02_Valid.f k' n d = some r :=
  at_rounds (g := fun k => wireloomref02_Valid.f k n d) (fun k => wireloomref02_Valid.mono _ _ k) h e
theorem tup {k k' : Nat} (h : k ≤ k') {n d : Int} {r : ByteArray} (e : wireloomref02_Text.f k n d = some r) : wireloomref02_Text.f k' n d = some r :=
  at_rounds (g := fun k => wireloomref02_Text.f k n d) (fun k => wireloomref02_Text.mono _ _ k) h e
theorem j3_tot (l : List UInt8) (n d : Int) : ∃ K, ∀ k, K ≤ k → ∃ R, wireloomref02_ParseIn.j3 k (B l) n d = some R ∧ Ans l R ∧ (VF n d → txL n d = l → R = (n, d, 0)) := by
  obtain ⟨k1, b, hb, hv⟩ := rvalid_tot n d
  cases b with
  | false =>
    refine ⟨k1 + 1, fun k hk => ?_⟩
    obtain ⟨k, rfl⟩ : ∃ j, k = j + 1 := ⟨k - 1, by omega⟩
    refine ⟨_, by rw [wireloomref02_ParseIn.j3, vup (by omega) hb, Option.bind_some, if_neg (by decide)], Or.inr rfl, fun h => ?_⟩
    have := hv.2 h
    cases this
  | true =>
    have hv := hv.1 rfl
    obtain ⟨k2, ht⟩ := rtext_ok hv
    refine ⟨k1 + k2 + 1, fun k hk => ?_⟩
    obtain ⟨k, rfl⟩ : ∃ j, k = j + 1 := ⟨k - 1, by omega⟩
    by_cases he : (txB n d).toList = (B l).toList
    · exact ⟨_, by rw [wireloomref02_ParseIn.j3, vup (by omega) hb, Option.bind_some, if_pos rfl, tup (by omega) ht, Option.bind_some, if_pos he], Or.inl ⟨rfl, hv, txB_eq he⟩, fun _ _ => rfl⟩
    · refine ⟨_, by rw [wireloomref02_ParseIn.j3, vup (by omega) hb, Option.bind_some, if_pos rfl, tup (by omega) ht, Option.bind_some, if_neg he], Or.inr rfl, fun _ h => ?_⟩
      exact absurd (by unfold txB; rw [h]) he
theorem j2_tot (l : List UInt8) (x v d : Int) : ∃ K, ∀ k, K ≤ k → ∃ R, wireloomref02_ParseIn.j2 k (B l) x v d = some R ∧ Ans l R ∧ (VF (if x = 1 then wrap64 (-v) else v) d → txL (if x = 1 then wrap64 (-v) else v) d = l → R = ((if x = 1 then wrap64 (-v) else v), d, 0)) := by
  obtain ⟨K, h⟩ := j3_tot l (if x = 1 then wrap64 (-v) else v) d
  refine ⟨K + 1, fun k hk => ?_⟩
  obtain ⟨k, rfl⟩ : ∃ j, k = j + 1 := ⟨k - 1, by omega⟩
  obtain ⟨R, hR, q⟩ := h k (by omega)
  refine ⟨R, ?_, q⟩
  rw [wireloomref02_ParseIn.j2]
  by_cases hx : x = 1
  · rw [if_pos hx] at hR ⊢; exact hR
  · rw [if_neg hx] at hR ⊢; exact hR
/-- from the first reading on -/
theorem j1_tot (l : List UInt8) (hs : l.length ≤ 1000000) (x : Int) (h0 : 0 ≤ x) (h1 : x ≤ l.length) : ∃ K, ∀ k, K ≤ k → ∃ R, wireloomref02_ParseIn.j1 k (B l) x = some R ∧ Ans l R := by
  have hsz := B_size l
  obtain ⟨k1, v1, i1, e1, q1, q2⟩ := read_tot (B l) (by omega) l.length x 0 0 (by omega) h0 (by omega)
  by_cases hi : i1 < (B l).size
  · obtain ⟨k2, v2, i2, e2, q3, q4⟩ := read_tot (B l) (by omega) l.length (i1 + 1) 0 0 (by omega) (by omega) (by omega)
    obtain ⟨K, h⟩ := j2_tot l x v1 v2
    refine ⟨K + k1 + k2 + 1, fun k hk => ?_⟩
    obtain ⟨k, rfl⟩ : ∃ j, k = j + 1 := ⟨k - 1, by omega⟩
    obtain ⟨R, hR, q, -⟩ := h k (by omega)
    refine ⟨R, ?_, q⟩
    rw [wireloomref02_ParseIn.j1, rup (k := k1) (by omega) e1, Option.bind_some, if_pos hi, w64 (n := i1 + 1) (by omega), rup (k := k2) (by omega) e2]
    exact hR
  · obtain ⟨K, h⟩ := j2_tot l x v1 1
    refine ⟨K + k1 + 1, fun k hk => ?_⟩
    obtain ⟨k, rfl⟩ : ∃ j, k = j + 1 := ⟨k - 1, by omega⟩
    obtain ⟨R, hR, q, -⟩ := h k (by omega)
    refine ⟨R, ?_, q⟩
    rw [wireloomref02_ParseIn.j1, rup (k := k1) (by omega) e1, Option.bind_some, if_neg hi]
    exact hR
theorem in_of (l : List UInt8) (x : Int) (hx : (l = [] ∧ x = 0) ∨ (∃ c r, l = c :: r ∧ x = if c = 45 then 1 else 0)) (R : Int × Int × Int) (K : Nat) (h : wireloomref02_ParseIn.j1 K (B l) x = some R) : wireloomref02_ParseIn.f (K + 1) (B l) = some R := by
  unfold wireloomref02_ParseIn.f
  rcases hx with ⟨rfl, rfl⟩ | ⟨c, r, rfl, rfl⟩
  · rw [if_neg (by rw [B_size]; simp), wireloomref02_ParseIn.j0, if_neg (by decide)]
    exact h
  · rw [if_pos (by rw [B_size]; simp), if_pos (by rw [B_size]; simp)]
    have hb : bt (B (c :: r)) 0 = (c.toNat : Int) := bt_at [] c r
    rw [hb]
    by_cases hc : c = 45
    · subst hc
      rw [if_pos rfl] at h
      rw [show (((45 : UInt8).toNat : Int) == 45) = true by decide, wireloomref02_ParseIn.j0, if_pos rfl]
      exact h
    · rw [if_neg hc] at h
      have : ¬ (c.toNat : Int) = 45 := fun e => hc (UInt8.toNat_inj.1 (by show c.toNat = 45; omega))
      rw [show ((c.toNat : Int) == 45) = false by rw [beq_eq_false_iff_ne]; exact this, wireloomref02_ParseIn.j0, if_neg (by decide)]
      exact h
theorem in_tot (l : List UInt8) (hs : l.length ≤ 1000000) : ∃ K, ∀ k, K ≤ k → ∃ R, wireloomref02_ParseIn.f k (B l) = some R ∧ Ans l R := by
  have key : ∃ x : Int, ((l = [] ∧ x = 0) ∨ (∃ c r, l = c :: r ∧ x = if c = 45 then 1 else 0)) ∧ 0 ≤ x ∧ x ≤ l.length := by
    cases l with
    | nil => exact ⟨0, Or.inl ⟨rfl, rfl⟩, by decide, by simp⟩
    | cons c r => exact ⟨_, Or.inr ⟨c, r, rfl, rfl⟩, by split <;> decide, by split <;> simp <;> omega⟩
  obtain ⟨x, hx, x0, x1⟩ := key
  obtain ⟨K, h⟩ := j1_tot l hs x x0 x1
  refine ⟨K + 1, fun k hk => ?_⟩
  obtain ⟨k, rfl⟩ : ∃ j, k = j + 1 := ⟨k - 1, by omega⟩
  obtain ⟨R, hR, q⟩ := h k (by omega)
  exact ⟨R, in_of l x hx R k hR, q⟩
theorem in_inv {N D : Int} (h : VF N D) : ∃ k, wireloomref02_ParseIn.f k (B (txL N D)) = some (N, D, 0) := by
  have hv := h
  have hlen := txL_len h
  obtain ⟨h1, h2, h3, h4, -⟩ := hv
  obtain ⟨d1, d2, d3⟩ := dec_facts N.natAbs
  obtain ⟨e1, e2, e3⟩ := dec_facts D.toNat
  have l1 := dec_len 18 N.natAbs (by omega)
  have l2 := dec_len 18 D.toNat (by omega)
  have key : ∃ (pre rest : List UInt8), txL N D = pre ++ (Lib.decDigits N.natAbs ++ rest) ∧ (rest = if D = 1 then [] else 47 :: Lib.decDigits D.toNat) ∧ pre.length ≤ 1 ∧ (∃ c r, txL N D = c :: r ∧ (pre.length : Int) = if c = 45 then 1 else 0) ∧ (if (pre.length : Int) = 1 then wrap64 (-(N.natAbs : Int)) else (N.natAbs : Int)) = N := by
    have hD : Lib.itoa D = Lib.decDigits D.toNat := by unfold Lib.itoa; rw [if_neg (by omega)]
    by_cases hn : N < 0
    · have hN : Lib.itoa N = 45 :: Lib.decDigits N.natAbs := by unfold Lib.itoa; rw [if_pos hn]
      have ht : txL N D = [45] ++ (Lib.decDigits N.natAbs ++ if D = 1 then [] else 47 :: Lib.decDigits D.toNat) := by
        unfold txL
        rw [hN, hD]
        split <;> simp
      exact ⟨[45], _, ht, rfl, by simp, ⟨45, _, ht, by rw [if_pos rfl]; rfl⟩, by rw [if_pos (show (([45] : List UInt8).length : Int) = 1 from rfl), w64 (by omega)]; omega⟩
    · have hN : Lib.itoa N = Lib.decDigits N.natAbs := by unfold Lib.itoa; rw [if_neg hn]; congr 1; omega
      have ht : txL N D = [] ++ (Lib.decDigits N.natAbs ++ if D = 1 then [] else 47 :: Lib.decDigits D.toNat) := by
        unfold txL
        rw [hN, hD]
        split <;> simp
      obtain ⟨c, r, hcr⟩ : ∃ c r, Lib.decDigits N.natAbs = c :: r := by
        cases hl : Lib.decDigits N.natAbs with
        | nil => exact absurd hl d3
        | cons c r => exact ⟨c, r, rfl⟩
      have hc : dg c := d1 c (by rw [hcr]; simp)
      unfold dg at hc
      refine ⟨[], _, ht, rfl, by simp, ⟨c, r ++ (if D = 1 then [] else 47 :: Lib.decDigits D.toNat), by rw [ht, hcr]; rfl, ?_⟩, by rw [if_neg (by decide)]; omega⟩
      rw [if_neg]
      · rfl
      · intro e
        subst e
        have : (45 : UInt8).toNat = 45 := rfl
        omega
  obtain ⟨pre, rest, ht, hrest, hpre, hst, hsgn⟩ := key
  obtain ⟨k1, hk1⟩ := read_run (Lib.decDigits N.natAbs) pre 0 0 rest d1 (by omega) (by omega) (by
    intro c r hr
    rw [hrest] at hr
    split at hr
    · cases hr
    · injection hr with hr _
      subst hr
      unfold dg
      have : (47 : UInt8).toNat = 47 := rfl
      omega) (by rw [← ht]; omega)
  rw [← ht, d2] at hk1
  have hlt := congrArg List.length ht
  simp only [List.length_append] at hlt
  obtain ⟨c, r, hcr, hx⟩ := hst
  suffices hj : ∃ k, wireloomref02_ParseIn.j1 k (B (txL N D)) (pre.length : Int) = some (N, D, 0) by
    obtain ⟨k, hk⟩ := hj
    exact ⟨k + 1, in_of _ _ (Or.inr ⟨c, r, hcr, hx⟩) _ k hk⟩
  by_cases hD : D = 1
  · subst hD
    rw [if_pos rfl] at hrest
    rw [hrest] at hlt
    obtain ⟨K, hK⟩ := j2_tot (txL N 1) (pre.length : Int) (N.natAbs : Int) 1
    obtain ⟨R, hR, -, q⟩ := hK (K + k1) (by omega)
    rw [hsgn] at q
    have q := q h rfl
    subst q
    refine ⟨K + k1 + 1, ?_⟩
    rw [wireloomref02_ParseIn.j1, rup (k := k1) (by omega) hk1, Option.bind_some, if_neg (by rw [B_size, hlt]; simp)]
    exact hR
  · rw [if_neg hD] at hrest
    have hlt2 : (txL N D).length = pre.length + ((Lib.decDigits N.natAbs).length + (1 + (Lib.decDigits D.toNat).length)) := by rw [hlt, hrest, List.length_cons]; omega
    have ht2 : txL N D = (pre ++ Lib.decDigits N.natAbs ++ [47]) ++ (Lib.decDigits D.toNat ++ []) := by rw [ht, hrest]; simp
    obtain ⟨k2, hk2⟩ := read_run (Lib.decDigits D.toNat) (pre ++ Lib.decDigits N.natAbs ++ [47]) 0 0 [] e1 (by omega) (by omega) (by intro c r hr; cases hr) (by rw [← ht2]; omega)
    have hp : (pre ++ Lib.decDigits N.natAbs ++ [47]).length = pre.length + (Lib.decDigits N.natAbs).length + 1 := by simp; omega
    have hDn : ((D.toNat : Nat) : Int) = D := by omega
    rw [← ht2, e2, hDn, hp, Int.natCast_succ] at hk2
    obtain ⟨K, hK⟩ := j2_tot (txL N D) (pre.length : Int) (N.natAbs : Int) D
    obtain ⟨R, hR, -, q⟩ := hK (K + k1 + k2) (by omega)
    rw [hsgn] at q
    have q := q h rfl
    subst q
    refine ⟨K + k1 + k2 + 1, ?_⟩
    rw [wireloomref02_ParseIn.j1, rup (k := k1) (by omega) hk1, Option.bind_some, if_pos (by rw [B_size, hlt2]; omega), w64 (n := ((pre.length + (Lib.decDigits N.natAbs).length : Nat) : Int) + 1) (by omega), rup (k := k2) (by omega) hk2]
    exact hR
theorem iup {k k' : Nat} (h : k ≤ k') {s : ByteArray} {r : Int × Int × Int} (e : wireloomref02_ParseIn.f k s = some r) : wireloomref02_ParseIn.f k' s = some r :=
  at_rounds (g := fun k => wireloomref02_ParseIn.f k s) (fun k => wireloomref02_ParseIn.mono _ k) h e
/-- both answer alike -/
theorem parse_same (l : List UInt8) (hs : l.length ≤ 1000000) : ∃ R, wireloomlaw02_parsed.f (B l) = some R ∧ (∃ K, ∀ k, K ≤ k → wireloomref02_ParseIn.f k (B l) = some R) ∧ Ans l R := by
  obtain ⟨R, hR, hA⟩ := parse_tot l (by omega)
  obtain ⟨K, hK⟩ := in_tot l hs
  obtain ⟨R', hR', hA'⟩ := hK K (Nat.le_refl _)
  have e : R = R' := by
    rcases hA with ⟨e0, hv, ht⟩ | e0
    · obtain ⟨k, hk⟩ := in_inv hv
      rw [ht] at hk
      have a := iup (Nat.le_max_left K k) hR'
      rw [iup (Nat.le_max_right K k) hk] at a
      injection a with a
      rw [← a, ← e0]
    · rcases hA' with ⟨e1, hv, ht⟩ | e1
      · have hk := parse_inv hv
        rw [ht, hR, e0] at hk
        injection hk with hk
        have := congrArg (fun x : Int × Int × Int => x.2.2) hk
        cases this
      · rw [e0, e1]
  subst e
  exact ⟨R, hR, ⟨K, fun k hk => iup hk hR'⟩, hA⟩
end Go.Proofs.YtndfjpnpdnnpkaaDoor.F
