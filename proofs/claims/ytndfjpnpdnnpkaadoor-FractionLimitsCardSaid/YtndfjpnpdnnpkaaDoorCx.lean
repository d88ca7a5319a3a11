/- Straight-line code told by what its slots hold: a region that draws its order, whose operations each yield one value whatever the order, is walked once. -/
import Derived.Test.YtndfjpnpdnnpkaaDoorWWords
import Derived.Test.YtndfjpnpdnnpkaaDoorWLast
namespace Go.Proofs.YtndfjpnpdnnpkaaDoor.Cx
set_option linter.unusedVariables false
set_option linter.unusedSimpArgs false
open Go
open Go.Proofs.YtndfjpnpdnnpkaaDoorW.PrintWords

abbrev SL := List (Nat × Value)
/-- What the list tells of a slot: its first row for it. -/
def look : SL → Nat → Option Value
  | [], _ => none
  | (k, v) :: r, t => bif Nat.beq k t then some v else look r t
theorem look_cons {k t : Nat} {v : Value} {r : SL} : look ((k, v) :: r) t = if k = t then some v else look r t := by
  show (bif Nat.beq k t then some v else look r t) = _
  by_cases h : k = t
  · subst h; rw [if_pos rfl, Nat.beq_refl]; rfl
  · rw [if_neg h]
    have : Nat.beq k t = false := by
      cases hb : Nat.beq k t
      · rfl
      · exact absurd (Nat.eq_of_beq_eq_true hb) h
    rw [this]; rfl
theorem look_append {l r : SL} {t : Nat} {v : Value} (h : look (l ++ r) t = some v) : look l t = some v ∨ look r t = some v := by
  induction l with
  | nil => exact .inr h
  | cons p l ih =>
    obtain ⟨k, u⟩ := p
    rw [List.cons_append, look_cons] at h
    rw [look_cons]
    split at h
    · rename_i e; rw [if_pos e]; exact .inl h
    · rename_i e; rw [if_neg e]; exact ih h
theorem look_mem {l : SL} {t : Nat} {v : Value} (h : look l t = some v) : (t, v) ∈ l := by
  induction l with
  | nil => cases h
  | cons p l ih =>
    obtain ⟨k, u⟩ := p
    rw [look_cons] at h
    split at h
    · rename_i e; subst e; cases h; exact List.mem_cons_self
    · exact List.mem_cons_of_mem _ (ih h)
/-- The frame holds what the list tells. -/
def Has (sl : SL) (a : Act) : Prop := ∀ t v, look sl t = some v → a.tmps[t]? = some v
structure Sl (n : Nat) (sl : SL) (a : Act) : Prop where
  size : a.tmps.size = n
  defers : a.defers = []
  has : Has sl a
/-- A shorter list. -/
def Sub : SL → SL → Prop
  | [], _ => True
  | (t, v) :: r, sl => look sl t = some v ∧ Sub r sl
theorem Sub.look {l sl : SL} (h : Sub l sl) {t : Nat} {v : Value} (e : Cx.look l t = some v) : Cx.look sl t = some v := by
  induction l with
  | nil => cases e
  | cons p l ih =>
    obtain ⟨k, u⟩ := p
    obtain ⟨h1, h2⟩ := h
    rw [look_cons] at e
    split at e
    · rename_i e'; subst e'; cases e; exact h1
    · exact ih h2 e
theorem Sl.sub {n : Nat} {sl l : SL} {a : Act} (h : Sl n sl a) (hs : Sub l sl) : Sl n l a := ⟨h.size, h.defers, fun t v e => h.has t v (hs.look e)⟩
def ev (sl : SL) : Operand → Option Value
  | .tmp t => look sl t
  | .const v => some v
  | .global g => some (.pointer (some ⟨g, 0, none⟩))
  | .func f => some (.func (.func f) #[] #[])
theorem ev_eval {sl : SL} {a : Act} (h : Has sl a) {x : Operand} {v : Value} (e : ev sl x = some v) : a.eval x = v := by
  cases x with
  | tmp t => have := h t v e; simp [Act.eval, this]
  | const u => exact Option.some.inj e
  | global g => exact Option.some.inj e
  | func f => exact Option.some.inj e

/-- The operation yields v, and B holds behind it. -/
def Runs (P : Program) (B : World → Prop) (o : Oper) (a : Act) (w : World) (v : Value) : Prop :=
  (∃ w', (execOp a.eval o).run P w = .ok (.value v) w' ∧ B w') ∨
  (∃ f args, (execOp a.eval o).run P w = .ok (.enter f args) w ∧ Calls P f args w fun e w' => e = .returned v ∧ B w')
def OpOk (P : Program) (B : World → Prop) (sl : SL) (o : Oper) (v : Value) : Prop := ∀ a w, Has sl a → B w → Runs P B o a w v
def OpFit (P : Program) (ops : Array Oper) (B : World → Prop) (sl : SL) (o : Oper) (v : Value) : Prop :=
  ∀ a w, Has sl a → B w → if Region.wanted o (yielded ops a.tmps) = true then Runs P B o a w v else v = undef
section
variable {P : Program} {ops : Array Oper} {B : World → Prop} {sl : SL} {o : Oper} {v : Value}
theorem fit_free (hg : o.guard = none) (h : OpOk P B sl o v) : OpFit P ops B sl o v := fun a w hs hB => by
  simp only [Region.wanted, hg, if_true]; exact h a w hs hB
theorem yielded_of {g t : Nat} {u : Value} {a : Act} (hd : (ops[g]?).bind (·.dst) = some t) (hl : look sl t = some u) (hs : Has sl a) :
    yielded ops a.tmps g = match u with | .bool b => some b | _ => none := by
  have h1 := hs t u hl
  unfold yielded
  rw [hd]
  show (match a.tmps[t]? with | some (.bool b) => some b | _ => none) = _
  rw [h1]
  cases u <;> rfl
theorem fit_on {g t : Nat} {b : Bool} (hg : o.guard = some (g, b)) (hd : (ops[g]?).bind (·.dst) = some t) (hl : look sl t = some (.bool b)) (h : OpOk P B sl o v) : OpFit P ops B sl o v := fun a w hs hB => by
  rw [if_pos (by simp [Region.wanted, hg, yielded_of hd hl hs])]; exact h a w hs hB
theorem fit_off {g t : Nat} {b c : Bool} (hg : o.guard = some (g, b)) (hd : (ops[g]?).bind (·.dst) = some t) (hl : look sl t = some (.bool c)) (hne : c = !b) : OpFit P ops B sl o undef := fun a w hs hB => by
  subst hne
  rw [if_neg (by simp [Region.wanted, hg, yielded_of hd hl hs])]
theorem fit_no {g t : Nat} {b : Bool} (hg : o.guard = some (g, b)) (hd : (ops[g]?).bind (·.dst) = some t) (hl : look sl t = some undef) : OpFit P ops B sl o undef := fun a w hs hB => by
  rw [if_neg (by simp [Region.wanted, hg, yielded_of hd hl hs, undef])]
end

/-! ### A region that draws its order -/
/-- What an operation may look at: what those hold that it waits for. -/
def avail (ops : Array Oper) (vs : List Value) (o : Oper) : SL :=
  o.after.toList.filterMap fun e => if Region.binds .any e = true then match (ops[e.on]?).bind (·.dst), vs[e.on]? with
    | some d, some v => some (d, v)
    | _, _ => none else none
def outs (ops : Array Oper) (vs : List Value) : SL :=
  (List.range ops.size).filterMap fun i => match (ops[i]?).bind (·.dst), vs[i]? with
    | some d, some v => some (d, v)
    | _, _ => none
/-- Its slots are apart from each other and from those of the list; it waits for operations ahead of it alone. -/
def confB (n : Nat) (ops : Array Oper) (keys : List Nat) : Bool :=
  (List.range ops.size).all fun i => match ops[i]? with
    | none => true
    | some o => o.after.all (fun e => !Region.binds .any e || decide (e.on < i)) &&
      (match o.dst with
       | none => true
       | some d => decide (d < n) && !keys.contains d && (List.range ops.size).all fun j => j == i || ((ops[j]?).bind (·.dst)) != some d)
section
variable {P : Program} {ops : Array Oper} {B : World → Prop} {sl : SL} {Q : Exit → Act → World → Prop} {n : Nat} {vs : List Value}
def AllFit (P : Program) (ops : Array Oper) (B : World → Prop) (sl : SL) (vs : List Value) : Prop :=
  ∀ (i : Nat) (o : Oper) (v : Value), ops[i]? = some o → vs[i]? = some v → OpFit P ops B (avail ops vs o ++ sl) o v
/-- What stands while the region runs. -/
structure Conf (n : Nat) (ops : Array Oper) (sl : SL) (vs : List Value) (l : Array Bool) (a : Act) : Prop where
  lsize : l.size = ops.size
  size : a.tmps.size = n
  defers : a.defers = []
  has : Has sl a
  done : ∀ j d v, l.getD j false = true → (ops[j]?).bind (·.dst) = some d → vs[j]? = some v → a.tmps[d]? = some v
theorem confB_spec {keys : List Nat} (h : confB n ops keys = true) {i : Nat} {o : Oper} (hi : ops[i]? = some o) :
    (∀ e ∈ o.after, Region.binds .any e = true → e.on < i) ∧ ∀ d, o.dst = some d → d < n ∧ d ∉ keys ∧ ∀ j, j ≠ i → (ops[j]?).bind (·.dst) ≠ some d := by
  have hlt : i < ops.size := (Array.getElem?_eq_some_iff.1 hi).1
  have h1 := List.all_eq_true.1 h i (List.mem_range.2 hlt)
  simp only [hi, Bool.and_eq_true] at h1
  refine ⟨fun e he hb => ?_, fun d hd => ?_⟩
  · have := Array.all_eq_true_iff_forall_mem.1 h1.1 e he
    simpa [hb] using this
  · have h2 := h1.2
    simp only [hd, Bool.and_eq_true, decide_eq_true_eq] at h2
    refine ⟨h2.1.1, by simpa using h2.1.2, fun j hj hj' => ?_⟩
    have hlt : j < ops.size := by
      rcases Nat.lt_or_ge j ops.size with h' | h'
      · exact h'
      · rw [Array.getElem?_eq_none h'] at hj'; cases hj'
    have := List.all_eq_true.1 h2.2 j (List.mem_range.2 hlt)
    simp [hj, hj'] at this
theorem has_avail {l : Array Bool} {a : Act} (hc : Conf n ops sl vs l a) {o : Oper} (ho : ∀ e ∈ o.after, Region.binds .any e = true → l.getD e.on false = true) : Has (avail ops vs o ++ sl) a := by
  intro t v h
  rcases look_append h with h | h
  · have hm := look_mem h
    obtain ⟨e, he, hv⟩ := List.mem_filterMap.1 hm
    have he' : e ∈ o.after := by simpa using he
    split at hv
    · rename_i hb
      have hl := ho e he' hb
      cases h1 : (ops[e.on]?).bind (·.dst) with
      | none => simp [h1] at hv
      | some d =>
        cases h2 : vs[e.on]? with
        | none => simp [h1, h2] at hv
        | some u =>
          simp only [h1, h2, Option.some.injEq, Prod.mk.injEq] at hv
          obtain ⟨rfl, rfl⟩ := hv
          exact hc.done _ _ _ hl h1 h2
    · cases hv
  · exact hc.has t v h
theorem Conf.put {l : Array Bool} {a : Act} (hc : Conf n ops sl vs l a) {keys : List Nat} (hk : ∀ t v, look sl t = some v → t ∈ keys) (hb : confB n ops keys = true) {i : Nat} {o : Oper} (hi : ops[i]? = some o) {v : Value} (hv : vs[i]? = some v) :
    Conf n ops sl vs (l.setIfInBounds i true) (a.put o.dst v) := by
  have hs := (confB_spec hb hi).2
  have hlt : i < ops.size := (Array.getElem?_eq_some_iff.1 hi).1
  cases hd : o.dst with
  | none =>
    refine ⟨by simpa using hc.lsize, hc.size, hc.defers, hc.has, fun j d u hl hj hu => ?_⟩
    by_cases hji : i = j
    · subst hji; rw [hi] at hj; simp [hd] at hj
    · rw [getD_set_ne false hji] at hl; exact hc.done j d u hl hj hu
  | some d0 =>
    obtain ⟨h1, h2, h3⟩ := hs d0 hd
    have hne : ∀ t u, t ≠ d0 → a.tmps[t]? = some u → (a.tmps.setIfInBounds d0 v)[t]? = some u := fun t u ht h => by
      rw [Array.getElem?_setIfInBounds_ne (Ne.symm ht)]; exact h
    refine ⟨by simpa using hc.lsize, by simpa [Act.put] using hc.size, hc.defers, fun t u h => hne t u (fun e => h2 (e ▸ hk t u h)) (hc.has t u h), fun j d u hl hj hu => ?_⟩
    by_cases hji : i = j
    · subst hji
      have : d = d0 := by rw [hi] at hj; simp [hd] at hj; exact hj.symm
      subst this
      have : u = v := by rw [hv] at hu; exact (Option.some.inj hu).symm
      subst this
      show (a.tmps.setIfInBounds d u)[d]? = some u
      rw [Array.getElem?_setIfInBounds_self_of_lt (by rw [hc.size]; exact h1)]
    · rw [getD_set_ne false hji] at hl
      have hne' : d ≠ d0 := fun e => h3 j (Ne.symm hji) (by rw [← e]; exact hj)
      exact hne d u hne' (hc.done j d u hl hj hu)
def left (ops : Array Oper) (l : Array Bool) : Nat := (List.range ops.size).countP fun i => !l.getD i true
theorem left_set {l : Array Bool} {i : Nat} (hs : l.size = ops.size) (hlt : i < ops.size) (hi : l.getD i true = false) : left ops (l.setIfInBounds i true) < left ops l := by
  unfold left
  have key : ∀ (xs : List Nat), i ∈ xs → (xs.countP fun k => !(l.setIfInBounds i true).getD k true) < xs.countP fun k => !l.getD k true := by
    intro xs
    have le : ∀ (xs : List Nat), (xs.countP fun k => !(l.setIfInBounds i true).getD k true) ≤ xs.countP fun k => !l.getD k true := fun xs =>
      List.countP_mono_left fun k _ hk => by
        by_cases hik : i = k
        · subst hik; simp [hs, hlt] at hk
        · rw [getD_set_ne true hik] at hk; exact hk
    induction xs with
    | nil => intro h; cases h
    | cons x xs ih =>
      intro hm
      rw [List.countP_cons, List.countP_cons]
      by_cases hx : x = i
      · subst hx
        have h1 : (!(l.setIfInBounds x true).getD x true) = false := by simp [hs, hlt]
        have h2 : (!l.getD x true) = true := by rw [hi]; rfl
        have h3 := le xs
        simp only [h1, h2, if_true, Bool.false_eq_true, if_false]
        omega
      · have hm' : i ∈ xs := by
          rcases List.mem_cons.1 hm with h | h
          · exact absurd h.symm hx
          · exact h
        have := ih hm'
        have h1 : (!(l.setIfInBounds i true).getD x true) = (!l.getD x true) := by rw [getD_set_ne true (Ne.symm hx)]
        rw [h1]
        omega
  exact key _ (List.mem_range.2 hlt)
/-- If none may come up, all have. -/
theorem all_listed {l : Array Bool} {keys : List Nat} (hs : l.size = ops.size) (hb : confB n ops keys = true) (hr : Region.ready .any ops l = []) : ∀ j, j < ops.size → l.getD j false = true := by
  intro j
  induction j using Nat.strongRecOn with
  | _ j ih =>
    intro hj
    cases hl : l.getD j true with
    | true =>
      have : j < l.size := by omega
      simp [this] at hl
      simp [this, hl]
    | false =>
      have ho : ops[j]? = some ops[j] := by simp [hj]
      have : j ∈ Region.ready .any ops l := mem_ready.2 ⟨hl, ops[j], ho, fun e he hbi => by
        have := (confB_spec hb ho).1 e he hbi
        exact ih e.on this (by omega)⟩
      rw [hr] at this; cases this
theorem conf_any {keys : List Nat} (hk : ∀ t v, look sl t = some v → t ∈ keys) (hb : confB n ops keys = true) (hlen : vs.length = ops.size) (hfit : AllFit P ops B sl vs)
    (h : ∀ a w, Sl n (outs ops vs ++ sl) a → B w → Q .normal a w) : ∀ fuel l a w, left ops l ≤ fuel → Conf n ops sl vs l a → B w → wpAny P .any ops Q fuel l a w := by
  have fin : ∀ l a w, Conf n ops sl vs l a → B w → Region.ready .any ops l = [] → Q .normal a w := fun l a w hc hB hr => by
    refine h a w ⟨hc.size, hc.defers, fun t v e => ?_⟩ hB
    rcases look_append e with e | e
    · have hm := look_mem e
      obtain ⟨i, hi, hv⟩ := List.mem_filterMap.1 hm
      cases h1 : (ops[i]?).bind (·.dst) with
      | none => simp [h1] at hv
      | some d =>
        cases h2 : vs[i]? with
        | none => simp [h1, h2] at hv
        | some u =>
          simp only [h1, h2, Option.some.injEq, Prod.mk.injEq] at hv
          obtain ⟨rfl, rfl⟩ := hv
          exact hc.done i _ _ (all_listed hc.lsize hb hr i (List.mem_range.1 hi)) h1 h2
    · exact hc.has t v e
  intro fuel
  induction fuel with
  | zero =>
    intro l a w hle hc hB
    have hr : Region.ready .any ops l = [] := by
      cases hr : Region.ready .any ops l with
      | nil => rfl
      | cons i r =>
        have hi : i ∈ Region.ready .any ops l := by rw [hr]; exact List.mem_cons_self
        obtain ⟨h0, o, ho, _⟩ := mem_ready.1 hi
        have hlt : i < ops.size := (Array.getElem?_eq_some_iff.1 ho).1
        have := left_set hc.lsize hlt h0
        omega
    exact ⟨hr, fin l a w hc hB hr⟩
  | succ fuel ih =>
    intro l a w hle hc hB
    refine ⟨fin l a w hc hB, fun i hi => ?_⟩
    obtain ⟨h0, o, ho, hall⟩ := mem_ready.1 hi
    have hlt : i < ops.size := (Array.getElem?_eq_some_iff.1 ho).1
    have hv : vs[i]? = some vs[i] := by simp [hlen, hlt]
    have hf := hfit i o _ ho hv a w (has_avail hc hall) hB
    have next : ∀ w', B w' → wpAny P .any ops Q fuel (l.setIfInBounds i true) (a.put o.dst vs[i]) w' := fun w' hB' =>
      ih _ _ _ (by have := left_set hc.lsize hlt h0; omega) (hc.put hk hb ho hv) hB'
    unfold wpOp
    simp only [ho]
    split at hf
    · rename_i hw
      rw [if_pos hw]
      refine .inl ?_
      unfold Oper.wp
      rcases hf with ⟨w', hrun, hB'⟩ | ⟨f, args, hrun, hcall⟩
      · rw [hrun]; exact next w' hB'
      · rw [hrun, Oper.upon_enter]
        refine hcall.mono fun e w' hh => ?_
        obtain ⟨rfl, hB'⟩ := hh
        exact next w' hB'
    · rename_i hw
      rw [if_neg hw, ← hf]
      exact next w hB
/-- A region that draws its order. -/
theorem conf_region {id : Nat} {a : Act} {w : World} (hm : P.follows .mixedOrders = true) (keys : List Nat) (hk : sl.map (·.1) = keys) (hb : confB n ops keys = true) (hlen : vs.length = ops.size) (hfit : AllFit P ops B sl vs)
    (ha : Sl n sl a) (hB : B w.drew) (h : ∀ a w, Sl n (outs ops vs ++ sl) a → B w → Q .normal a w) : (Code.region id ops true).wp P Q a w := by
  subst hk
  refine wp_region_any hm (conf_any (fun t v e => List.mem_map.2 ⟨(t, v), look_mem e, rfl⟩) hb hlen hfit h _ _ _ _ ?_ ⟨by simp, ha.size, ha.defers, ha.has, fun j d v hl => ?_⟩ hB)
  · unfold left
    exact Nat.le_trans (List.countP_le_length) (by simp)
  · rw [Array.getD_eq_getD_getElem?, Array.getElem?_replicate] at hl
    split at hl <;> simp at hl
def AllFitL (P : Program) (ops : Array Oper) (B : World → Prop) (sl : SL) (vs : List Value) : List Oper → List Value → Prop
  | [], _ => True
  | _ :: _, [] => True
  | o :: os, v :: us => OpFit P ops B (avail ops vs o ++ sl) o v ∧ AllFitL P ops B sl vs os us
theorem AllFitL.get {os : List Oper} {us : List Value} (h : AllFitL P ops B sl vs os us) : ∀ (i : Nat) (o : Oper) (v : Value), os[i]? = some o → us[i]? = some v → OpFit P ops B (avail ops vs o ++ sl) o v := by
  induction os generalizing us with
  | nil => intro i o v ho; simp at ho
  | cons x os ih =>
    cases us with
    | nil => intro i o v _ hv; simp at hv
    | cons u us =>
      obtain ⟨h1, h2⟩ := h
      intro i o v ho hv
      cases i with
      | zero => simp at ho hv; subst ho; subst hv; exact h1
      | succ i => exact ih h2 i o v (by simpa using ho) (by simpa using hv)
theorem AllFitL.all (h : AllFitL P ops B sl vs ops.toList vs) : AllFit P ops B sl vs := fun i o v ho hv => h.get i o v (by simpa using ho) hv
end
end Go.Proofs.YtndfjpnpdnnpkaaDoor.Cx
