/- The operations of straight-line code, each with the value that it yields. -/
import Derived.Test.YtndfjpnpdnnpkaaDoorCx
import Derived.Test.YtndfjpnpdnnpkaaDoorFx0
namespace Go.Proofs.YtndfjpnpdnnpkaaDoor.Cx
set_option linter.unusedVariables false
set_option linter.unusedSimpArgs false
open Go
open Go.Proofs.YtndfjpnpdnnpkaaDoorW.PrintWords
open Go.Proofs
open Go.RowKit
/-! ### Memory -/
abbrev BL := List (Nat × Obj)
structure Bl (w0 : World) (bs : BL) (w : World) : Prop where
  below : Below w0.heap.size w0 w
  row : ∀ p ∈ bs, w.heap[p.1]? = some p.2
  base : ∀ p ∈ bs, w0.heap.size ≤ p.1
  nodup : (bs.map (·.1)).Nodup
abbrev pt (g i : Nat) : Value := .pointer (some ⟨g, i, none⟩)
section
variable {w0 w w' : World} {bs : BL} {g k : Nat} {cs cs' : Array Value} {t : TypeId}
theorem Bl.start (w0 : World) : Bl w0 [] w0 := ⟨Below.refl _ _, (fun _ h => by cases h), (fun _ h => by cases h), .nil⟩
theorem Bl.drew (h : Bl w0 bs w) : Bl w0 bs w.drew := ⟨h.below.drew, h.row, h.base, h.nodup⟩
theorem Bl.step (h : Bl w0 bs w) (hb : Below w.heap.size w w') : Bl w0 bs w' := ⟨below_step h.below hb, fun p hp => blk_below (h.row p hp) hb, h.base, h.nodup⟩
theorem Bl.alloc (h : Bl w0 bs w) (o : Obj) : Bl w0 ((w.heap.size, o) :: bs) (w.alloc o) := by
  refine ⟨below_alloc h.below o, fun p hp => ?_, fun p hp => ?_, ?_⟩
  · rcases List.mem_cons.1 hp with rfl | hp
    · exact blk_new w o
    · exact blk_alloc (h.row p hp) o
  · rcases List.mem_cons.1 hp with rfl | hp
    · exact h.below.size
    · exact h.base p hp
  · rw [List.map_cons, List.nodup_cons]
    refine ⟨fun hm => ?_, h.nodup⟩
    obtain ⟨p, hp, he⟩ := List.mem_map.1 hm
    have := blk_lt (h.row p hp)
    rw [he] at this
    exact Nat.lt_irrefl _ this
def keep : List Bool → BL → BL
  | [], _ => []
  | _ :: _, [] => []
  | b :: m, p :: r => bif b then p :: keep m r else keep m r
theorem keep_sub : ∀ (m : List Bool) (bs : BL), (keep m bs).Sublist bs
  | [], bs => List.nil_sublist bs
  | _ :: _, [] => List.nil_sublist []
  | true :: m, p :: r => (keep_sub m r).cons_cons p
  | false :: m, p :: r => (keep_sub m r).cons p
theorem Bl.keep (h : Bl w0 bs w) (m : List Bool) : Bl w0 (Cx.keep m bs) w :=
  ⟨h.below, fun p hp => h.row p ((keep_sub m bs).subset hp), fun p hp => h.base p ((keep_sub m bs).subset hp), h.nodup.sublist ((keep_sub m bs).map _)⟩
theorem viaB {P : Program} {f : FuncId} {args : Array Value} {v : Value} (h : ∀ w, Calls P f args w fun e w' => e = .returned v ∧ Below w.heap.size w w') : ∀ w, Bl w0 bs w → Calls P f args w fun e w' => e = .returned v ∧ Bl w0 bs w' :=
  fun w hB => (h w).mono fun _ _ ⟨he, hb⟩ => ⟨he, hB.step hb⟩
theorem Bl.at (h : Bl w0 bs w) (hk : bs[k]? = some (g, .cells cs t (0, 0))) : w.heap[g]? = some (.cells cs t (0, 0)) := h.row _ (List.mem_of_getElem? hk)
theorem Bl.swap {p q : Nat × Obj} (h : Bl w0 (p :: q :: bs) w) : Bl w0 (q :: p :: bs) w :=
  ⟨h.below, fun x hx => h.row x ((List.Perm.swap p q bs).subset hx), fun x hx => h.base x ((List.Perm.swap p q bs).subset hx), ((List.Perm.swap p q bs).map _).nodup_iff.2 h.nodup⟩
theorem Bl.put (h : Bl w0 bs w) (hk : bs[k]? = some (g, .cells cs t (0, 0))) (i : Nat) (u : Value) (e : cs.setIfInBounds i u = cs') : Bl w0 (bs.set k (g, .cells cs' t (0, 0))) (w.setCell ⟨g, i, none⟩ u) := by
  have hg := h.base _ (List.mem_of_getElem? hk)
  have hlt : k < bs.length := (List.getElem?_eq_some_iff.1 hk).1
  have hmap : (bs.set k (g, .cells cs' t (0, 0))).map (·.1) = bs.map (·.1) := by
    rw [List.map_set]
    apply List.ext_getElem? 
    intro j
    rw [List.getElem?_set]
    split
    · rename_i e; subst e; simp [hlt, List.getElem?_map, hk]; have := List.getElem?_eq_some_iff.1 hk; simp [this.2]
    · rfl
  refine ⟨h.below.setCell (p := ⟨g, i, none⟩) hg u, fun p hp => ?_, fun p hp => ?_, by rw [hmap]; exact h.nodup⟩
  · obtain ⟨j, hj⟩ := List.getElem?_of_mem hp
    rw [List.getElem?_set] at hj
    split at hj
    · rename_i e
      subst e
      cases hj
      exact blk_put (h.at hk) i u e
    · rename_i hne
      have hb := h.row p (List.mem_of_getElem? hj)
      have hgp : p.1 ≠ g := fun e => by
        have h1 : (bs.map (·.1))[k]? = some g := by rw [List.getElem?_map, hk]; rfl
        have h2 : (bs.map (·.1))[j]? = some g := by rw [List.getElem?_map, hj]; exact congrArg some e
        have hj' : j < (bs.map (·.1)).length := (List.getElem?_eq_some_iff.1 h2).1
        have := (List.getElem?_inj (by simpa using hlt) h.nodup).1 (h1.trans h2.symm)
        exact hne this
      exact (Below.heap_setCell w ⟨g, i, none⟩ u p.1 hgp).trans hb
  · have : p.1 ∈ (bs.set k (g, .cells cs' t (0, 0))).map (·.1) := List.mem_map.2 ⟨p, hp, rfl⟩
    rw [hmap] at this
    obtain ⟨q, hq, hqe⟩ := List.mem_map.1 this
    rw [← hqe]; exact h.base q hq
end
section
variable {P : Program} {B : World → Prop} {sl : SL} {o : Oper} {v u : Value} {x y c : Operand} {w0 : World} {bs : BL} {g k : Nat} {c0 c1 c2 : Value} {t : TypeId}
theorem ok_move (hop : o.op = .move x) (hx : ev sl x = some v) : OpOk P B sl o v := fun a w hs hB => .inl ⟨w, by
  unfold execOp; simp only [hop, ev_eval hs hx]; rfl, hB⟩
theorem ok_assign (hop : o.op = .assign x) (hx : ev sl x = some v) : OpOk P B sl o v := fun a w hs hB => .inl ⟨w, by
  unfold execOp; simp only [hop, ev_eval hs hx]; rfl, hB⟩
theorem ok_pick_t (hop : o.op = .pick c x y) (hc : ev sl c = some (.bool true)) (hx : ev sl x = some v) : OpOk P B sl o v := fun a w hs hB => .inl ⟨w, by
  unfold execOp; simp only [hop, ev_eval hs hx, ev_eval hs hc]; rfl, hB⟩
theorem ok_pick_f (hop : o.op = .pick c x y) (hc : ev sl c = some (.bool false)) (hy : ev sl y = some v) : OpOk P B sl o v := fun a w hs hB => .inl ⟨w, by
  unfold execOp; simp only [hop, ev_eval hs hy, ev_eval hs hc]; rfl, hB⟩
theorem ok_not {T : TypeId} {b : Bool} (hop : o.op = .unOp .not T x) (hx : ev sl x = some (.bool b)) : OpOk P B sl o (.bool (!b)) := fun a w hs hB => .inl ⟨w, by
  unfold execOp; simp only [hop, ev_eval hs hx]; rfl, hB⟩
/-- A call of a Go function, by its contract. -/
theorem ok_call {f : FuncId} {fn : Func} {xs : Array Operand} {ts : Array TypeId} {args : Array Value} (hop : o.op = .call { callee := .value (.func f), args := xs, argTypes := ts })
    (hf : P.funcs[f]? = some fn) (hname : (fn.name == "runtime.NumGoroutine") = false) (hb : fn.body.isSome = true)
    (hargs' : xs.toList.map (ev sl) = args.toList.map some)
    (h : ∀ w, B w → Calls P f args w fun e w' => e = .returned v ∧ B w') : OpOk P B sl o v := fun a w hs hB => .inr ⟨f, args, by
  have he := Go.Proofs.YtndfjpnpdnnpkaaDoorW.PrintLast.enters_ hf hname hb args w
  have hargs : xs.map (ev sl) = args.map some := by
    apply Array.toList_inj.1
    simpa using hargs'
  have hargs' : xs.map a.eval = args := by
    apply Array.ext_getElem?
    intro i
    have hi := congrArg (·[i]?) hargs
    simp only [Array.getElem?_map] at hi ⊢
    cases h1 : xs[i]? with
    | none => rw [h1] at hi; cases h2 : args[i]? with
      | none => rfl
      | some z => rw [h2] at hi; simp at hi
    | some z =>
      rw [h1] at hi
      cases h2 : args[i]? with
      | none => rw [h2] at hi; simp at hi
      | some z' =>
        rw [h2] at hi
        simp only [Option.map_some, Option.some.injEq] at hi
        simp only [Option.map_some, Option.some.injEq]
        exact ev_eval hs hi
  unfold execOp
  simp [hop, resolve, Deferred.ofValue, invoke, Act.eval, hargs', he], h w hB⟩
end
section
variable {P : Program} {B : World → Prop} {sl : SL} {o : Oper} {v u : Value} {x y c : Operand} {w0 : World} {bs : BL} {g k i : Nat} {c0 c1 c2 : Value} {t : TypeId} {cs : Array Value}
theorem ok_fieldAddr25_0 (hop : o.op = .fieldAddr 25 x 0) (hx : ev sl x = some (pt g i)) : OpOk Tryd.prog B sl o (pt g i) := fun a w hs hB => .inl ⟨w, by
  have hu := Tryd.underlying25
  have hxe := ev_eval hs hx
  unfold execOp
  simp only [hop, hxe]
  go_simp, hB⟩
theorem ok_fieldAddr25_1 (hop : o.op = .fieldAddr 25 x 1) (hx : ev sl x = some (pt g i)) : OpOk Tryd.prog B sl o (pt g (i + 1)) := fun a w hs hB => .inl ⟨w, by
  have hu := Tryd.underlying25
  have hxe := ev_eval hs hx
  unfold execOp
  simp only [hop, hxe]
  go_simp, hB⟩
theorem ok_fieldAddr31_1 (hop : o.op = .fieldAddr 31 x 1) (hx : ev sl x = some (pt g i)) : OpOk Tryd.prog B sl o (pt g (i + 2)) := fun a w hs hB => .inl ⟨w, by
  have hu := Tryd.underlying31
  have hxe := ev_eval hs hx
  unfold execOp
  simp only [hop, hxe]
  go_simp, hB⟩
theorem ok_fieldAddr31_0 (hop : o.op = .fieldAddr 31 x 0) (hx : ev sl x = some (pt g i)) : OpOk Tryd.prog B sl o (pt g i) := fun a w hs hB => .inl ⟨w, by
  have hu := Tryd.underlying31
  have hxe := ev_eval hs hx
  unfold execOp
  simp only [hop, hxe]
  go_simp, hB⟩
theorem ok_indexAddr22 {j : Nat} (hop : o.op = .indexAddr 22 x y) (hx : ev sl x = some (pt g i)) (hy : ev sl y = some (.int .i64 (j : Int))) (hj : j < 2) : OpOk Tryd.prog B sl o (pt g (i + j)) := fun a w hs hB => .inl ⟨w, by
  have hu := Tryd.underlying22
  have hxe := ev_eval hs hx
  have hye := ev_eval hs hy
  have hu3 := Tryd.underlying3
  have h1 : (j : Int) < 2 := by omega
  unfold execOp
  simp only [hop, hxe, hye]
  go_simp, hB⟩
theorem ok_load3 (hop : o.op = .load 3 x) (hx : ev sl x = some (pt g i)) (hk : bs[k]? = some (g, .cells cs t (0, 0))) (hc : cs[i]? = some c0) : OpOk Tryd.prog (Bl w0 bs) sl o c0 := fun a w hs hB => .inl ⟨w, by
  have hb := hB.at hk
  have h0 : w.cell? ⟨g, i, none⟩ = some c0 := (blk_cell hb i).trans hc
  have hxe := ev_eval hs hx
  have hu := Tryd.underlying3
  unfold execOp
  simp only [hop, hxe]
  go_simp, hB⟩
theorem ok_load29 (hop : o.op = .load 29 x) (hx : ev sl x = some (pt g i)) (hk : bs[k]? = some (g, .cells cs t (0, 0))) (hc : cs[i]? = some c0) : OpOk Tryd.prog (Bl w0 bs) sl o c0 := fun a w hs hB => .inl ⟨w, by
  have hb := hB.at hk
  have h0 : w.cell? ⟨g, i, none⟩ = some c0 := (blk_cell hb i).trans hc
  have hxe := ev_eval hs hx
  have hu := Tryd.underlying29
  unfold execOp
  simp only [hop, hxe]
  go_simp, hB⟩
theorem ok_load4 (hop : o.op = .load 4 x) (hx : ev sl x = some (pt g i)) (hk : bs[k]? = some (g, .cells cs t (0, 0))) (hc : cs[i]? = some c0) : OpOk Tryd.prog (Bl w0 bs) sl o c0 := fun a w hs hB => .inl ⟨w, by
  have hb := hB.at hk
  have h0 : w.cell? ⟨g, i, none⟩ = some c0 := (blk_cell hb i).trans hc
  have hxe := ev_eval hs hx
  have hu := Tryd.underlying4
  unfold execOp
  simp only [hop, hxe]
  go_simp, hB⟩
theorem run_load25 {a : Act} {w : World} (hop : o.op = .load 25 x) (hs : Has sl a) (hx : ev sl x = some (pt g i)) (hB : Bl w0 bs w) (hk : bs[k]? = some (g, .cells cs t (0, 0))) (h0 : cs[i]? = some c0) (h1 : cs[i + 1]? = some c1) : (execOp a.eval o).run Tryd.prog w = .ok (.value (.agg #[c0, c1])) w := by
  have hb := hB.at hk
  have h0 : w.cell? ⟨g, i, none⟩ = some c0 := (blk_cell hb i).trans h0
  have h1 : w.cell? ⟨g, i + 1, none⟩ = some c1 := (blk_cell hb (i + 1)).trans h1
  have hu := Tryd.underlying25
  have hxe := ev_eval hs hx
  unfold execOp
  simp only [hop, hxe]
  go_simp
theorem ok_load25 (hop : o.op = .load 25 x) (hx : ev sl x = some (pt g i)) (hk : bs[k]? = some (g, .cells cs t (0, 0))) (h0 : cs[i]? = some c0) (h1 : cs[i + 1]? = some c1) : OpOk Tryd.prog (Bl w0 bs) sl o (.agg #[c0, c1]) := fun a w hs hB => .inl ⟨w, run_load25 hop hs hx hB hk h0 h1, hB⟩
theorem ok_load31 (hop : o.op = .load 31 x) (hx : ev sl x = some (pt g i)) (hk : bs[k]? = some (g, .cells cs t (0, 0))) (h0 : cs[i]? = some c0) (h1 : cs[i + 1]? = some c1) (h2 : cs[i + 2]? = some c2) : OpOk Tryd.prog (Bl w0 bs) sl o (.agg #[c0, c1, c2]) := fun a w hs hB => .inl ⟨w, by
  have hb := hB.at hk
  have h0 : w.cell? ⟨g, i, none⟩ = some c0 := (blk_cell hb i).trans h0
  have h1 : w.cell? ⟨g, i + 1, none⟩ = some c1 := (blk_cell hb (i + 1)).trans h1
  have h2 : w.cell? ⟨g, i + 2, none⟩ = some c2 := (blk_cell hb (i + 2)).trans h2
  have hu := Tryd.underlying31
  have hxe := ev_eval hs hx
  unfold execOp
  simp only [hop, hxe]
  go_simp, hB⟩
theorem ok_eq31 {a0 a1 a2 b0 b1 b2 : Int} (hop : o.op = .binOp .eql 31 x y 31) (hx : ev sl x = some (.agg #[.int .i64 a0, .int .i64 a1, .int .i64 a2])) (hy : ev sl y = some (.agg #[.int .i64 b0, .int .i64 b1, .int .i64 b2])) {b : Bool} (hb : (decide (a0 = b0) && decide (a1 = b1) && decide (a2 = b2)) = b) : OpOk Tryd.prog B sl o (.bool b) := fun a w hs hB => .inl ⟨w, by
  have hu := Tryd.underlying31
  have hxe := ev_eval hs hx
  have hye := ev_eval hs hy
  subst hb
  unfold execOp
  simp only [hop, hxe, hye]
  clear hx hy hxe hye hop
  (by_cases e0 : a0 = b0 <;> by_cases e1 : a1 = b1 <;> by_cases e2 : a2 = b2) <;> simp [go_sem, e0, e1, e2], hB⟩
theorem ok_neq31 {a0 a1 a2 b0 b1 b2 : Int} (hop : o.op = .binOp .neq 31 x y 31) (hx : ev sl x = some (.agg #[.int .i64 a0, .int .i64 a1, .int .i64 a2])) (hy : ev sl y = some (.agg #[.int .i64 b0, .int .i64 b1, .int .i64 b2])) {b : Bool} (hb : (!(decide (a0 = b0) && decide (a1 = b1) && decide (a2 = b2))) = b) : OpOk Tryd.prog B sl o (.bool b) := fun a w hs hB => .inl ⟨w, by
  have hu := Tryd.underlying31
  have hxe := ev_eval hs hx
  have hye := ev_eval hs hy
  subst hb
  unfold execOp
  simp only [hop, hxe, hye]
  clear hx hy hxe hye hop
  (by_cases e0 : a0 = b0 <;> by_cases e1 : a1 = b1 <;> by_cases e2 : a2 = b2) <;> simp [go_sem, e0, e1, e2], hB⟩
theorem ok_eq25 {a0 a1 b0 b1 : Int} (hop : o.op = .binOp .eql 25 x y 25) (hx : ev sl x = some (.agg #[.int .i64 a0, .int .i64 a1])) (hy : ev sl y = some (.agg #[.int .i64 b0, .int .i64 b1])) {b : Bool} (hb : (decide (a0 = b0) && decide (a1 = b1)) = b) : OpOk Tryd.prog B sl o (.bool b) := fun a w hs hB => .inl ⟨w, by
  have hu := Tryd.underlying25
  have hxe := ev_eval hs hx
  have hye := ev_eval hs hy
  subst hb
  unfold execOp
  simp only [hop, hxe, hye]
  clear hx hy hxe hye hop
  (by_cases e0 : a0 = b0 <;> by_cases e1 : a1 = b1) <;> simp [go_sem, e0, e1], hB⟩
theorem ok_neq25 {a0 a1 b0 b1 : Int} (hop : o.op = .binOp .neq 25 x y 25) (hx : ev sl x = some (.agg #[.int .i64 a0, .int .i64 a1])) (hy : ev sl y = some (.agg #[.int .i64 b0, .int .i64 b1])) {b : Bool} (hb : (!(decide (a0 = b0) && decide (a1 = b1))) = b) : OpOk Tryd.prog B sl o (.bool b) := fun a w hs hB => .inl ⟨w, by
  have hu := Tryd.underlying25
  have hxe := ev_eval hs hx
  have hye := ev_eval hs hy
  subst hb
  unfold execOp
  simp only [hop, hxe, hye]
  clear hx hy hxe hye hop
  (by_cases e0 : a0 = b0 <;> by_cases e1 : a1 = b1) <;> simp [go_sem, e0, e1], hB⟩
theorem ok_eq3 {a0 b0 : Int} (hop : o.op = .binOp .eql 3 x y 3) (hx : ev sl x = some (.int .i64 a0)) (hy : ev sl y = some (.int .i64 b0)) {b : Bool} (hb : decide (a0 = b0) = b) : OpOk Tryd.prog B sl o (.bool b) := fun a w hs hB => .inl ⟨w, by
  have hxe := ev_eval hs hx
  have hye := ev_eval hs hy
  have hu := Tryd.underlying3
  subst hb
  unfold execOp
  simp only [hop, hxe, hye]
  clear hx hy hxe hye hop
  by_cases e : a0 = b0 <;> (simp [go_sem, e] <;> omega), hB⟩
theorem ok_neq3 {a0 b0 : Int} (hop : o.op = .binOp .neq 3 x y 3) (hx : ev sl x = some (.int .i64 a0)) (hy : ev sl y = some (.int .i64 b0)) {b : Bool} (hb : decide (a0 ≠ b0) = b) : OpOk Tryd.prog B sl o (.bool b) := fun a w hs hB => .inl ⟨w, by
  have hxe := ev_eval hs hx
  have hye := ev_eval hs hy
  have hu := Tryd.underlying3
  subst hb
  unfold execOp
  simp only [hop, hxe, hye]
  clear hx hy hxe hye hop
  by_cases e : a0 ≠ b0 <;> (simp [go_sem, e] <;> omega), hB⟩
theorem ok_lss3 {a0 b0 : Int} (hop : o.op = .binOp .lss 3 x y 3) (hx : ev sl x = some (.int .i64 a0)) (hy : ev sl y = some (.int .i64 b0)) {b : Bool} (hb : decide (a0 < b0) = b) : OpOk Tryd.prog B sl o (.bool b) := fun a w hs hB => .inl ⟨w, by
  have hxe := ev_eval hs hx
  have hye := ev_eval hs hy
  have hu := Tryd.underlying3
  subst hb
  unfold execOp
  simp only [hop, hxe, hye]
  clear hx hy hxe hye hop
  by_cases e : a0 < b0 <;> (simp [go_sem, e] <;> omega), hB⟩
theorem ok_gtr3 {a0 b0 : Int} (hop : o.op = .binOp .gtr 3 x y 3) (hx : ev sl x = some (.int .i64 a0)) (hy : ev sl y = some (.int .i64 b0)) {b : Bool} (hb : decide (a0 > b0) = b) : OpOk Tryd.prog B sl o (.bool b) := fun a w hs hB => .inl ⟨w, by
  have hxe := ev_eval hs hx
  have hye := ev_eval hs hy
  have hu := Tryd.underlying3
  subst hb
  unfold execOp
  simp only [hop, hxe, hye]
  clear hx hy hxe hye hop
  by_cases e : a0 > b0 <;> (simp [go_sem, e] <;> omega), hB⟩
theorem ok_leq3 {a0 b0 : Int} (hop : o.op = .binOp .leq 3 x y 3) (hx : ev sl x = some (.int .i64 a0)) (hy : ev sl y = some (.int .i64 b0)) {b : Bool} (hb : decide (a0 ≤ b0) = b) : OpOk Tryd.prog B sl o (.bool b) := fun a w hs hB => .inl ⟨w, by
  have hxe := ev_eval hs hx
  have hye := ev_eval hs hy
  have hu := Tryd.underlying3
  subst hb
  unfold execOp
  simp only [hop, hxe, hye]
  clear hx hy hxe hye hop
  by_cases e : a0 ≤ b0 <;> (simp [go_sem, e] <;> omega), hB⟩
theorem ok_geq3 {a0 b0 : Int} (hop : o.op = .binOp .geq 3 x y 3) (hx : ev sl x = some (.int .i64 a0)) (hy : ev sl y = some (.int .i64 b0)) {b : Bool} (hb : decide (a0 ≥ b0) = b) : OpOk Tryd.prog B sl o (.bool b) := fun a w hs hB => .inl ⟨w, by
  have hxe := ev_eval hs hx
  have hye := ev_eval hs hy
  have hu := Tryd.underlying3
  subst hb
  unfold execOp
  simp only [hop, hxe, hye]
  clear hx hy hxe hye hop
  by_cases e : a0 ≥ b0 <;> (simp [go_sem, e] <;> omega), hB⟩
theorem ok_eq29 {a0 b0 : Int} (hop : o.op = .binOp .eql 29 x y 29) (hx : ev sl x = some (.int .i64 a0)) (hy : ev sl y = some (.int .i64 b0)) {b : Bool} (hb : decide (a0 = b0) = b) : OpOk Tryd.prog B sl o (.bool b) := fun a w hs hB => .inl ⟨w, by
  have hxe := ev_eval hs hx
  have hye := ev_eval hs hy
  have hu := Tryd.underlying29
  subst hb
  unfold execOp
  simp only [hop, hxe, hye]
  clear hx hy hxe hye hop
  by_cases e : a0 = b0 <;> (simp [go_sem, e] <;> omega), hB⟩
theorem ok_neq29 {a0 b0 : Int} (hop : o.op = .binOp .neq 29 x y 29) (hx : ev sl x = some (.int .i64 a0)) (hy : ev sl y = some (.int .i64 b0)) {b : Bool} (hb : decide (a0 ≠ b0) = b) : OpOk Tryd.prog B sl o (.bool b) := fun a w hs hB => .inl ⟨w, by
  have hxe := ev_eval hs hx
  have hye := ev_eval hs hy
  have hu := Tryd.underlying29
  subst hb
  unfold execOp
  simp only [hop, hxe, hye]
  clear hx hy hxe hye hop
  by_cases e : a0 ≠ b0 <;> (simp [go_sem, e] <;> omega), hB⟩
theorem ok_eq4 {a0 b0 : Bool} (hop : o.op = .binOp .eql 4 x y 4) (hx : ev sl x = some (.bool a0)) (hy : ev sl y = some (.bool b0)) {b : Bool} (hb : (a0 == b0) = b) : OpOk Tryd.prog B sl o (.bool b) := fun a w hs hB => .inl ⟨w, by
  have hxe := ev_eval hs hx
  have hye := ev_eval hs hy
  have hu := Tryd.underlying4
  subst hb
  unfold execOp
  simp only [hop, hxe, hye]
  clear hx hy hxe hye hop
  cases a0 <;> cases b0 <;> simp [go_sem], hB⟩
theorem ok_neq4 {a0 b0 : Bool} (hop : o.op = .binOp .neq 4 x y 4) (hx : ev sl x = some (.bool a0)) (hy : ev sl y = some (.bool b0)) {b : Bool} (hb : (a0 != b0) = b) : OpOk Tryd.prog B sl o (.bool b) := fun a w hs hB => .inl ⟨w, by
  have hxe := ev_eval hs hx
  have hye := ev_eval hs hy
  have hu := Tryd.underlying4
  subst hb
  unfold execOp
  simp only [hop, hxe, hye]
  clear hx hy hxe hye hop
  cases a0 <;> cases b0 <;> simp [go_sem], hB⟩
theorem ok_add3 {a0 b0 r : Int} (hop : o.op = .binOp .add 3 x y 3) (hx : ev sl x = some (.int .i64 a0)) (hy : ev sl y = some (.int .i64 b0)) (hr : wrap64 (a0 + b0) = r) : OpOk Tryd.prog B sl o (.int .i64 r) := fun a w hs hB => .inl ⟨w, by
  have hxe := ev_eval hs hx
  have hye := ev_eval hs hy
  have hu := Tryd.underlying3
  subst hr
  unfold execOp
  simp only [hop, hxe, hye]
  rw [← Go.Proofs.YtndfjpnpdnnpkaaDoorW.PrintLast.i64_w]
  go_simp, hB⟩
theorem ok_sub3 {a0 b0 r : Int} (hop : o.op = .binOp .sub 3 x y 3) (hx : ev sl x = some (.int .i64 a0)) (hy : ev sl y = some (.int .i64 b0)) (hr : wrap64 (a0 - b0) = r) : OpOk Tryd.prog B sl o (.int .i64 r) := fun a w hs hB => .inl ⟨w, by
  have hxe := ev_eval hs hx
  have hye := ev_eval hs hy
  have hu := Tryd.underlying3
  subst hr
  unfold execOp
  simp only [hop, hxe, hye]
  rw [← Go.Proofs.YtndfjpnpdnnpkaaDoorW.PrintLast.i64_w]
  go_simp, hB⟩
theorem ok_neg3 {a0 r : Int} (hop : o.op = .unOp .neg 3 x) (hx : ev sl x = some (.int .i64 a0)) (hr : wrap64 (-a0) = r) : OpOk Tryd.prog B sl o (.int .i64 r) := fun a w hs hB => .inl ⟨w, by
  have hxe := ev_eval hs hx
  subst hr
  unfold execOp
  simp only [hop, hxe]
  rw [← Go.Proofs.YtndfjpnpdnnpkaaDoorW.PrintLast.i64_w]
  go_simp, hB⟩
theorem ok_build25 {p q : Operand} {a0 b0 : Int} (hop : o.op = .build 25 #[(0, p), (1, q)]) (hx : ev sl p = some (.int .i64 a0)) (hy : ev sl q = some (.int .i64 b0)) : OpOk Tryd.prog B sl o (.agg #[.int .i64 a0, .int .i64 b0]) := fun a w hs hB => .inl ⟨w, by
  have hxe := ev_eval hs hx
  have hye := ev_eval hs hy
  have hu := Tryd.underlying25
  unfold execOp
  simp only [hop, List.map_toArray, List.map_cons, List.map_nil, hxe, hye]
  go_simp, hB⟩
theorem ok_build25_0 {p : Operand} {a0 : Int} (hop : o.op = .build 25 #[(0, p)]) (hx : ev sl p = some (.int .i64 a0)) : OpOk Tryd.prog B sl o (.agg #[.int .i64 a0, .int .i64 0]) := fun a w hs hB => .inl ⟨w, by
  have hxe := ev_eval hs hx
  have hu := Tryd.underlying25
  unfold execOp
  simp only [hop, List.map_toArray, List.map_cons, List.map_nil, hxe]
  go_simp, hB⟩
theorem ok_build25_1 {p : Operand} {a0 : Int} (hop : o.op = .build 25 #[(1, p)]) (hx : ev sl p = some (.int .i64 a0)) : OpOk Tryd.prog B sl o (.agg #[.int .i64 0, .int .i64 a0]) := fun a w hs hB => .inl ⟨w, by
  have hxe := ev_eval hs hx
  have hu := Tryd.underlying25
  unfold execOp
  simp only [hop, List.map_toArray, List.map_cons, List.map_nil, hxe]
  go_simp, hB⟩
theorem ok_build31_1 {p : Operand} {a0 : Int} (hop : o.op = .build 31 #[(1, p)]) (hx : ev sl p = some (.int .i64 a0)) : OpOk Tryd.prog B sl o (.agg #[.int .i64 0, .int .i64 0, .int .i64 a0]) := fun a w hs hB => .inl ⟨w, by
  have hxe := ev_eval hs hx
  have hu := Tryd.underlying31
  unfold execOp
  simp only [hop, List.map_toArray, List.map_cons, List.map_nil, hxe]
  go_simp, hB⟩
theorem ok_field31_0 {a0 a1 a2 : Int} (hop : o.op = .field 31 x 0) (hx : ev sl x = some (.agg #[.int .i64 a0, .int .i64 a1, .int .i64 a2])) : OpOk Tryd.prog B sl o (.agg #[.int .i64 a0, .int .i64 a1]) := fun a w hs hB => .inl ⟨w, by
  have hxe := ev_eval hs hx
  have hu := Tryd.underlying31
  have hu2 := Tryd.underlying25
  have hf : (Instr.field 31 (.agg #[.int .i64 a0, .int .i64 a1, .int .i64 a2]) 0).run Tryd.prog w = .ok (.agg #[.int .i64 a0, .int .i64 a1]) w := by kernel_rfl
  unfold execOp
  simp only [hop, hxe]
  simp [go_sem, hf], hB⟩
theorem ok_field31_1 {a0 a1 a2 : Int} (hop : o.op = .field 31 x 1) (hx : ev sl x = some (.agg #[.int .i64 a0, .int .i64 a1, .int .i64 a2])) : OpOk Tryd.prog B sl o (.int .i64 a2) := fun a w hs hB => .inl ⟨w, by
  have hxe := ev_eval hs hx
  have hu := Tryd.underlying31
  have hu2 := Tryd.underlying29
  have hf : (Instr.field 31 (.agg #[.int .i64 a0, .int .i64 a1, .int .i64 a2]) 1).run Tryd.prog w = .ok (.int .i64 a2) w := by kernel_rfl
  unfold execOp
  simp only [hop, hxe]
  simp [go_sem, hf], hB⟩
end
/-! ### In order -/
section
variable {P : Program} {ops : Array Oper} {Q : Exit → Act → World → Prop} {rest : List Oper} {sl : SL} {o : Oper} {v u : Value} {x y c : Operand} {w0 w : World} {a : Act} {bs : BL} {g k i n d : Nat} {c0 c1 c2 d0 d1 d2 : Value} {t : TypeId} {cs cs' : Array Value}
theorem Sl.put (ha : Sl n sl a) (hn : d < n) : Sl n ((d, v) :: sl) (a.put (some d) v) := by
  refine ⟨by simpa [Act.put] using ha.size, ha.defers, fun t u h => ?_⟩
  rw [look_cons] at h
  show (a.tmps.setIfInBounds d v)[t]? = some u
  split at h
  · rename_i e; subst e; cases h
    rw [Array.getElem?_setIfInBounds_self_of_lt (by rw [ha.size]; exact hn)]
  · rename_i e; rw [Array.getElem?_setIfInBounds_ne e]; exact ha.has t u h
theorem l_fit (hf : OpFit P ops (Bl w0 bs) sl o v) (hd : o.dst = some d) (hn : Nat.ble (d + 1) n = true) (ha : Sl n sl a) (hB : Bl w0 bs w) (h : ∀ a' w', Sl n ((d, v) :: sl) a' → Bl w0 bs w' → wpList P ops Q rest a' w') : wpList P ops Q (o :: rest) a w := by
  have hn' : d < n := Nat.le_of_ble_eq_true hn
  have hh := hf a w ha.has hB
  refine wpList_step fun K hK => ?_
  split at hh
  · rename_i hw
    rw [if_pos hw]
    unfold Oper.wp
    rcases hh with ⟨w', hrun, hB'⟩ | ⟨f, args, hrun, hcall⟩
    · rw [hrun]; refine hK _ _ ?_; rw [hd]; exact h _ _ (ha.put hn') hB'
    · rw [hrun, Oper.upon_enter]
      refine hcall.mono fun e w' hh => ?_
      obtain ⟨rfl, hB'⟩ := hh
      refine hK _ _ ?_; rw [hd]; exact h _ _ (ha.put hn') hB'
  · rename_i hw
    rw [if_neg hw]
    refine hK _ _ ?_; rw [hd, ← hh]; exact h _ _ (ha.put hn') hB
theorem l_new {ob : Obj} (hg : o.guard = none) (hd : o.dst = some d) (hn : Nat.ble (d + 1) n = true) (hrun : (execOp a.eval o).run P w = .ok (.value (pt w.heap.size 0)) (w.alloc ob)) (ha : Sl n sl a) (hB : Bl w0 bs w)
    (h : ∀ g a' w', Sl n ((d, pt g 0) :: sl) a' → Bl w0 ((g, ob) :: bs) w' → wpList P ops Q rest a' w') : wpList P ops Q (o :: rest) a w := by
  refine wpList_plain hg fun K hK => ?_
  unfold Oper.wp
  rw [hrun]
  refine hK _ _ ?_
  rw [hd]
  exact h _ _ _ (ha.put (Nat.le_of_ble_eq_true hn)) (hB.alloc ob)
/-- The same as one step of a region that draws its order. -/
theorem s_new {ob : Obj} {K : Act → World → Prop} (hw : Region.wanted o (yielded ops a.tmps) = true) (hd : o.dst = some d) (hn : Nat.ble (d + 1) n = true) (hrun : (execOp a.eval o).run P w = .ok (.value (pt w.heap.size 0)) (w.alloc ob)) (ha : Sl n sl a) (hB : Bl w0 bs w)
    (h : ∀ g a' w', Sl n ((d, pt g 0) :: sl) a' → Bl w0 ((g, ob) :: bs) w' → K a' w') : if Region.wanted o (yielded ops a.tmps) = true then Oper.wp P o a w K Q else K (a.put (some d) undef) w := by
  rw [if_pos hw]
  unfold Oper.wp
  rw [hrun]
  show K (a.put o.dst _) _
  rw [hd]
  exact h _ _ _ (ha.put (Nat.le_of_ble_eq_true hn)) (hB.alloc ob)
theorem run_alloc25 (hop : o.op = .alloc 25) : (execOp a.eval o).run Tryd.prog w = .ok (.value (pt w.heap.size 0)) (w.alloc (.cells #[.int .i64 0, .int .i64 0] 25 (0, 0))) := by
  have hu := Tryd.underlying25; unfold execOp; simp only [hop]; go_simp
theorem s_put {w1 : World} {bs' : BL} {K : Act → World → Prop} (hw : Region.wanted o (yielded ops a.tmps) = true) (hd : o.dst = none) (hrun : (execOp a.eval o).run P w = .ok .skip w1) (hB : Bl w0 bs' w1) (h : ∀ w', Bl w0 bs' w' → K a w') : if Region.wanted o (yielded ops a.tmps) = true then Oper.wp P o a w K Q else K (a.put none undef) w := by
  rw [if_pos hw]
  unfold Oper.wp
  rw [hrun]
  show K (a.put o.dst _) _
  rw [hd]
  exact h _ hB
theorem l_alloc25 (hg : o.guard = none) (hop : o.op = .alloc 25) (hd : o.dst = some d) (hn : Nat.ble (d + 1) n = true) (ha : Sl n sl a) (hB : Bl w0 bs w)
    (h : ∀ g a' w', Sl n ((d, pt g 0) :: sl) a' → Bl w0 ((g, .cells #[.int .i64 0, .int .i64 0] 25 (0, 0)) :: bs) w' → wpList Tryd.prog ops Q rest a' w') : wpList Tryd.prog ops Q (o :: rest) a w :=
  l_new hg hd hn (by have hu := Tryd.underlying25; unfold execOp; simp only [hop]; go_simp) ha hB h
theorem l_alloc31 (hg : o.guard = none) (hop : o.op = .alloc 31) (hd : o.dst = some d) (hn : Nat.ble (d + 1) n = true) (ha : Sl n sl a) (hB : Bl w0 bs w)
    (h : ∀ g a' w', Sl n ((d, pt g 0) :: sl) a' → Bl w0 ((g, .cells #[.int .i64 0, .int .i64 0, .int .i64 0] 31 (0, 0)) :: bs) w' → wpList Tryd.prog ops Q rest a' w') : wpList Tryd.prog ops Q (o :: rest) a w :=
  l_new hg hd hn (by have hu := Tryd.underlying31; unfold execOp; simp only [hop]; go_simp) ha hB h
theorem l_box22 (hg : o.guard = none) (hop : o.op = .box 22 x) (hx : ev sl x = some (.agg #[c0, c1])) (hd : o.dst = some d) (hn : Nat.ble (d + 1) n = true) (ha : Sl n sl a) (hB : Bl w0 bs w)
    (h : ∀ g a' w', Sl n ((d, pt g 0) :: sl) a' → Bl w0 ((g, .cells #[c0, c1] 22 (0, 0)) :: bs) w' → wpList Tryd.prog ops Q rest a' w') : wpList Tryd.prog ops Q (o :: rest) a w :=
  l_new hg hd hn (by have hu := Tryd.underlying22; have hxe := ev_eval ha.has hx; unfold execOp; simp only [hop, hxe]; go_simp) ha hB h
theorem l_put {w1 : World} {bs' : BL} (hg : o.guard = none) (hd : o.dst = none) (hrun : (execOp a.eval o).run P w = .ok .skip w1) (ha : Sl n sl a) (hB : Bl w0 bs' w1) (h : ∀ w', Bl w0 bs' w' → wpList P ops Q rest a w') : wpList P ops Q (o :: rest) a w := by
  refine wpList_plain hg fun K hK => ?_
  unfold Oper.wp
  rw [hrun]
  refine hK _ _ ?_
  rw [hd]
  exact h _ hB
theorem run_store25 {a0 a1 : Int} (hop : o.op = .store 25 x y) (hx : ev sl x = some (pt g i)) (hy : ev sl y = some (.agg #[.int .i64 a0, .int .i64 a1])) (hk : bs[k]? = some (g, .cells cs t (0, 0))) (hi : Nat.ble (i + 2) cs.size = true) (hc : ((cs.setIfInBounds i (.int .i64 a0)).setIfInBounds (i + 1) (.int .i64 a1)) = cs') (hs : Has sl a) (hB : Bl w0 bs w) :
    ∃ w1, (execOp a.eval o).run Tryd.prog w = .ok .skip w1 ∧ Bl w0 (bs.set k (g, .cells cs' t (0, 0))) w1 := by
  have hi' : i + 2 ≤ cs.size := Nat.le_of_ble_eq_true hi
  have hb := hB.at hk
  have hlt : k < bs.length := (List.getElem?_eq_some_iff.1 hk).1
  have z0 := hB
  have k0 := hk
  have z1 := z0.put k0 i (.int .i64 a0) rfl
  have k1 : (bs.set k (g, .cells (cs.setIfInBounds i (.int .i64 a0)) t (0, 0)))[k]? = some (g, .cells (cs.setIfInBounds i (.int .i64 a0)) t (0, 0)) := by rw [List.getElem?_set_self hlt]
  have z2 := z1.put k1 (i + 1) (.int .i64 a1) hc
  rw [List.set_set] at z2
  have e0 : w.cell? ⟨g, i, none⟩ = some cs[i] := (blk_cell hb i).trans (Array.getElem?_eq_getElem _)
  have f0 := blk_frozen hb i
  have e1 : w.cell? ⟨g, i + 1, none⟩ = some cs[i + 1] := (blk_cell hb (i + 1)).trans (Array.getElem?_eq_getElem _)
  have f1 := blk_frozen hb (i + 1)
  refine ⟨((w.setCell ⟨g, i, none⟩ (.int .i64 a0)).setCell ⟨g, i + 1, none⟩ (.int .i64 a1)), ?_, z2⟩
  have hu := Tryd.underlying25
  have hxe := ev_eval hs hx
  have hye := ev_eval hs hy
  unfold execOp
  simp only [hop, hxe, hye]
  clear hc z0 z1 z2 k0 k1 hop hx hy hxe hye hk
  go_simp
theorem l_store25 {a0 a1 : Int} (hg : o.guard = none) (hop : o.op = .store 25 x y) (hx : ev sl x = some (pt g i)) (hy : ev sl y = some (.agg #[.int .i64 a0, .int .i64 a1])) (hk : bs[k]? = some (g, .cells cs t (0, 0))) (hi : Nat.ble (i + 2) cs.size = true) (hc : ((cs.setIfInBounds i (.int .i64 a0)).setIfInBounds (i + 1) (.int .i64 a1)) = cs') (hd : o.dst = none) (ha : Sl n sl a) (hB : Bl w0 bs w)
    (h : ∀ w', Bl w0 (bs.set k (g, .cells cs' t (0, 0))) w' → wpList Tryd.prog ops Q rest a w') : wpList Tryd.prog ops Q (o :: rest) a w := by
  obtain ⟨w1, hr, hB1⟩ := run_store25 hop hx hy hk hi hc ha.has hB
  exact l_put hg hd hr ha hB1 h
theorem s_store25 {a0 a1 : Int} {K : Act → World → Prop} (hw : Region.wanted o (yielded ops a.tmps) = true) (hop : o.op = .store 25 x y) (hx : ev sl x = some (pt g i)) (hy : ev sl y = some (.agg #[.int .i64 a0, .int .i64 a1])) (hk : bs[k]? = some (g, .cells cs t (0, 0))) (hi : Nat.ble (i + 2) cs.size = true) (hc : ((cs.setIfInBounds i (.int .i64 a0)).setIfInBounds (i + 1) (.int .i64 a1)) = cs') (hd : o.dst = none) (ha : Sl n sl a) (hB : Bl w0 bs w)
    (h : ∀ w', Bl w0 (bs.set k (g, .cells cs' t (0, 0))) w' → K a w') : if Region.wanted o (yielded ops a.tmps) = true then Oper.wp Tryd.prog o a w K Q else K (a.put none undef) w := by
  obtain ⟨w1, hr, hB1⟩ := run_store25 hop hx hy hk hi hc ha.has hB
  exact s_put hw hd hr hB1 h
theorem l_store31 {a0 a1 a2 : Int} (hg : o.guard = none) (hop : o.op = .store 31 x y) (hx : ev sl x = some (pt g i)) (hy : ev sl y = some (.agg #[.int .i64 a0, .int .i64 a1, .int .i64 a2])) (hk : bs[k]? = some (g, .cells cs t (0, 0))) (hi : Nat.ble (i + 3) cs.size = true) (hc : (((cs.setIfInBounds i (.int .i64 a0)).setIfInBounds (i + 1) (.int .i64 a1)).setIfInBounds (i + 2) (.int .i64 a2)) = cs') (hd : o.dst = none) (ha : Sl n sl a) (hB : Bl w0 bs w)
    (h : ∀ w', Bl w0 (bs.set k (g, .cells cs' t (0, 0))) w' → wpList Tryd.prog ops Q rest a w') : wpList Tryd.prog ops Q (o :: rest) a w := by
  have hi' : i + 3 ≤ cs.size := Nat.le_of_ble_eq_true hi
  have hb := hB.at hk
  have hlt : k < bs.length := (List.getElem?_eq_some_iff.1 hk).1
  have z0 := hB
  have k0 := hk
  have z1 := z0.put k0 i (.int .i64 a0) rfl
  have k1 : (bs.set k (g, .cells (cs.setIfInBounds i (.int .i64 a0)) t (0, 0)))[k]? = some (g, .cells (cs.setIfInBounds i (.int .i64 a0)) t (0, 0)) := by rw [List.getElem?_set_self hlt]
  have z2 := z1.put k1 (i + 1) (.int .i64 a1) rfl
  rw [List.set_set] at z2
  have k2 : (bs.set k (g, .cells ((cs.setIfInBounds i (.int .i64 a0)).setIfInBounds (i + 1) (.int .i64 a1)) t (0, 0)))[k]? = some (g, .cells ((cs.setIfInBounds i (.int .i64 a0)).setIfInBounds (i + 1) (.int .i64 a1)) t (0, 0)) := by rw [List.getElem?_set_self hlt]
  have z3 := z2.put k2 (i + 2) (.int .i64 a2) hc
  rw [List.set_set] at z3
  have e0 : w.cell? ⟨g, i, none⟩ = some cs[i] := (blk_cell hb i).trans (Array.getElem?_eq_getElem _)
  have f0 := blk_frozen hb i
  have e1 : w.cell? ⟨g, i + 1, none⟩ = some cs[i + 1] := (blk_cell hb (i + 1)).trans (Array.getElem?_eq_getElem _)
  have f1 := blk_frozen hb (i + 1)
  have e2 : w.cell? ⟨g, i + 2, none⟩ = some cs[i + 2] := (blk_cell hb (i + 2)).trans (Array.getElem?_eq_getElem _)
  have f2 := blk_frozen hb (i + 2)
  refine l_put hg hd (w1 := (((w.setCell ⟨g, i, none⟩ (.int .i64 a0)).setCell ⟨g, i + 1, none⟩ (.int .i64 a1)).setCell ⟨g, i + 2, none⟩ (.int .i64 a2))) ?_ ha z3 h
  have hu := Tryd.underlying31
  have hxe := ev_eval ha.has hx
  have hye := ev_eval ha.has hy
  unfold execOp
  simp only [hop, hxe, hye]
  clear hc h z0 z1 z2 z3 k0 k1 k2 hop hx hy hxe hye hk
  go_simp
theorem l_store3 {a0 : Int} (hg : o.guard = none) (hop : o.op = .store 3 x y) (hx : ev sl x = some (pt g i)) (hy : ev sl y = some (.int .i64 a0)) (hk : bs[k]? = some (g, .cells cs t (0, 0))) (hi : Nat.ble (i + 1) cs.size = true) (hc : (cs.setIfInBounds i (.int .i64 a0)) = cs') (hd : o.dst = none) (ha : Sl n sl a) (hB : Bl w0 bs w)
    (h : ∀ w', Bl w0 (bs.set k (g, .cells cs' t (0, 0))) w' → wpList Tryd.prog ops Q rest a w') : wpList Tryd.prog ops Q (o :: rest) a w := by
  have hi' : i + 1 ≤ cs.size := Nat.le_of_ble_eq_true hi
  have hb := hB.at hk
  have hlt : k < bs.length := (List.getElem?_eq_some_iff.1 hk).1
  have z0 := hB
  have k0 := hk
  have z1 := z0.put k0 i (.int .i64 a0) hc
  have e0 : w.cell? ⟨g, i, none⟩ = some cs[i] := (blk_cell hb i).trans (Array.getElem?_eq_getElem _)
  have f0 := blk_frozen hb i
  refine l_put hg hd (w1 := (w.setCell ⟨g, i, none⟩ (.int .i64 a0))) ?_ ha z1 h
  have hu := Tryd.underlying3
  have hxe := ev_eval ha.has hx
  have hye := ev_eval ha.has hy
  unfold execOp
  simp only [hop, hxe, hye]
  clear hc h z0 z1 k0 hop hx hy hxe hye hk
  go_simp
end
/-! ### Code -/
def fromRegion (n : Nat) : Code → Option Code
  | .region m a b => if m = n then some (.region m a b) else none
  | .seq (.region m a b) c => if m = n then some (.seq (.region m a b) c) else fromRegion n c
  | .seq a b => match fromRegion n a with
    | some c => some (.seq c b)
    | none => fromRegion n b
  | .block _ c => fromRegion n c
  | .scope c => fromRegion n c
  | .loop c => fromRegion n c
  | .cond _ a b => match fromRegion n a with
    | some c => some c
    | none => fromRegion n b
  | _ => none
noncomputable def restOf (f : Func) (n : Nat) : Code := (f.body.bind (fromRegion n)).getD .skip
section
variable {P : Program} {ops : Array Oper} {Q : Exit → Act → World → Prop} {sl : SL} {v u : Value} {x y c : Operand} {w : World} {a : Act} {n : Nat}
theorem l_nil {z : Code} (h : z.wp P Q a w) : wpList P ops (Exit.then (z.wp P Q) Q) [] a w := h
theorem l_end (h : Q .normal a w) : wpList P ops Q [] a w := h
theorem then_n {z : Code} (h : z.wp P Q a w) : Exit.then (z.wp P Q) Q .normal a w := h
theorem c_list {id : Nat} {z : Code} (h : wpList P ops (Exit.then (z.wp P Q) Q) ops.toList a w) : (Code.seq (.region id ops false) z).wp P Q a w := wp_seq (wp_region_list h)
theorem c_true {p q : Code} (ha : Sl n sl a) (hc : ev sl c = some (.bool true)) (h : p.wp P Q a w) : (Code.cond c p q).wp P Q a w := wp_cond_true (ev_eval ha.has hc) h
theorem c_false {p q : Code} (ha : Sl n sl a) (hc : ev sl c = some (.bool false)) (h : q.wp P Q a w) : (Code.cond c p q).wp P Q a w := wp_cond_false (ev_eval ha.has hc) h
theorem c_ret {fn : Func} {R : Ending → World → Prop} {t : Nat} (hr : fn.results = #[.tmp t]) (ha : Sl n sl a) (hl : look sl t = some v) (h : R (.returned v) w) : bodyPost P fn R .ret a w := by
  refine ⟨ha.defers, v, ?_, h⟩
  rw [results_tmp hr, Array.getD_eq_getD_getElem?, ha.has t v hl]; rfl
def numb : Nat → List Value → SL
  | _, [] => []
  | k, v :: r => (k, v) :: numb (k + 1) r
theorem look_numb : ∀ (l : List Value) (k t : Nat) (v : Value), look (numb k l) t = some v → k ≤ t ∧ l[t - k]? = some v
  | [], k, t, v, h => by cases h
  | u :: l, k, t, v, h => by
    rw [numb, look_cons] at h
    split at h
    · rename_i e; subst e; exact ⟨Nat.le_refl _, by simpa using h⟩
    · rename_i e
      have := look_numb l (k + 1) t v h
      refine ⟨by omega, ?_⟩
      have e2 : t - k = (t - (k + 1)) + 1 := by omega
      rw [e2]; simpa using this.2
theorem start {f : FuncId} {fn : Func} {z : Code} {args : List Value} {R : Ending → World → Prop} (hf : P.funcs[f]? = some fn) (hb : fn.body = some z) (hn : fn.ntmps = n) (hsz : Nat.ble args.length n = true)
    (h : ∀ a, Sl n (numb 0 args) a → z.wp P (bodyPost P fn R) a w) : Calls P f ⟨args⟩ w R := by
  have hsz' : args.length ≤ n := Nat.le_of_ble_eq_true hsz
  refine calls_of_wp hf hb (h _ ⟨?_, rfl, fun t v e => ?_⟩)
  · rw [hn]; simp; omega
  · have := (look_numb args 0 t v e).2
    rw [Nat.sub_zero] at this
    have hlt : t < args.length := (List.getElem?_eq_some_iff.1 this).1
    rw [Array.getElem?_append_left (by simpa using hlt)]
    simpa using this
end
end Go.Proofs.YtndfjpnpdnnpkaaDoor.Cx
