/- More operations of straight-line code. -/
import Derived.Test.YtndfjpnpdnnpkaaDoorCy
namespace Go.Proofs.YtndfjpnpdnnpkaaDoor.Cx
set_option linter.unusedVariables false
set_option linter.unusedSimpArgs false
open Go Go.Proofs Go.RowKit
open Go.Proofs.YtndfjpnpdnnpkaaDoorW.PrintWords Go.Proofs.YtndfjpnpdnnpkaaDoorW.PrintMore
section
variable {P : Program} {B : World → Prop} {sl : SL} {o : Oper} {v u : Value} {x y c : Operand} {w0 : World} {bs : BL} {g k i : Nat} {c0 c1 c2 : Value} {t : TypeId} {cs : Array Value}
theorem ok_conv5 {a0 r : Int} (hop : o.op = .convert 5 3 x) (hx : ev sl x = some (.int .u8 a0)) (hr : wrap64 a0 = r) : OpOk Tryd.prog B sl o (.int .i64 r) := fun a w hs hB => .inl ⟨w, by
  have hxe := ev_eval hs hx
  have hu := Tryd.underlying5
  have hu3 := Tryd.underlying3
  subst hr
  unfold execOp
  simp only [hop, hxe]
  rw [← Go.Proofs.YtndfjpnpdnnpkaaDoorW.PrintLast.i64_w]
  go_simp, hB⟩
theorem ok_rem3 {a0 b0 r : Int} (hop : o.op = .binOp .rem 3 x y 3) (hx : ev sl x = some (.int .i64 a0)) (hy : ev sl y = some (.int .i64 b0)) (h0 : b0 ≠ 0) (hr : Int.tmod a0 b0 = r) : OpOk Tryd.prog B sl o (.int .i64 r) := fun a w hs hB => .inl ⟨w, by
  have hxe := ev_eval hs hx
  have hye := ev_eval hs hy
  have hu := Tryd.underlying3
  subst hr
  unfold execOp
  simp only [hop, hxe, hye]
  clear hx hy hxe hye hop
  go_simp, hB⟩
theorem ok_max3 {a0 b0 r : Int} {ts : Array TypeId} (hop : o.op = .call { callee := .builtin .max, args := #[x, y], argTypes := ts }) (hx : ev sl x = some (.int .i64 a0)) (hy : ev sl y = some (.int .i64 b0)) (hr : (if a0 < b0 then b0 else a0) = r) : OpOk Tryd.prog B sl o (.int .i64 r) := fun a w hs hB => .inl ⟨w, by
  have hxe := ev_eval hs hx
  have hye := ev_eval hs hy
  have hu := Tryd.underlying3
  subst hr
  unfold execOp
  simp only [hop, resolve, List.map_toArray, List.map_cons, List.map_nil, hxe, hye]
  clear hx hy hxe hye hop
  simp [go_sem, max_two, max2_int], hB⟩
theorem ok_min3 {a0 b0 r : Int} {ts : Array TypeId} (hop : o.op = .call { callee := .builtin .min, args := #[x, y], argTypes := ts }) (hx : ev sl x = some (.int .i64 a0)) (hy : ev sl y = some (.int .i64 b0)) (hr : (if b0 < a0 then b0 else a0) = r) : OpOk Tryd.prog B sl o (.int .i64 r) := fun a w hs hB => .inl ⟨w, by
  have hxe := ev_eval hs hx
  have hye := ev_eval hs hy
  have hu := Tryd.underlying3
  subst hr
  unfold execOp
  simp only [hop, resolve, List.map_toArray, List.map_cons, List.map_nil, hxe, hye]
  clear hx hy hxe hye hop
  simp [go_sem, min_two, min2_int], hB⟩
end
end Go.Proofs.YtndfjpnpdnnpkaaDoor.Cx
