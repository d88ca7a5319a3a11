/- Short laws for the steps of a region that draws its order: which operations are told, as a number's bits. -/
import Derived.Test.YtndfjpnpdnnpkaaDoorWTab
import Derived.Test.YtndfjpnpdnnpkaaDoorWLast
import Derived.Test.YtndfjpnpdnnpkaaDoorWWords
namespace Go.Proofs.YtndfjpnpdnnpkaaDoorW.PrintLast
open Go.Proofs.YtndfjpnpdnnpkaaDoorW.PrintWords (Aside0)
abbrev T_ : Bool := true
abbrev F_ : Bool := false
/-- The lowest n bits of m, as a list. -/
def bz : Nat → Nat → List Bool
  | 0, _ => []
  | n + 1, m => (m % 2 == 1) :: bz n (m / 2)
theorem P_ (l : Array Value) (d : List Deferred) (n : Nat) (v : Value) : (Act.mk l d).put (some n) v = Act.mk (l.setIfInBounds n v) d := rfl
theorem A_ (xs : List Value) (i : Nat) (x : Value) : xs.toArray.setIfInBounds i x = (xs.set i x).toArray := List.setIfInBounds_toArray ..
theorem B_ (x y : Value) (xs : List Value) : (x :: xs).set 0 y = y :: xs := rfl
theorem C_ (x y : Value) (xs : List Value) (i : Nat) : (x :: xs).set (i + 1) y = x :: xs.set i y := rfl
section
variable {P : Program} {ops : Array Oper} {Q : Exit → Act → World → Prop} {md : Region.Mode} {S : World → Prop} {ds : List Nat} {T : Bool × List (List Nat × List Nat)} {B : List Nat}
/-- pure_, wanted. -/
theorem pz_ (i N n m : Nat) (hT : Aside0 (rtab md ops = T)) {oi : Oper} {fuel : Nat} {l : Array Bool} {a : Act} {w : World} (hi : ops[i]? = some oi) (hN : oi.dst = some N) (hc : anyT T l.toList (bz n m) i = true)
    (v : Value) (hQ : ∀ c a w, Q (.panic c) (a.put oi.dst v) w → Q (.panic c) a w) (hw : Region.wanted oi (yielded ops a.tmps) = true) (hv : ∀ w, (execOp a.eval oi).run P w = .ok (.value v) w) (a' : Act) (ha : a.put (some N) v = a')
    (h : wpAnyLast P md ops Q S ds fuel ⟨bz n m⟩ a' w) : wpAnyLast P md ops Q S ds (fuel + 1) l a w :=
  pure_ ⟨bz n m⟩ hi hN (any_of hT.out hc) hQ (Or.inl ⟨hw, hv⟩) ha h
/-- pure_, not wanted. -/
theorem pu_ (i N n m : Nat) (hT : Aside0 (rtab md ops = T)) {oi : Oper} {fuel : Nat} {l : Array Bool} {a : Act} {w : World} (hi : ops[i]? = some oi) (hN : oi.dst = some N) (hc : anyT T l.toList (bz n m) i = true)
    (hQ : ∀ c a w, Q (.panic c) (a.put oi.dst undef) w → Q (.panic c) a w) (hw : Region.wanted oi (yielded ops a.tmps) = false) (a' : Act) (ha : a.put (some N) undef = a')
    (h : wpAnyLast P md ops Q S ds fuel ⟨bz n m⟩ a' w) : wpAnyLast P md ops Q S ds (fuel + 1) l a w :=
  pure_ ⟨bz n m⟩ hi hN (any_of hT.out hc) hQ (Or.inr ⟨hw, rfl⟩) ha h
/-- take_, wanted. -/
theorem tz_ (i N n m : Nat) (hT : Aside0 (rtab md ops = T)) (hB : Aside0 (waitsOk T.2 B = true)) {oi : Oper} {fuel : Nat} {l : Array Bool} {a : Act} {w : World} (hi : ops[i]? = some oi) (hN : oi.dst = some N) (hc : takeW T B ds l.toList (bz n m) i = true)
    (hS : S w) (v : Value) (hQ : ∀ c a w, Q (.panic c) (a.put oi.dst v) w → Q (.panic c) a w) (hw : Region.wanted oi (yielded ops a.tmps) = true) (hv : ∀ w, S w → (execOp a.eval oi).run P w = .ok (.value v) w) (a' : Act) (ha : a.put (some N) v = a')
    (h : wpAnyLast P md ops Q S ds fuel ⟨bz n m⟩ a' w) : wpAnyLast P md ops Q S ds (fuel + 1) l a w :=
  take_ ⟨bz n m⟩ hi hN (take_ofW hT.out hB.out hc) hQ (Or.inl ⟨hw, hv⟩) hS ha h
end
end Go.Proofs.YtndfjpnpdnnpkaaDoorW.PrintLast
