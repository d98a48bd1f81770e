/- reduce.Few, plain: the round of a class, what is needed, the few bounds. -/
import Derived.Test.YtapfihlgemejiaaR3
namespace Go.Proofs.Ytapfihlgemejiaa

/-- The rank of a clock in the class of 0. -/
def rankI (Z : List Int) (x : Nat) : Nat := if x = 0 then 0 else if cellN Z x 0 ≤ 1 ∧ cellN Z 0 x ≤ 1 then 1 else 2
/-- A class in the order in which its bounds go round: a stable sort by three ranks. -/
def roundL (Z : List Int) (c : List Nat) : List Nat :=
  if c.getD 0 0 = 0 then (c.filter fun x => rankI Z x = 0) ++ (c.filter fun x => rankI Z x = 1) ++ (c.filter fun x => rankI Z x = 2) else c
/-- The bounds of a class, round. -/
def roundPuts (Z : List Int) (l : List Nat) : List (Nat × Nat) :=
  (List.range l.length).filterMap fun k => if 1 < l.length ∧ (l.getD k 0 ≠ 0 ∨ cellN Z 0 (l.getD ((k + 1) % l.length) 0) ≠ 1) then some (l.getD k 0, l.getD ((k + 1) % l.length) 0) else none
def hd (c : List Nat) : Nat := c.getD 0 0
/-- Is the bound from a head to that of another class one of the few? -/
def neededB (Z : List Int) (i : Nat) (d : List Nat) (cls : List (List Nat)) : Bool :=
  decide (cellN Z i (hd d) ≠ 2147483647) && !(decide (i = 0) && d.any fun a => decide (cellN Z 0 a = 1)) &&
    !cls.any fun c => decide (hd c ≠ i) && decide (hd c ≠ hd d) && decide (wayI (cellN Z i (hd c)) (cellN Z (hd c) (hd d)) ≤ cellN Z i (hd d))
/-- The few bounds of a zone of n clocks: from, to. -/
def fewL (Z : List Int) (n : Nat) : List (Nat × Nat) :=
  (classesL Z n).flatMap (fun c => roundPuts Z (roundL Z c)) ++
    (classesL Z n).flatMap fun c => ((classesL Z n).filter fun d => decide (hd c ≠ hd d) && neededB Z (hd c) d (classesL Z n)).map fun d => (hd c, hd d)
end Go.Proofs.Ytapfihlgemejiaa
