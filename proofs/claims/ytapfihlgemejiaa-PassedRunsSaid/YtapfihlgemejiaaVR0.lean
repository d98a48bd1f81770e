/- reduce: a reader's cell, the way through a third one. | reduce.Classes, plain: heads and classes of a zone's clocks. -/
import Derived.Test.YtapfihlgemejiaaVD0
import Derived.Test.YtapfihlgemejiaaVO0
import Derived.Test.YtapfihlgemejiaaVD5
import Derived.Test.YtapfihlgemejiaaWTab
namespace Go.Proofs.Ytapfihlgemejiaa
open Go.RowKit Go.Proofs.YtapfihlgemejiaaW.PrintLast
theorem gives_ {P : Program} {ops : Array Oper} {Q : Exit → Act → World → Prop} {oi : Oper} {N : Tmp} {a : Act} {w w1 : World} {v : Value} {K : Act → World → Prop} (hw : Region.wanted oi (yielded ops a.tmps) = true) (hN : oi.dst = some N)
    (hrun : (execOp a.eval oi).run P w = .ok (.value v) w1) (h : K (a.put (some N) v) w1) : if Region.wanted oi (yielded ops a.tmps) = true then Oper.wp P oi a w K Q else K (a.put (some N) undef) w := by
  rw [if_pos hw]
  unfold Oper.wp
  rw [hrun]
  show K (a.put oi.dst v) w1
  rw [hN]
  exact h
end Go.Proofs.Ytapfihlgemejiaa
namespace Go.Proofs.Ytapfihlgemejiaa
open Go.RowKit
end Go.Proofs.Ytapfihlgemejiaa
namespace Go.Proofs.Ytapfihlgemejiaa
def cellN (Z : List Int) (i j : Nat) : Int := gt Z (9 * i + j)
end Go.Proofs.Ytapfihlgemejiaa
