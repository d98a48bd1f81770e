/- reduce.Classes: the maps of heads and classes, a step. | reduce.Few, plain: the round of a class, what is needed, the few bounds. | reduce.round: the rank of a clock. -/
import Derived.Test.YtapfihlgemejiaaVR0
import Derived.Test.YtapfihlgemejiaaVM4
import Derived.Test.YtapfihlgemejiaaVM3
import Derived.Test.YtapfihlgemejiaaVO0
import Derived.Deep.RegionLaw
import Derived.Deep.CutBlock
namespace Go.Proofs.Ytapfihlgemejiaa
open Go.RowKit Go.Proofs.YtapfihlgemejiaaW.PrintLast
theorem own_fr {S : Nat → Prop} {w w' : World} {base e size n : Nat} {v : Value} {xs : List Value} (h : w.ownsRow base e size v n xs) (hf : Fr S w w') (hs : ∀ g, v.ownBlock = some g → ¬ S g) : w'.ownsRow base e size v n xs :=
  own_keep h fun g hg => by
    obtain ⟨_, cur, h2⟩ := own_row h hg
    exact hf.block g (Array.getElem?_eq_some_iff.1 h2).1 (hs g hg)
end Go.Proofs.Ytapfihlgemejiaa
namespace Go.Proofs.Ytapfihlgemejiaa
end Go.Proofs.Ytapfihlgemejiaa
namespace Go.Proofs.Ytapfihlgemejiaa
open Go.RowKit
end Go.Proofs.Ytapfihlgemejiaa
