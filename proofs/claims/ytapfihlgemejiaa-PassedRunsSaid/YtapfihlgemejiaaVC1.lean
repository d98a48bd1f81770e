/- reduce.Pack. | slices.Equal of bytes. -/
import Derived.Test.YtapfihlgemejiaaVR3
import Derived.Test.YtapfihlgemejiaaVR0
import Derived.Test.YtapfihlgemejiaaVO0
import Derived.Test.YtapfihlgemejiaaVM4
import Derived.Test.YtapfihlgemejiaaVM3
import Derived.Test.YtapfihlgemejiaaVD3
import Derived.Test.YtapfihlgemejiaaVF1
import Derived.Test.YtapfihlgemejiaaVP4
import Derived.Test.YtapfihlgemejiaaVB0
import Derived.Laws.EntriesVeiled
import Derived.Deep.RegionLaw
import Derived.Deep.CutBlock
import Derived.Test.YtapfihlgemejiaaRows
import Derived.Deep.Slices
import Derived.ChangeSame
import Derived.SizedLaws
namespace Go.Proofs.Ytapfihlgemejiaa
open Go.RowKit
/-- A zone that the program made: empty, or closed. -/
def ZGood (z : Zn) : Prop := z.n ≤ 8 ∧ (z.Z = zeros ∨ ZCl z.n z.Z)
theorem ZFrom.good {n : Nat} {L Z : List Int} (hn : n ≤ 8) (h : ZFrom n L Z) : ZGood ⟨n, Z⟩ := by
  rcases h with ⟨_, h⟩ | ⟨h, _⟩
  · exact ⟨hn, .inl h⟩
  · exact ⟨hn, .inr h⟩
end Go.Proofs.Ytapfihlgemejiaa
namespace Go.Proofs.Ytapfihlgemejiaa
open Go.RowKit
theorem infoOf5 : (Try.prog.info? 5).map (fun i => (i.zero, i.size, i.bytes)) = some (some (.int .u8 0), 1, 1) := by kernel_rfl
end Go.Proofs.Ytapfihlgemejiaa
namespace Go.Proofs.Ytapfihlgemejiaa
open Go.RowKit
end Go.Proofs.Ytapfihlgemejiaa
