/- The names that wip/common calls Str, in this seat: they stand in Fields and Rd; and one law more. -/
import Derived.Test.YtknpppppjmhomaaDoorRd
set_option linter.unusedVariables false
set_option linter.unusedSimpArgs false
namespace Go.Proofs.YtknpppppjmhomaaDoor.Fl
open Go.RowKit Lb
theorem Own.other' {w : World} {B : Nat} {v u : Value} {l : List ByteArray} (h : Own w B v l) {p : Addr} (hp : v.ownBlock ≠ some p.block) : Own (w.setCell p u) B v l :=
  ownsRow_setCell_other h hp u
end Go.Proofs.YtknpppppjmhomaaDoor.Fl
