/- The reference's Fields, under the name that wip/common has for it. -/
import Derived.Test.YtknpppppjmhomaaDoorFields
set_option linter.unusedVariables false
set_option linter.unusedSimpArgs false
namespace Go.Proofs.YtknpppppjmhomaaDoor.Rf
open Go.RowKit Lb Fl
theorem rFieldsR (s : ByteArray) (w : World) (hs : s.size ≤ 2147483647) : Calls Tryd.prog 19 #[.string s] w (RetS w (fieldsS s)) := Fl.rFieldsR s w hs
end Go.Proofs.YtknpppppjmhomaaDoor.Rf
