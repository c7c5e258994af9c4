/-
  Walks of ratio: sums and differences of wide magnitudes. Conditions stand in each theorem.
-/
import Derived.Test.YtfgdichdddknlaaDoorWd0
import Derived.Test.YtfgdichdddknlaaDoorLm3
namespace Go.Proofs.YtfgdichdddknlaaDoor
open Go.RowKit Go.BigFrame

end Go.Proofs.YtfgdichdddknlaaDoor
