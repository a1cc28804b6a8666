/- The law FnExactAnswerOf: the walk. -/
import Derived.Test.YthdmfmhhnacgfaaAns3
namespace Go.Proofs.Ythdmfmhhnacgfaa
open Go.RowKit Ieee
open Go.Proofs.YthdmfmhhnacgfaaW.PrintWords
set_option maxRecDepth 100000

end Go.Proofs.Ythdmfmhhnacgfaa
