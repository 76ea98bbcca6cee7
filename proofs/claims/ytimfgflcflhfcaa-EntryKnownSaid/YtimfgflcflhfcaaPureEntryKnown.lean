/- EntryKnown, the plain law: the chapter's examples, reckoned out. No condition. -/
import Derived.Test.YtimfgflcflhfcaaPx10
import Derived.OpenShut
namespace Go.Proofs.Ytimfgflcflhfcaa.Pure
set_option linter.unusedVariables false
set_option linter.unusedSimpArgs false
open Go.RowKit Go.Proofs.Ytimfgflcflhfcaa.P Go.Proofs.YtimfgflcflhfcaaW.PrintWords Go.Proofs.YtimfgflcflhfcaaW.PrintLast Go.Proofs.Ytimfgflcflhfcaa.Num
theorem EntryKnown : wapentakelaw04_EntryKnown.Pure := by
  refine ⟨120, ?_⟩
  decide +kernel
end Go.Proofs.Ytimfgflcflhfcaa.Pure
