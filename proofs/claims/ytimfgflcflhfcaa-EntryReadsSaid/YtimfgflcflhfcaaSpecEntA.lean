/- What is asked awake of entry. -/
import Derived.Test.YtimfgflcflhfcaaSpecEntR
import Derived.Test.YtimfgflcflhfcaaPx10
namespace Go.Proofs.Ytimfgflcflhfcaa.P
set_option linter.unusedVariables false
set_option linter.unusedSimpArgs false
open Go.RowKit Go.Proofs.YtimfgflcflhfcaaW.PrintWords Go.Proofs.YtimfgflcflhfcaaW.PrintLast Go.Proofs.YtimfgflcflhfcaaW.PrintMore Go.Proofs.Ytimfgflcflhfcaa.Num
theorem awake04 (k : Nat) (hk : 120 ≤ k) : wapentakelaw04_awake.f k = some true :=
  at_rounds wapentakelaw04_awake.mono hk (by decide +kernel : wapentakelaw04_awake.f 120 = some true)
end Go.Proofs.Ytimfgflcflhfcaa.P
