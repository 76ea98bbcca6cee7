/- BucketKnown, the plain law: the chapter's examples, reckoned out. No condition. -/
import Derived.Test.YtfpeacjodgdndaaSpecBucketMore
import Derived.Test.YtfpeacjodgdndaaPx11
import Derived.OpenShut
namespace Go.Proofs.Ytfpeacjodgdndaa.Pure
set_option linter.unusedVariables false
set_option linter.unusedSimpArgs false
open Go.RowKit Go.Proofs.Ytfpeacjodgdndaa.P Go.Proofs.YtfpeacjodgdndaaW.PrintWords Go.Proofs.YtfpeacjodgdndaaW.PrintLast Go.Proofs.Ytfpeacjodgdndaa.Num
theorem BucketKnown : wapentakelaw17_BucketKnown.Pure := by
  refine ⟨100, ?_⟩
  decide +kernel
end Go.Proofs.Ytfpeacjodgdndaa.Pure
