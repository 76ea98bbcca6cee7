/- EntryMembers, the plain law: which nodes are members, and how many are more than half, of each of the 256 bytes. No condition. -/
import Derived.Test.YtimfgflcflhfcaaPx21
import Derived.OpenShut
namespace Go.Proofs.Ytimfgflcflhfcaa.Pure
set_option linter.unusedVariables false
set_option linter.unusedSimpArgs false
open Go.RowKit Go.Proofs.Ytimfgflcflhfcaa.P Go.Proofs.YtimfgflcflhfcaaW.PrintWords Go.Proofs.YtimfgflcflhfcaaW.PrintLast Go.Proofs.Ytimfgflcflhfcaa.Num
theorem members_all : ∀ n : Fin 256, wapentakelaw04_EntryMembers.f 150 (n.val : Int) = some true := by decide +kernel
theorem EntryMembers : wapentakelaw04_EntryMembers.Pure := by
  intro a0 h
  have hw := h
  simp [Lit.wf, IntKind.min, IntKind.max, IntKind.signed, IntKind.bits] at hw
  obtain ⟨n, rfl⟩ : ∃ n : Nat, a0 = n := ⟨a0.toNat, by omega⟩
  exact ⟨150, members_all ⟨n, by omega⟩⟩
end Go.Proofs.Ytimfgflcflhfcaa.Pure
