/- EntryReads, the plain law: the entry of any bytes, or that there is none, is the reference's. The bound is the statement's own (the first 4000 bytes). -/
import Derived.Test.YtimfgflcflhfcaaSpecRefR4
import Derived.Test.YtimfgflcflhfcaaSpecEntA
import Derived.Test.YtimfgflcflhfcaaPx19
import Derived.OpenShut
namespace Go.Proofs.Ytimfgflcflhfcaa.Pure
set_option linter.unusedVariables false
set_option linter.unusedSimpArgs false
open Go.RowKit Go.Proofs.Ytimfgflcflhfcaa.P Go.Proofs.YtimfgflcflhfcaaW.PrintWords Go.Proofs.YtimfgflcflhfcaaW.PrintLast Go.Proofs.Ytimfgflcflhfcaa.Num
theorem EntryReads : wapentakelaw04_EntryReads.Pure := by
  intro a0 h
  obtain ⟨s, rfl⟩ := mkB_eta a0
  refine ⟨20000, ?_⟩
  unfold wapentakelaw04_EntryReads.f
  have key : ∀ t : List UInt8, t.length ≤ 4000 → ((entry_Read.f 20000 (mkB t)) = some (encE (readE t))) ∧ ((wapentakeref04_Read.f 20000 (mkB t)) = some (encE (readE t))) := fun t ht =>
    ⟨entRead_spec t 20000 (by omega) (by omega), refRead_spec t 20000 (by omega) (by omega)⟩
  rw [awake04 20000 (by omega)]
  have hx : (mkB s).extract 0 4000 = mkB (s.take 4000) := by rw [mkB_extract, List.drop_zero]
  rw [hx, mkB_size]
  by_cases hb : (s.length : Int) > 4000
  · obtain ⟨k1, k2⟩ := key (s.take 4000) (by rw [List.length_take]; omega)
    rw [if_pos hb, if_pos (by decide), if_pos (by omega), k1, k2]
    simp only [Option.bind_some, beq_self_eq_true, Bool.and_self, if_true]
  · obtain ⟨k1, k2⟩ := key s (by omega)
    rw [if_neg hb, k1, k2]
    simp only [Option.bind_some, beq_self_eq_true, Bool.and_self, if_true]
end Go.Proofs.Ytimfgflcflhfcaa.Pure
