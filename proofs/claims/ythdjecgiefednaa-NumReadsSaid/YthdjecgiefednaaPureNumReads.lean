/- NumReads, the plain law: what is read of a text's beginning is the document's. No condition. -/
import Derived.Test.YthdjecgiefednaaSpecAwake01
import Derived.Test.YthdjecgiefednaaPx10
import Derived.OpenShut
namespace Go.Proofs.Ythdjecgiefednaa.Pure
set_option linter.unusedVariables false
set_option linter.unusedSimpArgs false
open Go.RowKit Go.Proofs.Ythdjecgiefednaa.P Go.Proofs.YthdjecgiefednaaW.PrintWords Go.Proofs.YthdjecgiefednaaW.PrintLast Go.Proofs.Ythdjecgiefednaa.Num
theorem reads_j2 (s : List UInt8) (k : Nat) (hs : s.length ≤ 20000) (hk : 70000 ≤ k) : wapentakelaw01_NumReads.j2 k (mkB s) false = some true := by
  obtain ⟨k, rfl⟩ : ∃ m, k = m + 1 := ⟨k - 1, by omega⟩
  simp only [wapentakelaw01_NumReads.j2]
  rw [if_neg (by decide), readS_spec s k (by omega) (by omega), refReadS_spec s k (by omega) (by omega), awake_spec k (by omega)]
  simp
theorem reads_j1 (s : List UInt8) (k : Nat) (hs : s.length ≤ 20000) (hk : 70001 ≤ k) : wapentakelaw01_NumReads.j1 k (mkB s) false = some true := by
  obtain ⟨k, rfl⟩ : ∃ m, k = m + 1 := ⟨k - 1, by omega⟩
  simp only [wapentakelaw01_NumReads.j1]
  rw [if_neg (by decide), readV_spec s k (by omega), refReadV_spec s k (by omega) (by omega)]
  simp [reads_j2 s k hs (by omega)]
theorem reads_j0 (s : List UInt8) (w : Int) (k : Nat) (hs : s.length ≤ 20000) (hk : 70002 ≤ k) : wapentakelaw01_NumReads.j0 k (mkB s) w = some true := by
  obtain ⟨k, rfl⟩ : ∃ m, k = m + 1 := ⟨k - 1, by omega⟩
  simp only [wapentakelaw01_NumReads.j0]
  rw [ReadU_spec s k w (by omega), refReadU_spec s k w (by omega)]
  simp [reads_j1 s k hs (by omega)]
theorem NumReads : wapentakelaw01_NumReads.Pure := by
  intro a w ha hw
  obtain ⟨s, rfl⟩ := mkB_eta a
  refine ⟨70002, ?_⟩
  unfold wapentakelaw01_NumReads.f
  rw [mkB_size]
  by_cases h : (s.length : Int) > 20000
  · rw [if_pos h, if_pos (by decide), if_pos (by omega), mkB_extract]
    exact reads_j0 _ w _ (by rw [List.length_take]; omega) (by omega)
  · rw [if_neg h]
    exact reads_j0 _ w _ (by omega) (by omega)
end Go.Proofs.Ythdjecgiefednaa.Pure
