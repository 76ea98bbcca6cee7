/- BucketReads, the plain law: the bucket that any text begins with, or that there is none, is the document's. No condition. -/
import Derived.Test.YtfpeacjodgdndaaSpecBucket
import Derived.Test.YtfpeacjodgdndaaPx9
namespace Go.Proofs.Ytfpeacjodgdndaa.Pure
set_option linter.unusedVariables false
set_option linter.unusedSimpArgs false
open Go.RowKit Go.Proofs.Ytfpeacjodgdndaa.P Go.Proofs.YtfpeacjodgdndaaW.PrintWords Go.Proofs.YtfpeacjodgdndaaW.PrintLast Go.Proofs.Ytfpeacjodgdndaa.Num
theorem reads_j0 (s : List UInt8) (k : Nat) (hs : s.length ≤ 300) (hk : 1000 ≤ k) : wapentakelaw17_BucketReads.j0 k (mkB s) = some true := by
  obtain ⟨k, rfl⟩ : ∃ m, k = m + 1 := ⟨k - 1, by omega⟩
  simp only [wapentakelaw17_BucketReads.j0]
  rw [readB_spec s k (by omega) (by omega), refReadB_spec s k (by omega) (by omega)]
  simp [wapentakelaw17_given.f, wapentakelaw17_awake.f]
theorem BucketReads : wapentakelaw17_BucketReads.Pure := by
  intro a ha
  obtain ⟨s, rfl⟩ := mkB_eta a
  refine ⟨1000, ?_⟩
  unfold wapentakelaw17_BucketReads.f
  rw [mkB_size]
  by_cases h : (s.length : Int) > 300
  · rw [if_pos h, if_pos (by decide), if_pos (by omega), mkB_extract]
    exact reads_j0 _ _ (by rw [List.length_take]; omega) (by omega)
  · rw [if_neg h]
    exact reads_j0 _ _ (by omega) (by omega)
end Go.Proofs.Ytfpeacjodgdndaa.Pure
