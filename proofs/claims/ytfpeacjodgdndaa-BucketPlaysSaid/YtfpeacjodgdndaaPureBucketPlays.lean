/- BucketPlays, the plain law: whatever ticks and takes come, the program's bucket and the document's go alike. No condition. -/
import Derived.Test.YtfpeacjodgdndaaSpecBucketMore
import Derived.Test.YtfpeacjodgdndaaPx6
import Derived.OpenShut
namespace Go.Proofs.Ytfpeacjodgdndaa.Pure
set_option linter.unusedVariables false
set_option linter.unusedSimpArgs false
open Go.RowKit Go.Proofs.Ytfpeacjodgdndaa.P Go.Proofs.YtfpeacjodgdndaaW.PrintWords Go.Proofs.YtfpeacjodgdndaaW.PrintLast Go.Proofs.Ytfpeacjodgdndaa.Num
theorem plays_step (t : List Bool) (ht : t.length ≤ 3000) : ∀ (d i : Nat), i + d = t.length → ∀ (k : Nat) (l r b l' r' b' : Int), 2 * d + 30 ≤ k →
    wapentakelaw17_BucketPlays.l0 k t (i : Int) l r b l' r' b' l r b l' r' b' = some true := by
  intro d
  induction d with
  | zero =>
    intro i hi k l r b l' r' b' hk
    obtain ⟨k, rfl⟩ : ∃ m, k = m + 1 := ⟨k - 1, by omega⟩
    unfold wapentakelaw17_BucketPlays.l0
    rw [if_neg (by omega), write_spec, refWrite_spec k _ _ _ (by omega), write_spec, refWrite_spec k _ _ _ (by omega)]
    simp [wapentakelaw17_awake.f]
  | succ d ih =>
    intro i hi k l r b l' r' b' hk
    obtain ⟨k, rfl⟩ : ∃ m, k = m + 2 := ⟨k - 2, by omega⟩
    unfold wapentakelaw17_BucketPlays.l0
    rw [if_pos (by omega), if_pos (by omega)]
    have hj : ∀ (l r b l' r' b' : Int) (x y : Bool), wapentakelaw17_BucketPlays.j2 (k + 1) t (i : Int) x y x y l r b l' r' b' l r b l' r' b' = some true := by
      intro l r b l' r' b' x y
      unfold wapentakelaw17_BucketPlays.j2
      rw [if_neg (by simp), if_neg (by simp)]
      simp only [wapentakelaw17_given.f, Option.bind_some]
      rw [if_neg (by simp), if_neg (by simp), wrap64_id (show -9223372036854775808 ≤ (i : Int) + 1 by omega) (by omega), show (i : Int) + 1 = ((i + 1 : Nat) : Int) from by omega]
      exact ih (i + 1) (by omega) k l r b l' r' b' (by omega)
    by_cases hb : rdOf false t (i : Int) = true
    · rw [if_pos hb, tick_spec, tick_spec, refTick_spec, refTick_spec]
      simp only [Option.bind_some]
      exact hj _ _ _ _ _ _ _ _
    · rw [if_neg hb, take_spec, take_spec, refTake_spec, refTake_spec]
      simp only [Option.bind_some]
      by_cases h1 : rightB l r b = true ∧ 0 < l
      · by_cases h2 : rightB l' r' b' = true ∧ 0 < l'
        · rw [if_pos h1, if_pos h1, if_pos h2, if_pos h2]; exact hj _ _ _ _ _ _ _ _
        · rw [if_pos h1, if_pos h1, if_neg h2, if_neg h2]; exact hj _ _ _ _ _ _ _ _
      · by_cases h2 : rightB l' r' b' = true ∧ 0 < l'
        · rw [if_neg h1, if_neg h1, if_pos h2, if_pos h2]; exact hj _ _ _ _ _ _ _ _
        · rw [if_neg h1, if_neg h1, if_neg h2, if_neg h2]; exact hj _ _ _ _ _ _ _ _
theorem BucketPlays : wapentakelaw17_BucketPlays.Pure := by
  intro a0 a1 a2 t _ _ _ _
  refine ⟨2 * t.length + 30 + 1, ?_⟩
  unfold wapentakelaw17_BucketPlays.f
  by_cases ht : (t.length : Int) > 3000
  · rw [if_pos ht]; rfl
  · rw [if_neg ht, refNew_spec, new_spec]
    generalize (if a2 < 0 then (0 : Int) else if a2 > 2147483647 then 2147483647 else a2) = x
    generalize (if a1 < 0 then (0 : Int) else if a1 > 2147483647 then 2147483647 else a1) = y
    simp only [wapentakelaw17_given.f, Option.bind_some, right_spec, refRight_spec]
    rw [if_neg (by simp only [beq_self_eq_true, Bool.not_true, Bool.or_self]; decide)]
    simp only [wapentakelaw17_BucketPlays.j0]
    rw [if_neg (by simp)]
    exact plays_step t (by omega) t.length 0 (by omega) _ _ _ _ _ _ _ (by omega)
end Go.Proofs.Ytfpeacjodgdndaa.Pure
