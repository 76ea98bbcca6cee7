/- BucketGives, the plain law. No condition. -/
import Derived.Test.YtfpeacjodgdndaaSpecBucketMore
import Derived.Test.YtfpeacjodgdndaaPx8
import Derived.OpenShut
namespace Go.Proofs.Ytfpeacjodgdndaa.Pure
set_option linter.unusedVariables false
set_option linter.unusedSimpArgs false
open Go.RowKit Go.Proofs.Ytfpeacjodgdndaa.P Go.Proofs.YtfpeacjodgdndaaW.PrintWords Go.Proofs.YtfpeacjodgdndaaW.PrintLast Go.Proofs.Ytfpeacjodgdndaa.Num
theorem gives_end (R B : Int) (hR : 0 ≤ R) (hR2 : R ≤ 255) (hB : 0 ≤ B) (hB2 : B ≤ 255) :
    ∀ (d : Nat) (j L : Int), j + d = B → 0 ≤ j → 0 ≤ L → L ≤ B → (R = 0 ∨ j ≤ L) → wapentakelaw17_BucketGives.l1 (d + 1) R B j L R B = some true := by
  have wR : wrap64 R = R := wrap64_id (by omega) (by omega)
  have wB : wrap64 B = B := wrap64_id (by omega) (by omega)
  intro d
  induction d with
  | zero =>
    intro j L hj h0 h1 h2 h3
    unfold wapentakelaw17_BucketGives.l1
    rw [wR, wB, if_neg (by omega)]
    by_cases hz : R = 0
    · rw [if_pos hz]; rfl
    · rw [if_neg hz, new_spec, if_neg (by omega), if_neg (by omega), if_neg (by omega), if_neg (by omega)]
      simp only [Option.bind_some]
      rw [if_pos (by simp; omega)]; rfl
  | succ d ih =>
    intro j L hj h0 h1 h2 h3
    unfold wapentakelaw17_BucketGives.l1
    have hr : rightB L R B = true := decide_eq_true (by omega)
    rw [wB, if_pos (by omega), tick_spec, hr]
    simp only [if_true, Option.bind_some]
    rw [wrap64_id (show -9223372036854775808 ≤ j + 1 by omega) (by omega)]
    refine ih (j + 1) _ (by omega) (by omega) ?_ ?_ ?_
    · split <;> omega
    · split <;> omega
    · split <;> omega
theorem gives_step (R B : Int) (hR : 0 ≤ R) (hR2 : R ≤ 255) (hB : 0 ≤ B) (hB2 : B ≤ 255) (t : List Bool) (ht : t.length ≤ 400) :
    ∀ (d i : Nat) (L : Int), i + d = t.length → 0 ≤ L → L ≤ B → wapentakelaw17_BucketGives.l0 (B.toNat + 1 + d + 1) R B t (i : Int) L R B = some true := by
  have wR : wrap64 R = R := wrap64_id (by omega) (by omega)
  have wB : wrap64 B = B := wrap64_id (by omega) (by omega)
  intro d
  induction d with
  | zero =>
    intro i L hi h1 h2
    unfold wapentakelaw17_BucketGives.l0
    rw [if_neg (by omega)]
    exact gives_end R B hR hR2 hB hB2 B.toNat 0 L (by omega) (by omega) h1 h2 (by omega)
  | succ d ih =>
    intro i L hi h1 h2
    have hr : rightB L R B = true := decide_eq_true (by omega)
    have wi : wrap64 ((i : Int) + 1) = ((i + 1 : Nat) : Int) := by rw [wrap64_id (by omega) (by omega)]; omega
    rw [show B.toNat + 1 + (d + 1) + 1 = (B.toNat + 1 + d + 1) + 1 from by omega]
    unfold wapentakelaw17_BucketGives.l0
    rw [if_pos (by omega), if_pos (by omega), tick_spec, take_spec, hr]
    by_cases hb : rdOf false t (i : Int) = true
    · rw [if_pos hb]
      simp only [if_true, Option.bind_some]
      rw [wR, wB, wi, wrap64_id (show -9223372036854775808 ≤ L + R by omega) (by omega), if_neg (by split <;> omega)]
      by_cases h : B < L + R
      · rw [if_pos h]
        have := ih (i + 1) B (by omega) hB (by omega)
        by_cases h' : B = L + R
        · omega
        · rw [if_neg h', if_pos rfl]; exact this
      · rw [if_neg h, if_pos rfl]
        exact ih (i + 1) (L + R) (by omega) (by omega) (by omega)
    · rw [if_neg hb]
      simp only [Option.bind_some, true_and]
      rw [wi, wrap64_id (show -9223372036854775808 ≤ L - 1 by omega) (by omega)]
      by_cases h : 0 < L
      · rw [if_pos h]
        simp only
        rw [if_neg (by simp; omega), if_pos (by unfold mx; split <;> omega)]
        exact ih (i + 1) (L - 1) (by omega) (by omega) (by omega)
      · rw [if_neg h]
        simp only
        rw [if_neg (by simp; omega), if_pos (by unfold mx; split <;> omega)]
        exact ih (i + 1) L (by omega) (by omega) (by omega)
theorem BucketGives : wapentakelaw17_BucketGives.Pure := by
  intro R B t hR hB _
  have n8 : IntKind.u8.min = 0 := by decide
  have x8 : IntKind.u8.max = 255 := by decide
  have hR' : 0 ≤ R ∧ R ≤ 255 := by simp [Lit.wf, n8, x8] at hR; omega
  have hB' : 0 ≤ B ∧ B ≤ 255 := by simp [Lit.wf, n8, x8] at hB; omega
  refine ⟨B.toNat + 1 + t.length + 1, ?_⟩
  unfold wapentakelaw17_BucketGives.f
  by_cases ht : (t.length : Int) > 400
  · rw [if_pos ht]; rfl
  · rw [if_neg ht, new_spec, wrap64_id (show -9223372036854775808 ≤ R by omega) (by omega), wrap64_id (show -9223372036854775808 ≤ B by omega) (by omega), if_neg (by omega), if_neg (by omega), if_neg (by omega), if_neg (by omega)]
    simp only [Option.bind_some]
    exact gives_step R B hR'.1 hR'.2 hB'.1 hB'.2 t (by omega) t.length 0 B (by omega) hB'.1 (by omega)
end Go.Proofs.Ytfpeacjodgdndaa.Pure
