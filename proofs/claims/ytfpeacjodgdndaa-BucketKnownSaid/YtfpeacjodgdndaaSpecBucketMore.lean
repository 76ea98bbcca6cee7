/- Ticks, takes and new buckets, of the program and of its reference. -/
import Derived.Test.YtfpeacjodgdndaaSpecBucket
import Derived.Test.YtfpeacjodgdndaaPx3
import Derived.Test.YtfpeacjodgdndaaPx3
import Derived.Test.YtfpeacjodgdndaaPx3
import Derived.Test.YtfpeacjodgdndaaPx4
import Derived.Test.YtfpeacjodgdndaaPx4
import Derived.Test.YtfpeacjodgdndaaPx4
namespace Go.Proofs.Ytfpeacjodgdndaa.P
set_option linter.unusedVariables false
set_option linter.unusedSimpArgs false
open Go.RowKit Go.Proofs.YtfpeacjodgdndaaW.PrintWords Go.Proofs.YtfpeacjodgdndaaW.PrintLast Go.Proofs.YtfpeacjodgdndaaW.PrintMore Go.Proofs.Ytfpeacjodgdndaa.Num
theorem tick_spec (l r b : Int) : bucket_Bucket_Tick.f l r b = some (if rightB l r b = true then (if b < l + r then b else l + r, r, b) else (l, r, b)) := by
  unfold bucket_Bucket_Tick.f
  rw [right_spec]
  simp only [Option.bind_some]
  by_cases h : rightB l r b = true
  · rw [if_pos h, if_pos h]
    have h' := of_decide_eq_true h
    rw [wrap64_id (show -9223372036854775808 ≤ l + r by omega) (by omega)]; rfl
  · rw [if_neg h, if_neg h]
theorem refTick_spec (l r b : Int) : wapentakeref17_Tick.f l r b = some (if rightB l r b = true then (if b < l + r then b else l + r, r, b) else (l, r, b)) := by
  unfold wapentakeref17_Tick.f
  rw [refRight_spec]
  simp only [Option.bind_some]
  by_cases h : rightB l r b = true
  · rw [if_pos h, if_pos h]
    have h' := of_decide_eq_true h
    rw [wrap64_id (show -9223372036854775808 ≤ l + r by omega) (by omega), wrap64_id (show -9223372036854775808 ≤ b - l by omega) (by omega)]
    by_cases h2 : b < l + r
    · rw [if_pos (by omega), if_pos h2]
    · rw [if_neg (by omega), if_neg h2]
  · rw [if_neg h, if_neg h]
theorem take_spec (l r b : Int) : bucket_Bucket_Take.f l r b = some (if rightB l r b = true ∧ 0 < l then (true, l - 1, r, b) else (false, l, r, b)) := by
  unfold bucket_Bucket_Take.f
  rw [right_spec]
  simp only [Option.bind_some]
  by_cases h : rightB l r b = true
  · rw [if_pos h]
    have h' := of_decide_eq_true h
    by_cases h0 : l = 0
    · rw [if_pos h0, if_neg (by omega)]
    · rw [if_neg h0, if_pos ⟨h, by omega⟩, wrap64_id (show -9223372036854775808 ≤ l - 1 by omega) (by omega)]
  · rw [if_neg h, if_neg (fun h2 => h h2.1)]
theorem refTake_spec (l r b : Int) : wapentakeref17_Take.f l r b = some (if rightB l r b = true ∧ 0 < l then (l - 1, r, b, true) else (l, r, b, false)) := by
  unfold wapentakeref17_Take.f
  rw [refRight_spec]
  simp only [Option.bind_some]
  by_cases h : rightB l r b = true
  · rw [if_pos h]
    have h' := of_decide_eq_true h
    by_cases h0 : l < 1
    · rw [if_pos h0, if_neg (by omega)]
    · rw [if_neg h0, if_pos ⟨h, by omega⟩, wrap64_id (show -9223372036854775808 ≤ l - 1 by omega) (by omega)]
  · rw [if_neg h, if_neg (fun h2 => h h2.1)]
theorem heldAs (n : Int) : mn (mx n 0) 2147483647 = if n < 0 then 0 else if n > 2147483647 then 2147483647 else n := by
  unfold mn mx
  split <;> split <;> (try split) <;> omega
theorem new_spec (a b : Int) : bucket_New.f a b = some (if b < 0 then 0 else if b > 2147483647 then 2147483647 else b, if a < 0 then 0 else if a > 2147483647 then 2147483647 else a, if b < 0 then 0 else if b > 2147483647 then 2147483647 else b) := by
  unfold bucket_New.f
  rw [heldAs, heldAs]
theorem refNew_spec (a b : Int) : wapentakeref17_New.f a b = bucket_New.f a b := by
  rw [new_spec]
  unfold wapentakeref17_New.f
  rw [held_spec, held_spec]
  rfl
end Go.Proofs.Ytfpeacjodgdndaa.P
