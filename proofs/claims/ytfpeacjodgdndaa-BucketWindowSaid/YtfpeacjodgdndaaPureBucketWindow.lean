/- BucketWindow, the plain law: a window's takes are at most what was there and what its ticks gave. No condition. -/
import Derived.Test.YtfpeacjodgdndaaSpecBucketMore
import Derived.Test.YtfpeacjodgdndaaPx7
import Derived.OpenShut
namespace Go.Proofs.Ytfpeacjodgdndaa.Pure
set_option linter.unusedVariables false
set_option linter.unusedSimpArgs false
open Go.RowKit Go.Proofs.Ytfpeacjodgdndaa.P Go.Proofs.YtfpeacjodgdndaaW.PrintWords Go.Proofs.YtfpeacjodgdndaaW.PrintLast Go.Proofs.Ytfpeacjodgdndaa.Num
/-- what is taken, of a level, a rate, a burst -/
def run (R B : Int) : Int → List Bool → List Bool
  | _, [] => []
  | L, true :: t => false :: run R B (if B < L + R then B else L + R) t
  | L, false :: t => decide (0 < L) :: run R B (if 0 < L then L - 1 else L) t
theorem run_length (R B : Int) : ∀ (t : List Bool) (L : Int), (run R B L t).length = t.length
  | [], _ => rfl
  | true :: t, L => by simp [run, run_length R B t]
  | false :: t, L => by simp [run, run_length R B t]
theorem run_drop (R B : Int) (hR : 0 ≤ R) : ∀ (t : List Bool) (L : Int) (i : Nat), 0 ≤ L → L ≤ B → ∃ L', 0 ≤ L' ∧ L' ≤ B ∧ (run R B L t).drop i = run R B L' (t.drop i)
  | t, L, 0, h1, h2 => ⟨L, h1, h2, rfl⟩
  | [], L, i + 1, h1, h2 => ⟨L, h1, h2, rfl⟩
  | true :: t, L, i + 1, h1, h2 => by
    obtain ⟨L', a, b, c⟩ := run_drop R B hR t (if B < L + R then B else L + R) i (by split <;> omega) (by split <;> omega)
    exact ⟨L', a, b, by simpa [run] using c⟩
  | false :: t, L, i + 1, h1, h2 => by
    obtain ⟨L', a, b, c⟩ := run_drop R B hR t (if 0 < L then L - 1 else L) i (by split <;> omega) (by split <;> omega)
    exact ⟨L', a, b, by simpa [run] using c⟩
theorem wrap_succ (n : Nat) (h : n ≤ 1000000) : wrap64 ((n : Int) + 1) = ((n + 1 : Nat) : Int) := by rw [wrap64_id (by omega) (by omega)]; omega
theorem window_in (R B : Int) (hR : 0 ≤ R) (hR2 : R ≤ 65535) (hB : 0 ≤ B) (hB2 : B ≤ 65535) (t x8 : List Bool) (ht : t.length ≤ 400) (hx : x8.length = t.length) (i k : Nat) (hk : wapentakelaw17_BucketWindow.l1 k R B t x8 (wrap64 ((i : Int) + 1)) = some true) :
    ∀ (d j : Nat) (L : Int) (n w : Nat), j + d = t.length → 0 ≤ L → L ≤ B → x8.drop j = run R B L (t.drop j) → (n : Int) + L ≤ B + (w : Int) * R → n ≤ j → w ≤ j →
    wapentakelaw17_BucketWindow.l2 (k + 2 * d + 1) R B t x8 (i : Int) (n : Int) (w : Int) (j : Int) = some true := by
  intro d
  induction d with
  | zero =>
    intro j L n w hj h1 h2 h3 h4 h5 h6
    unfold wapentakelaw17_BucketWindow.l2
    rw [if_neg (by omega)]
    exact hk
  | succ d ih =>
    intro j L n w hj h1 h2 h3 h4 h5 h6
    rw [show k + 2 * (d + 1) + 1 = (k + 2 * d + 1) + 1 + 1 from by omega]
    have hjt : j < t.length := by omega
    have hjx : j < x8.length := by omega
    unfold wapentakelaw17_BucketWindow.l2
    rw [if_pos (by omega), if_pos (by omega)]
    rw [List.drop_eq_getElem_cons hjt, List.drop_eq_getElem_cons hjx] at h3
    have r1 : rdOf false t (j : Int) = t[j] := by simp [rdOf, List.getD_eq_getElem?_getD, List.getElem?_eq_getElem hjt]
    have r2 : rdOf false x8 (j : Int) = x8[j] := by simp [rdOf, List.getD_eq_getElem?_getD, List.getElem?_eq_getElem hjx]
    have wj := Aside0.mk (wrap_succ j (by omega))
    have wn := Aside0.mk (wrap_succ n (by omega))
    have ww := Aside0.mk (wrap_succ w (by omega))
    have m1 : (w : Int) * R ≤ 26214000 := by have := Int.mul_le_mul (show (w : Int) ≤ 400 by omega) hR2 hR (by omega); omega
    have m2 : 0 ≤ (w : Int) * R := Int.mul_nonneg (by omega) hR
    have m3 : ((w + 1 : Nat) : Int) * R = (w : Int) * R + R := by rw [show ((w + 1 : Nat) : Int) = (w : Int) + 1 from by omega, Int.add_mul, Int.one_mul]
    have wR : wrap64 R = R := wrap64_id (by omega) (by omega)
    have wB : wrap64 B = B := wrap64_id (by omega) (by omega)
    rw [r1]
    cases hb : t[j] with
    | true =>
      rw [hb] at h3
      simp only [run] at h3
      injection h3 with e1 e2
      rw [if_pos rfl]
      unfold wapentakelaw17_BucketWindow.j3
      rw [if_pos (by omega), if_pos (by omega), r2, e1, if_neg (by decide), ww.out, wR, wB, m3, wrap64_id (show -9223372036854775808 ≤ (w : Int) * R + R by omega) (by omega), wrap64_id (show -9223372036854775808 ≤ B + ((w : Int) * R + R) by omega) (by omega), if_neg (by omega), wj.out]
      refine ih (j + 1) _ n (w + 1) (by omega) ?_ ?_ e2 ?_ (by omega) (by omega)
      · split <;> omega
      · split <;> omega
      · rw [m3]; split <;> omega
    | false =>
      rw [hb] at h3
      simp only [run] at h3
      injection h3 with e1 e2
      rw [if_neg (by decide)]
      unfold wapentakelaw17_BucketWindow.j3
      rw [if_pos (by omega), if_pos (by omega), r2, e1, wR, wB, wrap64_id (show -9223372036854775808 ≤ (w : Int) * R by omega) (by omega), wrap64_id (show -9223372036854775808 ≤ B + (w : Int) * R by omega) (by omega), wj.out, wn.out]
      by_cases hL : 0 < L
      · rw [if_pos (decide_eq_true hL), if_neg (by omega)]
        rw [if_pos hL] at e2
        exact ih (j + 1) _ (n + 1) w (by omega) (by omega) (by omega) e2 (by omega) (by omega) (by omega)
      · rw [if_neg (by simpa using hL), if_neg (by omega)]
        rw [if_neg hL] at e2
        exact ih (j + 1) _ n w (by omega) (by omega) (by omega) e2 (by omega) (by omega) (by omega)
theorem window_all (R B : Int) (hR : 0 ≤ R) (hR2 : R ≤ 65535) (hB : 0 ≤ B) (hB2 : B ≤ 65535) (t : List Bool) (ht : t.length ≤ 400) :
    ∀ (d i : Nat), i + d = t.length → ∃ k, wapentakelaw17_BucketWindow.l1 k R B t (run R B B t) (i : Int) = some true := by
  intro d
  induction d with
  | zero => intro i hi; exact ⟨1, by unfold wapentakelaw17_BucketWindow.l1; rw [if_neg (by omega)]; rfl⟩
  | succ d ih =>
    intro i hi
    obtain ⟨k, hk⟩ := ih (i + 1) (by omega)
    obtain ⟨L, a, b, c⟩ := run_drop R B hR t B i hB (by omega)
    refine ⟨k + 2 * (d + 1) + 1 + 1, ?_⟩
    unfold wapentakelaw17_BucketWindow.l1
    rw [if_pos (by omega)]
    refine window_in R B hR hR2 hB hB2 t _ ht (run_length ..) i k ?_ (d + 1) i L 0 0 (by omega) a b c (by simp; omega) (by omega) (by omega)
    rw [wrap64_id (by omega) (by omega), show (i : Int) + 1 = ((i + 1 : Nat) : Int) from by omega]
    exact hk
theorem window_run (R B : Int) (hR : 0 ≤ R) (hR2 : R ≤ 65535) (hB : 0 ≤ B) (hB2 : B ≤ 65535) (t : List Bool) (ht : t.length ≤ 400) (k : Nat) :
    ∀ (d i : Nat) (x8 : List Bool) (L : Int), i + d = t.length → x8.length = i → 0 ≤ L → L ≤ B → wapentakelaw17_BucketWindow.l1 k R B t (x8 ++ run R B L (t.drop i)) 0 = some true →
    wapentakelaw17_BucketWindow.l0 (k + d + 1) R B t x8 (i : Int) L R B = some true := by
  intro d
  induction d with
  | zero =>
    intro i x8 L hi hx h1 h2 hk
    unfold wapentakelaw17_BucketWindow.l0
    rw [if_neg (by omega)]
    rw [List.drop_of_length_le (by omega)] at hk
    simpa [run] using hk
  | succ d ih =>
    intro i x8 L hi hx h1 h2 hk
    have hit : i < t.length := by omega
    have hr : rightB L R B = true := decide_eq_true (by omega)
    have wR : wrap64 R = R := wrap64_id (by omega) (by omega)
    have wB : wrap64 B = B := wrap64_id (by omega) (by omega)
    have wi : wrap64 ((i : Int) + 1) = ((i + 1 : Nat) : Int) := by rw [wrap64_id (by omega) (by omega)]; omega
    have r1 : rdOf false t (i : Int) = t[i] := by simp [rdOf, List.getD_eq_getElem?_getD, List.getElem?_eq_getElem hit]
    rw [List.drop_eq_getElem_cons hit] at hk
    rw [show k + (d + 1) + 1 = (k + d + 1) + 1 from by omega]
    unfold wapentakelaw17_BucketWindow.l0
    rw [if_pos (by omega), if_pos (by omega), r1, tick_spec, take_spec, hr]
    cases hb : t[i] with
    | true =>
      rw [hb] at hk
      simp only [run] at hk
      simp only [if_true, Option.bind_some]
      rw [wR, wB, wi, if_pos (by omega), if_neg (by split <;> omega), if_neg (by split <;> omega), if_pos rfl, if_pos rfl]
      refine ih (i + 1) (x8 ++ [false]) (if B < L + R then B else L + R) (by omega) (by simp [hx]) ?_ ?_ (by simpa using hk)
      · split <;> omega
      · split <;> omega
    | false =>
      rw [hb] at hk
      simp only [run] at hk
      rw [if_neg (by decide)]
      simp only [Option.bind_some, true_and]
      rw [wR, wB, wi, if_pos (by omega)]
      by_cases hL : 0 < L
      · rw [if_pos hL]
        simp only [if_true]
        rw [if_neg (by omega), if_neg (by omega)]
        rw [if_pos hL, decide_eq_true hL] at hk
        exact ih (i + 1) (x8 ++ [true]) (L - 1) (by omega) (by simp [hx]) (by omega) (by omega) (by simpa using hk)
      · rw [if_neg hL]
        simp only [if_true]
        rw [if_neg (by omega), if_neg (by omega)]
        rw [if_neg hL, decide_eq_false hL] at hk
        exact ih (i + 1) (x8 ++ [false]) L (by omega) (by simp [hx]) (by omega) (by omega) (by simpa using hk)
theorem BucketWindow : wapentakelaw17_BucketWindow.Pure := by
  intro R B t hR hB _
  have n8 : IntKind.u16.min = 0 := by decide
  have x8 : IntKind.u16.max = 65535 := by decide
  have hR' : 0 ≤ R ∧ R ≤ 65535 := by simp [Lit.wf, n8, x8] at hR; omega
  have hB' : 0 ≤ B ∧ B ≤ 65535 := by simp [Lit.wf, n8, x8] at hB; omega
  by_cases ht : (t.length : Int) > 400
  · refine ⟨0, ?_⟩
    unfold wapentakelaw17_BucketWindow.f
    rw [if_pos ht]; rfl
  · obtain ⟨k, hk⟩ := window_all R B hR'.1 hR'.2 hB'.1 hB'.2 t (by omega) t.length 0 (by omega)
    refine ⟨k + t.length + 1, ?_⟩
    unfold wapentakelaw17_BucketWindow.f
    rw [if_neg ht, new_spec, wrap64_id (show -9223372036854775808 ≤ R by omega) (by omega), wrap64_id (show -9223372036854775808 ≤ B by omega) (by omega), if_neg (by omega), if_neg (by omega), if_neg (by omega), if_neg (by omega)]
    simp only [Option.bind_some]
    exact window_run R B hR'.1 hR'.2 hB'.1 hB'.2 t (by omega) k t.length 0 [] B (by omega) rfl hB'.1 (by omega) (by simpa using hk)
end Go.Proofs.Ytfpeacjodgdndaa.Pure
