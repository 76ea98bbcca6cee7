/- NumApart, the plain law: no number's groups are the beginning of another one's; more are needed just of a greater one. No condition. -/
import Derived.Test.YthdjecgiefednaaSpecAwake01
import Derived.Test.YthdjecgiefednaaPx4
import Derived.OpenShut
namespace Go.Proofs.Ythdjecgiefednaa.Pure
set_option linter.unusedVariables false
set_option linter.unusedSimpArgs false
open Go.RowKit Go.Proofs.Ythdjecgiefednaa.P Go.Proofs.YthdjecgiefednaaW.PrintWords Go.Proofs.YthdjecgiefednaaW.PrintLast Go.Proofs.Ythdjecgiefednaa.Num
theorem apart_j0 (A B k : Nat) (hA : A < 18446744073709551616) (hB : B < 18446744073709551616) (hk : 50 ≤ k) :
    wapentakelaw01_NumApart.j0 k (A : Int) (B : Int) (mkB (grp A)) (mkB (grp B)) false = some true := by
  obtain ⟨k, rfl⟩ : ∃ m, k = m + 1 := ⟨k - 1, by omega⟩
  simp only [wapentakelaw01_NumApart.j0, awake_spec k (by omega), Option.bind_some, mkB_size, mkB_toList, mkB_extract, List.drop_zero, Nat.sub_zero]
  have hle : (grp A).length = (grp B).length → ((Op.bytesLess (grp A) (grp B) == decide ((A : Int) < (B : Int))) = true) := by
    intro h
    rw [grp_less h]
    simp
  rw [if_neg (by decide)]
  by_cases hl : (grp A).length = (grp B).length
  · have hi : ((grp A).length : Int) = ((grp B).length : Int) := by rw [hl]
    by_cases hab : (A : Int) = (B : Int)
    · rw [if_pos hab, if_pos hi, if_pos (hle hl)]
    · rw [if_neg hab, if_pos (by omega), if_pos (by omega), if_neg, if_pos hi, if_pos (hle hl)]
      intro h
      have h2 := List.take_append_drop (grp A).length (grp B)
      rw [h] at h2
      have := (grp_apart (a := A) (b := B) hA hB (s := (grp B).drop (grp A).length) (t := []) (by rw [h2, List.append_nil])).1
      omega
  · have hi : ¬ ((grp A).length : Int) = ((grp B).length : Int) := by omega
    by_cases hab : (A : Int) = (B : Int)
    · rw [if_pos hab, if_neg hi]
    · rw [if_neg hab]
      by_cases hlt : ((grp A).length : Int) ≤ ((grp B).length : Int)
      · rw [if_pos hlt, if_pos (by omega), if_neg, if_neg hi]
        intro h
        have h2 := List.take_append_drop (grp A).length (grp B)
        rw [h] at h2
        have := (grp_apart (a := A) (b := B) hA hB (s := (grp B).drop (grp A).length) (t := []) (by rw [h2, List.append_nil])).1
        omega
      · rw [if_neg hlt, if_neg hi]
theorem NumApart : wapentakelaw01_NumApart.Pure := by
  intro a b ha hb
  have ha := Go.bounds_u64 ha
  have hb := Go.bounds_u64 hb
  obtain ⟨A, rfl⟩ := Int.eq_ofNat_of_zero_le ha.1
  obtain ⟨B, rfl⟩ := Int.eq_ofNat_of_zero_le hb.1
  refine ⟨60, ?_⟩
  unfold wapentakelaw01_NumApart.f
  rw [V_one A (by omega), V_one B (by omega)]
  simp only [Option.bind_some, mkB_size, mkB_toList]
  have h1 := grp_length A
  have h2 := grp_length B
  have h3 := grp_len_le (n := A) (by omega)
  have h4 := grp_len_le (n := B) (by omega)
  rw [if_neg (by omega), if_neg (by omega), if_neg (by omega), if_neg (by omega)]
  have he : ((grp A == grp B) != ((A : Int) == (B : Int))) = false := by
    by_cases h : A = B
    · subst h; simp
    · have h5 : ¬ grp A = grp B := fun h6 => h (grp_inj (by omega) (by omega) h6)
      have h7 : ¬ (A : Int) = (B : Int) := by omega
      rw [beq_eq_false_iff_ne.2 h5, beq_eq_false_iff_ne.2 h7]; rfl
  rw [he, if_neg (by decide)]
  have hj := apart_j0 A B 60 (by omega) (by omega) (by omega)
  by_cases hl : ((grp A).length : Int) < ((grp B).length : Int)
  · have := grp_len_lt (a := A) (b := B) (by omega)
    rw [if_pos hl, decide_eq_false (by omega)]
    exact hj
  · rw [if_neg hl]
    exact hj
end Go.Proofs.Ythdjecgiefednaa.Pure
