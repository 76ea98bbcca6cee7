/- BucketBack, the plain law: a right bucket is read as it was written, whatever stands behind it; what is read of any text, written again, is what was read. No condition. -/
import Derived.Test.YtfpeacjodgdndaaSpecBucket
import Derived.Test.YtfpeacjodgdndaaPx10
import Derived.OpenShut
namespace Go.Proofs.Ytfpeacjodgdndaa.Pure
set_option linter.unusedVariables false
set_option linter.unusedSimpArgs false
open Go.RowKit Go.Proofs.Ytfpeacjodgdndaa.P Go.Proofs.YtfpeacjodgdndaaW.PrintWords Go.Proofs.YtfpeacjodgdndaaW.PrintLast Go.Proofs.Ytfpeacjodgdndaa.Num
theorem numV3 (l r b : Nat) : numV [(l : Int), (r : Int), (b : Int)] = grp l ++ (grp r ++ grp b) := by simp [numV]
/-- what was written is read -/
theorem readB_written (l r b : Nat) (t : List UInt8) (hl : l ≤ b) (hr : r ≤ 2147483647) (hb : b ≤ 2147483647) :
    readB (numV [(l : Int), (r : Int), (b : Int)] ++ t) = some (l, r, b, (numV [(l : Int), (r : Int), (b : Int)]).length) := by
  rw [numV3]
  unfold readB
  rw [List.append_assoc, readV_grp l (by omega)]
  simp only
  rw [if_neg (by omega), List.drop_left, List.append_assoc, readV_grp r (by omega)]
  simp only
  rw [if_neg (by omega), ← List.drop_drop, List.drop_left, List.drop_left, readV_grp b (by omega)]
  simp only
  rw [if_neg (by omega), if_pos hl]
  simp only [List.length_append, Nat.add_assoc]
theorem readB_some {s : List UInt8} {l r b n : Nat} (h : readB s = some (l, r, b, n)) : l ≤ b ∧ r ≤ 2147483647 ∧ b ≤ 2147483647 ∧ n ≤ s.length ∧ s.take n = numV [(l : Int), (r : Int), (b : Int)] := by
  unfold readB at h
  cases h1 : readV s with
  | none => rw [h1] at h; cases h
  | some p =>
    obtain ⟨l', i⟩ := p
    rw [h1] at h
    simp only at h
    obtain ⟨_, _, _, a4, a5⟩ := readV_some h1
    by_cases z1 : 2147483647 < l'
    · rw [if_pos z1] at h; cases h
    · rw [if_neg z1] at h
      cases h2 : readV (s.drop i) with
      | none => rw [h2] at h; cases h
      | some p2 =>
        obtain ⟨r', j⟩ := p2
        rw [h2] at h
        simp only at h
        obtain ⟨_, _, _, b4, b5⟩ := readV_some h2
        by_cases z2 : 2147483647 < r'
        · rw [if_pos z2] at h; cases h
        · rw [if_neg z2] at h
          cases h3 : readV (s.drop (i + j)) with
          | none => rw [h3] at h; cases h
          | some p3 =>
            obtain ⟨b', m⟩ := p3
            rw [h3] at h
            simp only at h
            obtain ⟨_, _, _, c4, c5⟩ := readV_some h3
            by_cases z3 : 2147483647 < b'
            · rw [if_pos z3] at h; cases h
            · rw [if_neg z3] at h
              by_cases z4 : l' ≤ b'
              · rw [if_pos z4] at h
                simp only [Option.some.injEq, Prod.mk.injEq] at h
                obtain ⟨rfl, rfl, rfl, rfl⟩ := h
                rw [List.length_drop] at b4 c4
                refine ⟨z4, by omega, by omega, by omega, ?_⟩
                rw [numV3, Nat.add_assoc, List.take_add, a5, List.take_add, b5, List.drop_drop, c5]
              · rw [if_neg z4] at h; cases h
theorem back_j1 (s : List UInt8) (k : Nat) (hs : s.length ≤ 300) (hk : 1000 ≤ k) : wapentakelaw17_BucketBack.j1 k (mkB s) false = some true := by
  obtain ⟨k, rfl⟩ : ∃ m, k = m + 1 := ⟨k - 1, by omega⟩
  simp only [wapentakelaw17_BucketBack.j1]
  have e := readB_spec s k (by omega) (by omega)
  cases h : readB s with
  | none =>
    rw [h] at e
    rw [e]
    simp [encB, wapentakelaw17_awake.f]
  | some p =>
    obtain ⟨l, r, b, n⟩ := p
    rw [h] at e
    obtain ⟨h1, h2, h3, h4, h5⟩ := readB_some h
    have hr : rightB (l : Int) (r : Int) (b : Int) = true := decide_eq_true (by omega)
    rw [e]
    simp only [encB, Option.bind_some]
    rw [if_neg (by decide), if_pos trivial, right_spec, write_spec, hr]
    simp only [Option.bind_some, if_true]
    rw [mkB_size, if_pos (by omega), if_pos (by omega), mkB_extract, mkB_toList, mkB_toList, List.drop_zero, Nat.sub_zero, Int.toNat_natCast, if_pos h5.symm]
    rfl
theorem back_j0 (s : List UInt8) (l r b : Int) (k : Nat) (hs : s.length ≤ 300) (hk : 2000 ≤ k) : wapentakelaw17_BucketBack.j0 k (mkB s) l r b = some true := by
  obtain ⟨k, rfl⟩ : ∃ m, k = m + 1 := ⟨k - 1, by omega⟩
  simp only [wapentakelaw17_BucketBack.j0]
  rw [write_spec, right_spec]
  simp only [Option.bind_some]
  have hj := back_j1 s k hs (by omega)
  by_cases hr : rightB l r b = true
  · rw [if_pos hr]
    have h' := of_decide_eq_true hr
    obtain ⟨l, rfl⟩ := Int.eq_ofNat_of_zero_le (show 0 ≤ l by omega)
    obtain ⟨r, rfl⟩ := Int.eq_ofNat_of_zero_le (show 0 ≤ r by omega)
    obtain ⟨b, rfl⟩ := Int.eq_ofNat_of_zero_le (show 0 ≤ b by omega)
    have hne : numV [(l : Int), (r : Int), (b : Int)] ≠ [] := by
      rw [numV3]
      intro h0
      have := congrArg List.length h0
      rw [List.length_append, grp_length] at this
      simp at this
    have hlen : (numV [(l : Int), (r : Int), (b : Int)]).length ≤ 30 := by
      have := numV_length [(l : Int), (r : Int), (b : Int)] 3 (by simp; omega)
      simpa using this
    have he : (mkB (numV [(l : Int), (r : Int), (b : Int)])).toList.isEmpty = false := by rw [mkB_toList]; simpa using hne
    rw [he, hr, if_neg (by decide), mkB_size, mkB_size, if_pos (by omega), mkB_append, readB_spec _ k (by rw [List.length_append]; omega) (by rw [List.length_append]; omega), readB_written l r b s (by omega) (by omega) (by omega), mkB_toList]
    simp only [encB, Option.bind_some, if_true]
    rw [if_neg hne]
    rw [if_neg (by simp), show ((((numV [(l : Int), (r : Int), (b : Int)]).length : Int)) != ((numV [(l : Int), (r : Int), (b : Int)]).length : Int)) = false from by simp]
    exact hj
  · rw [if_neg hr]
    have he : (mkB []).toList.isEmpty = true := by rw [mkB_toList]; rfl
    have hr' : rightB l r b = false := by simpa using hr
    rw [he, hr', if_neg (by decide), mkB_size, mkB_size, if_pos (by simp; omega), mkB_append, readB_spec _ k (by simp; omega) (by simp; omega), mkB_toList]
    simp only [Option.bind_some, if_true]
    exact hj
theorem BucketBack : wapentakelaw17_BucketBack.Pure := by
  intro a0 a1 h0 h1
  obtain ⟨s, rfl⟩ := mkB_eta a1
  refine ⟨2000, ?_⟩
  unfold wapentakelaw17_BucketBack.f
  rw [mkB_size]
  by_cases h : (s.length : Int) > 300
  · rw [if_pos h, if_pos (by decide), if_pos (by omega), mkB_extract]
    exact back_j0 _ _ _ _ _ (by rw [List.length_take]; omega) (by omega)
  · rw [if_neg h]
    exact back_j0 _ _ _ _ _ (by omega) (by omega)
end Go.Proofs.Ytfpeacjodgdndaa.Pure
