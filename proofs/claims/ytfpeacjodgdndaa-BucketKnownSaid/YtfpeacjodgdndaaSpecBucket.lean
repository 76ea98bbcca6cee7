/- What the printed functions of package bucket, and of its reference, come to. -/
import Derived.Test.YtfpeacjodgdndaaSpecRef
import Derived.Test.YtfpeacjodgdndaaPx10
import Derived.Test.YtfpeacjodgdndaaPx3
import Derived.Test.YtfpeacjodgdndaaPx3
import Derived.Test.YtfpeacjodgdndaaPx13
import Derived.Test.YtfpeacjodgdndaaPx5
namespace Go.Proofs.Ytfpeacjodgdndaa.P
set_option linter.unusedVariables false
set_option linter.unusedSimpArgs false
open Go.RowKit Go.Proofs.YtfpeacjodgdndaaW.PrintWords Go.Proofs.YtfpeacjodgdndaaW.PrintLast Go.Proofs.YtfpeacjodgdndaaW.PrintMore Go.Proofs.Ytfpeacjodgdndaa.Num
theorem mkB_drop (s : List UInt8) (i : Nat) : (mkB s).extract i (mkB s).size = mkB (s.drop i) := by
  rw [mkB_extract, mkB_size, List.take_of_length_le (by rw [List.length_drop]; omega)]
/-- is there such a bucket? -/
def rightB (l r b : Int) : Bool := decide (0 ≤ l ∧ l ≤ b ∧ 0 ≤ r ∧ r ≤ 2147483647 ∧ b ≤ 2147483647)
theorem right_spec (l r b : Int) : bucket_Bucket_Right.f l r b = some (rightB l r b) := by
  unfold bucket_Bucket_Right.f rightB
  by_cases h1 : r ≥ 0
  · rw [if_pos h1]
    by_cases h2 : r ≤ 2147483647
    · rw [if_pos h2]
      by_cases h3 : b ≤ 2147483647
      · rw [if_pos h3]
        by_cases h4 : l ≥ 0
        · rw [if_pos h4]; congr 1; by_cases h5 : l ≤ b
          · rw [decide_eq_true h5, decide_eq_true (by omega)]
          · rw [decide_eq_false h5, decide_eq_false (by omega)]
        · rw [if_neg h4, decide_eq_false (by omega)]
      · rw [if_neg h3, decide_eq_false (by omega)]
    · rw [if_neg h2, decide_eq_false (by omega)]
  · rw [if_neg h1, decide_eq_false (by omega)]
theorem held_spec (n : Int) : wapentakeref17_held.f n = some (if n < 0 then 0 else if n > 2147483647 then 2147483647 else n) := by
  unfold wapentakeref17_held.f
  by_cases h1 : n < 0
  · rw [if_pos h1, if_pos h1]
  · rw [if_neg h1, if_neg h1]
    by_cases h2 : n > 2147483647
    · rw [if_pos h2, if_pos h2]
    · rw [if_neg h2, if_neg h2]
theorem refRight_spec (l r b : Int) : wapentakeref17_Right.f l r b = some (rightB l r b) := by
  unfold wapentakeref17_Right.f rightB
  rw [held_spec, held_spec]
  simp only [Option.bind_some]
  by_cases h1 : 0 ≤ r ∧ r ≤ 2147483647
  · rw [if_pos (by rw [if_neg (by omega), if_neg (by omega)])]
    by_cases h2 : 0 ≤ b ∧ b ≤ 2147483647
    · rw [if_pos (by rw [if_neg (by omega), if_neg (by omega)])]
      by_cases h4 : l ≥ 0
      · rw [if_pos h4]; congr 1; by_cases h5 : l ≤ b
        · rw [decide_eq_true h5, decide_eq_true (by omega)]
        · rw [decide_eq_false h5, decide_eq_false (by omega)]
      · rw [if_neg h4, decide_eq_false (by omega)]
    · rw [if_neg (by split <;> (try split) <;> omega), decide_eq_false (by omega)]
  · rw [if_neg (by split <;> (try split) <;> omega), decide_eq_false (by omega)]
/-- the bucket that a text begins with -/
def readB (s : List UInt8) : Option (Nat × Nat × Nat × Nat) :=
  match readV s with
  | none => none
  | some (l, i) => if 2147483647 < l then none else
    match readV (s.drop i) with
    | none => none
    | some (r, j) => if 2147483647 < r then none else
      match readV (s.drop (i + j)) with
      | none => none
      | some (b, m) => if 2147483647 < b then none else if l ≤ b then some (l, r, b, i + j + m) else none
def encB : Option (Nat × Nat × Nat × Nat) → Int × Int × Int × Int × Bool
  | none => (0, 0, 0, 0, false)
  | some (l, r, b, n) => ((l : Int), (r : Int), (b : Int), (n : Int), true)
theorem go_step (s : List UInt8) (k d i : Nat) (c0 c1 c2 : Int) (hi : i ≤ s.length) (hs : s.length ≤ 1000000) (hk : 3 * s.length + 3 ≤ k) :
    bucket_Read.go k (mkB s) (d + 1) c0 c1 c2 (i : Int) = match readV (s.drop i) with
      | none => some (0, 0, 0, 0, false)
      | some (n, j) => if 2147483647 < n then some (0, 0, 0, 0, false) else bucket_Read.go k (mkB s) d (if d = 2 then (n : Int) else c0) (if d = 1 then (n : Int) else c1) (if d = 0 then (n : Int) else c2) ((i + j : Nat) : Int) := by
  conv => lhs; unfold bucket_Read.go
  rw [if_pos (by omega), if_pos (by rw [mkB_size]; omega), Int.toNat_natCast, mkB_drop, readV_spec _ k (by rw [List.length_drop]; omega)]
  cases h : readV (s.drop i) with
  | none => rfl
  | some p =>
    obtain ⟨n, j⟩ := p
    obtain ⟨h1, h2, h3, h4, _⟩ := readV_some h
    simp only [encV, Option.bind_some, if_true]
    rw [List.length_drop] at h4
    by_cases hn : 2147483647 < n
    · rw [if_pos (by omega), if_pos hn]
    · rw [if_neg (by omega), if_neg hn, wrap64_id (show -9223372036854775808 ≤ (n : Int) by omega) (by omega), wrap64_id (show -9223372036854775808 ≤ (i : Int) + (j : Int) by omega) (by omega), show (i : Int) + (j : Int) = ((i + j : Nat) : Int) from by omega]
theorem readB_spec (s : List UInt8) (k : Nat) (hs : s.length ≤ 1000000) (hk : 3 * s.length + 3 ≤ k) : bucket_Read.f k (mkB s) = some (encB (readB s)) := by
  unfold bucket_Read.f readB
  have e1 := go_step s k 2 0 0 0 0 (by omega) hs hk
  rw [show ((0 : Nat) : Int) = 0 from rfl, List.drop_zero] at e1
  rw [e1]
  clear e1
  cases h : readV s with
  | none => rfl
  | some p =>
    obtain ⟨l, i⟩ := p
    obtain ⟨_, _, _, h4, _⟩ := readV_some h
    simp only
    by_cases hl : 2147483647 < l
    · rw [if_pos hl, if_pos hl]; rfl
    · rw [if_neg hl, if_neg hl, Nat.zero_add, go_step s k 1 i _ _ _ h4 hs hk]
      cases h' : readV (s.drop i) with
      | none => rfl
      | some p' =>
        obtain ⟨r, j⟩ := p'
        obtain ⟨_, _, _, h4', _⟩ := readV_some h'
        rw [List.length_drop] at h4'
        simp only
        by_cases hr : 2147483647 < r
        · rw [if_pos hr, if_pos hr]; rfl
        · rw [if_neg hr, if_neg hr, go_step s k 0 (i + j) _ _ _ (by omega) hs hk]
          cases h'' : readV (s.drop (i + j)) with
          | none => rfl
          | some p'' =>
            obtain ⟨b, m⟩ := p''
            simp only
            by_cases hb : 2147483647 < b
            · rw [if_pos hb, if_pos hb]; rfl
            · rw [if_neg hb, if_neg hb]
              unfold bucket_Read.go
              rw [right_spec]
              simp only [Option.bind_some, if_true]
              unfold rightB
              by_cases hlb : l ≤ b
              · rw [if_pos hlb]
                simp [encB]; omega
              · rw [if_neg hlb]
                simp [encB]; omega
theorem refGo_step (s : List UInt8) (k i : Nat) (xs : List Int) (n7 : Nat) (hn7 : n7 < 3) (hx : xs.length ≤ 3) (hi : i ≤ s.length) (hs : s.length ≤ 1000000) (hk : 2 * s.length + 13 ≤ k) :
    wapentakeref17_Read.l0 (k + 1) (mkB s) (i : Int) xs (n7 : Int) = match readV (s.drop i) with
      | none => some (0, 0, 0, 0, false)
      | some (n, j) => if 2147483647 < n then some (0, 0, 0, 0, false) else wapentakeref17_Read.l0 k (mkB s) ((i + j : Nat) : Int) (xs ++ [(n : Int)]) ((n7 + 1 : Nat) : Int) := by
  conv => lhs; unfold wapentakeref17_Read.l0
  rw [if_pos (by omega), if_pos (by omega), if_pos (by rw [mkB_size]; omega), Int.toNat_natCast, mkB_drop, refReadV_spec _ k (by rw [List.length_drop]; omega) (by rw [List.length_drop]; omega)]
  cases h : readV (s.drop i) with
  | none => rfl
  | some p =>
    obtain ⟨n, j⟩ := p
    obtain ⟨h1, h2, h3, h4, _⟩ := readV_some h
    simp only [encV, Option.bind_some, if_true]
    rw [List.length_drop] at h4
    by_cases hn : 2147483647 < n
    · rw [if_pos (by omega), if_pos hn]
    · rw [if_neg (by omega), if_neg hn, if_pos (by omega), wrap64_id (show -9223372036854775808 ≤ (n : Int) by omega) (by omega), wrap64_id (show -9223372036854775808 ≤ (i : Int) + (j : Int) by omega) (by omega), wrap64_id (show -9223372036854775808 ≤ (n7 : Int) + 1 by omega) (by omega), show (i : Int) + (j : Int) = ((i + j : Nat) : Int) from by omega, show (n7 : Int) + 1 = ((n7 + 1 : Nat) : Int) from by omega]
theorem refReadB_spec (s : List UInt8) (k : Nat) (hs : s.length ≤ 1000000) (hk : 2 * s.length + 20 ≤ k) : wapentakeref17_Read.f k (mkB s) = some (encB (readB s)) := by
  obtain ⟨k, rfl⟩ : ∃ m, k = m + 4 := ⟨k - 4, by omega⟩
  unfold wapentakeref17_Read.f readB
  have e1 := refGo_step s (k + 3) 0 [] 0 (by omega) (by simp) (by omega) hs (by omega)
  rw [show ((0 : Nat) : Int) = 0 from rfl, List.drop_zero] at e1
  rw [e1]
  clear e1
  cases h : readV s with
  | none => rfl
  | some p =>
    obtain ⟨l, i⟩ := p
    obtain ⟨_, _, _, h4, _⟩ := readV_some h
    simp only
    by_cases hl : 2147483647 < l
    · rw [if_pos hl, if_pos hl]; rfl
    · rw [if_neg hl, if_neg hl, Nat.zero_add, refGo_step s (k + 2) i _ 1 (by omega) (by simp) h4 hs (by omega)]
      cases h' : readV (s.drop i) with
      | none => rfl
      | some p' =>
        obtain ⟨r, j⟩ := p'
        obtain ⟨_, _, _, h4', _⟩ := readV_some h'
        rw [List.length_drop] at h4'
        simp only
        by_cases hr : 2147483647 < r
        · rw [if_pos hr, if_pos hr]; rfl
        · rw [if_neg hr, if_neg hr, refGo_step s (k + 1) (i + j) _ 2 (by omega) (by simp) (by omega) hs (by omega)]
          cases h'' : readV (s.drop (i + j)) with
          | none => rfl
          | some p'' =>
            obtain ⟨b, m⟩ := p''
            simp only
            by_cases hb : 2147483647 < b
            · rw [if_pos hb, if_pos hb]; rfl
            · rw [if_neg hb, if_neg hb]
              unfold wapentakeref17_Read.l0
              rw [if_neg (by omega), if_pos (by simp), if_pos (by simp), if_pos (by simp), refRight_spec]
              simp only [Option.bind_some, List.nil_append, List.cons_append, rd]
              unfold rightB
              by_cases hlb : l ≤ b
              · rw [if_pos hlb]
                simp [encB]; omega
              · rw [if_neg hlb]
                simp [encB]; omega
theorem write_spec (l r b : Int) : bucket_Bucket_Write.f l r b = some (mkB (if rightB l r b = true then numV [l, r, b] else [])) := by
  unfold bucket_Bucket_Write.f
  rw [right_spec]
  simp only [Option.bind_some]
  by_cases h : rightB l r b = true
  · rw [if_pos h, if_pos h]
    have h' := of_decide_eq_true h
    rw [wrap_u64_id (show 0 ≤ l by omega) (by omega), wrap_u64_id (show 0 ≤ r by omega) (by omega), wrap_u64_id (show 0 ≤ b by omega) (by omega), V_spec _ (by simp) (by simp; omega)]
    rfl
  · rw [if_neg h, if_neg h]; rfl
theorem refWrite_spec (k : Nat) (l r b : Int) (hk : 20 ≤ k) : wapentakeref17_Write.f k l r b = some (mkB (if rightB l r b = true then numV [l, r, b] else [])) := by
  unfold wapentakeref17_Write.f
  rw [refRight_spec]
  simp only [Option.bind_some]
  by_cases h : rightB l r b = true
  · rw [if_pos h, if_pos h]
    have h' := of_decide_eq_true h
    rw [wrap_u64_id (show 0 ≤ l by omega) (by omega), wrap_u64_id (show 0 ≤ r by omega) (by omega), wrap_u64_id (show 0 ≤ b by omega) (by omega), refV_spec _ k (by simp; omega) (by simp) (by simp; omega)]
    rfl
  · rw [if_neg h, if_neg h]; rfl
end Go.Proofs.Ytfpeacjodgdndaa.P
