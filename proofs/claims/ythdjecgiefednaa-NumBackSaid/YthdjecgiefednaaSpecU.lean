/- What the printed functions U and ReadU of num and of its reference come to. -/
import Derived.Test.YthdjecgiefednaaSpecRef
import Derived.Test.YthdjecgiefednaaPx1
import Derived.Test.YthdjecgiefednaaPx9
import Derived.Test.YthdjecgiefednaaPx6
import Derived.Test.YthdjecgiefednaaPx9
namespace Go.Proofs.Ythdjecgiefednaa.P
set_option linter.unusedVariables false
set_option linter.unusedSimpArgs false
open Go.RowKit Go.Proofs.YthdjecgiefednaaW.PrintWords Go.Proofs.YthdjecgiefednaaW.PrintLast Go.Proofs.YthdjecgiefednaaW.PrintMore Go.Proofs.Ythdjecgiefednaa.Num
theorem bI_append (a b : List UInt8) : bI (a ++ b) = bI a ++ bI b := by simp [bI]
theorem U_loop (i : Nat) : ∀ (n k : Nat) (t : List UInt8), i ≤ 8 → i + 1 ≤ k → num_U.l0 k (n : Int) (List.replicate i 0 ++ bI t) ((i : Int) - 1) = some (mkB (wide n i ++ t)) := by
  induction i with
  | zero =>
    intro n k t hi hk
    obtain ⟨k, rfl⟩ : ∃ m, k = m + 1 := ⟨k - 1, by omega⟩
    simp only [num_U.l0]
    rw [if_neg (by omega)]
    simp only [List.replicate_zero, List.nil_append, wide]
    rw [strOfNums_bI]; rfl
  | succ i ih =>
    intro n k t hi hk
    obtain ⟨k, rfl⟩ : ∃ m, k = m + 1 := ⟨k - 1, by omega⟩
    simp only [num_U.l0]
    rw [if_pos (by omega), if_pos (by omega), if_pos (by simp; omega)]
    have e1 : ((i + 1 : Nat) : Int) - 1 = (i : Int) := by omega
    rw [e1]
    clear e1
    have e2 : wrap64 ((i : Int) - 1) = (i : Int) - 1 := wrap64_id (by omega) (by omega)
    rw [e2]
    clear e2
    have e3 : (List.replicate (i + 1) (0 : Int) ++ bI t).set (i : Int).toNat ((n : Int) % 256) = List.replicate i 0 ++ bI (by_ (n % 256) :: t) := by
      rw [Int.toNat_natCast, List.replicate_succ', List.append_assoc, List.set_append_right _ _ (by simp)]
      simp [bI, by_toNat (show n % 256 < 256 by omega)]
    rw [e3]
    clear e3
    have e4 : (n : Int) / 256 = ((n / 256 : Nat) : Int) := by omega
    rw [e4]
    clear e4
    rw [ih (n / 256) k _ (by omega) (by omega), wide, List.append_assoc]; rfl
/-- a number of a width, as it is told: nothing, if there is no such width -/
def wideI (n : Nat) (w : Int) : List UInt8 := if w < 1 ∨ w > 8 then [] else wide n w.toNat
theorem U_spec (n k : Nat) (w : Int) (hk : 12 ≤ k) : num_U.f k (n : Int) w = some (mkB (wideI n w)) := by
  obtain ⟨k, rfl⟩ : ∃ m, k = m + 1 := ⟨k - 1, by omega⟩
  unfold num_U.f wideI
  by_cases h1 : w < 1
  · rw [if_pos h1, if_pos (.inl h1)]; rfl
  · rw [if_neg h1]
    by_cases h2 : w > 8
    · rw [if_pos (.inr h2)]
      simp only [num_U.j0]
      rw [if_pos (by simpa using h2)]; rfl
    · rw [if_neg (by omega)]
      simp only [num_U.j0]
      rw [if_neg (by simpa using h2), if_pos (by omega), if_pos (by omega)]
      obtain ⟨i, rfl⟩ := Int.eq_ofNat_of_zero_le (show 0 ≤ w by omega)
      have e2 : wrap64 ((i : Int) - 1) = (i : Int) - 1 := wrap64_id (by omega) (by omega)
      rw [e2]
      clear e2
      have h := U_loop i n k [] (by omega) (by omega)
      rw [List.append_nil] at h
      simp only [bI, List.map_nil, List.append_nil] at h
      rw [Int.toNat_natCast]
      exact h
theorem or_u64_8 (n c : Nat) (hn : n < 72057594037927936) (hc : c < 256) : Go.bits .or .u64 ((n * 256 : Nat) : Int) (c : Int) = ((n * 256 + c : Nat) : Int) := by
  have h := bits_join .u64 64 (by decide) (fun n a b => wrap_u64_id a (by omega)) 8 ((n * 256 : Nat) : Int) (c : Int) (by omega) (by omega) (by omega) (by omega) (by omega) (by omega)
  have h' : Go.bits .or .u64 ((n * 256 : Nat) : Int) (c : Int) = ((n * 256 : Nat) : Int) + (c : Int) := h
  rw [h']; omega
theorem pow256_le {i : Nat} (h : i ≤ 7) : 256 ^ i ≤ 72057594037927936 := by
  have := Nat.pow_le_pow_right (show 0 < 256 by decide) h
  exact Nat.le_trans this (by decide)
theorem val_take (s : List UInt8) (i : Nat) (h : i < s.length) : val_ (s.take (i + 1)) = val_ (s.take i) * 256 + (s[i]).toNat := by
  rw [List.take_succ_eq_append_getElem h, val_snoc]
theorem ReadU_loop (s : List UInt8) (w : Nat) (hw : w ≤ 8) (hs : w ≤ s.length) (d : Nat) : ∀ (i k : Nat), w - i ≤ d → i ≤ w → d + 1 ≤ k →
    num_ReadU.l0 k (mkB s) (val_ (s.take i) : Int) (w : Int) (i : Int) = some ((val_ (s.take w) : Int), true) := by
  induction d with
  | zero =>
    intro i k hd hi hk
    obtain ⟨k, rfl⟩ : ∃ m, k = m + 1 := ⟨k - 1, by omega⟩
    obtain rfl : i = w := by omega
    simp only [num_ReadU.l0]
    rw [if_neg (by omega)]
  | succ d ih =>
    intro i k hd hi hk
    obtain ⟨k, rfl⟩ : ∃ m, k = m + 1 := ⟨k - 1, by omega⟩
    simp only [num_ReadU.l0]
    by_cases h : i < w
    · have hb := bt_mkB s (i : Int) (by simp; omega)
      simp only [Int.toNat_natCast] at hb
      have hv := val_lt (s.take i)
      rw [List.length_take, Nat.min_eq_left (by omega)] at hv
      have hp := pow256_le (show i ≤ 7 by omega)
      have hc := (s[i]).toNat_lt
      rw [if_pos (by omega), if_pos (by omega), if_pos (by rw [mkB_size]; omega), hb, wrap_u64_id (by omega) (by omega), wrap_u64_id (by omega) (by omega)]
      have e1 : (val_ (s.take i) : Int) * 256 = ((val_ (s.take i) * 256 : Nat) : Int) := by omega
      rw [e1]
      clear e1
      rw [or_u64_8 _ _ (by omega) (by omega), ← val_take s i (by omega), wrap64_id (by omega) (by omega), show ((i : Int) + 1) = ((i + 1 : Nat) : Int) from by omega]
      exact ih (i + 1) k (by omega) (by omega) (by omega)
    · obtain rfl : i = w := by omega
      rw [if_neg (by omega)]
/-- the number of a width that a text begins with -/
def readU (s : List UInt8) (w : Int) : Int × Bool := if w < 1 ∨ w > 8 ∨ (s.length : Int) < w then (0, false) else ((val_ (s.take w.toNat) : Int), true)
theorem ReadU_spec (s : List UInt8) (k : Nat) (w : Int) (hk : 12 ≤ k) : num_ReadU.f k (mkB s) w = some (readU s w) := by
  obtain ⟨k, rfl⟩ : ∃ m, k = m + 1 := ⟨k - 1, by omega⟩
  unfold num_ReadU.f readU
  by_cases h1 : w < 1
  · rw [if_pos h1, if_pos (.inl h1)]; rfl
  · rw [if_neg h1]
    by_cases h2 : w > 8
    · rw [if_pos h2, if_pos (.inr (.inl h2))]; rfl
    · rw [if_neg h2]
      simp only [num_ReadU.j0, mkB_size]
      by_cases h3 : (s.length : Int) < w
      · rw [if_pos (by simpa using h3), if_pos (.inr (.inr h3))]
      · rw [if_neg (by simpa using h3), if_neg (by omega)]
        obtain ⟨i, rfl⟩ := Int.eq_ofNat_of_zero_le (show 0 ≤ w by omega)
        rw [Int.toNat_natCast]
        have h := ReadU_loop s i (by omega) (by omega) i 0 k (by omega) (by omega) (by omega)
        simpa [val_] using h
end Go.Proofs.Ythdjecgiefednaa.P
