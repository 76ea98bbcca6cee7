/- What is asked awake of num, and the rest of the reference of num: U, ReadU. -/
import Derived.Test.YthdjecgiefednaaSpecU
import Derived.Test.YthdjecgiefednaaSpecS
import Derived.Test.YthdjecgiefednaaPx3
namespace Go.Proofs.Ythdjecgiefednaa.P
set_option linter.unusedVariables false
set_option linter.unusedSimpArgs false
open Go.RowKit Go.Proofs.YthdjecgiefednaaW.PrintWords Go.Proofs.YthdjecgiefednaaW.PrintLast Go.Proofs.YthdjecgiefednaaW.PrintMore Go.Proofs.Ythdjecgiefednaa.Num
theorem awake_spec (k : Nat) (hk : 40 ≤ k) : wapentakelaw01_awake.f k = some true := by
  unfold wapentakelaw01_awake.f
  have h1 : num_ReadV.f k (⟨#[129, 0, 122]⟩ : ByteArray) = some (128, 2, true) := readV_spec [129, 0, 122] k (by simp; omega)
  have h2 : num_ReadS.f k (⟨#[2, 97, 98, 99]⟩ : ByteArray) = some (mkB [97, 98], 3, true) := readS_spec [2, 97, 98, 99] k (by simp) (by simp; omega)
  have h3 : num_V.f ([0, 127, 128, 16384] : List Int) = some (mkB [0, 127, 129, 0, 129, 128, 0]) := by
    rw [V_spec _ (by simp) (by simp)]
    have e1 : grp 0 = [0] := grp_of_readV rfl
    have e2 : grp 127 = [127] := grp_of_readV rfl
    have e3 : grp 128 = [129, 0] := grp_of_readV rfl
    have e4 : grp 16384 = [129, 128, 0] := grp_of_readV rfl
    simp [numV, e1, e2, e3, e4]
  have h4 : num_U.f k 258 2 = some (mkB [1, 2]) := by
    have := U_spec 258 k 2 (by omega)
    simpa [wideI, wide] using this
  rw [h1, h2, h3, h4]
  simp [mkB_toList]
theorem refU_loop (w : Nat) (hw : w ≤ 8) (d : Nat) : ∀ (n i k : Nat) (t : List UInt8), w - i = d → i ≤ w → n < 18446744073709551616 → t.length ≤ i → d + 1 ≤ k →
    wapentakeref01_U.l0 k (n : Int) (w : Int) (mkB t) (i : Int) = some (mkB (wide n d ++ t)) := by
  induction d with
  | zero =>
    intro n i k t hd hi hn ht hk
    obtain ⟨k, rfl⟩ : ∃ m, k = m + 1 := ⟨k - 1, by omega⟩
    simp only [wapentakeref01_U.l0]
    rw [if_neg (by omega)]; rfl
  | succ d ih =>
    intro n i k t hd hi hn ht hk
    obtain ⟨k, rfl⟩ : ∃ m, k = m + 1 := ⟨k - 1, by omega⟩
    simp only [wapentakeref01_U.l0]
    rw [if_pos (by omega), if_pos (by omega)]
    have e1 : Int.tmod (n : Int) 256 % 256 = ((n % 256 : Nat) : Int) := by rw [Int.tmod_eq_emod_of_nonneg (by omega)]; omega
    rw [e1]
    clear e1
    simp only [Option.bind_some]
    have e2 : IntKind.u64.wrap (Int.tdiv (n : Int) 256) = ((n / 256 : Nat) : Int) := by
      rw [Int.tdiv_eq_ediv_of_nonneg (by omega), wrap_u64_id (by omega) (by omega)]; omega
    rw [e2]
    clear e2
    rw [one_byte _ (by omega), mkB_size, mkB_size, if_pos (by simp; omega), mkB_append, wrap64_id (by omega) (by omega), show ((i : Int) + 1) = ((i + 1 : Nat) : Int) from by omega,
      ih (n / 256) (i + 1) k _ (by omega) (by omega) (by omega) (by simp; omega) (by omega), wide, List.append_assoc]; rfl
theorem refU_spec (n k : Nat) (w : Int) (hn : n < 18446744073709551616) (hk : 12 ≤ k) : wapentakeref01_U.f k (n : Int) w = some (mkB (wideI n w)) := by
  unfold wapentakeref01_U.f wideI
  by_cases h1 : w < 1
  · rw [if_pos (.inl h1)]
    obtain ⟨k, rfl⟩ : ∃ m, k = m + 1 := ⟨k - 1, by omega⟩
    simp only [wapentakeref01_U.l0]
    rw [if_neg (by omega)]; rfl
  · by_cases h2 : w > 8
    · rw [if_pos (.inr h2)]
      obtain ⟨k, rfl⟩ : ∃ m, k = m + 1 := ⟨k - 1, by omega⟩
      simp only [wapentakeref01_U.l0]
      rw [if_pos (by omega), if_neg (by omega)]; rfl
    · rw [if_neg (by omega)]
      obtain ⟨i, rfl⟩ := Int.eq_ofNat_of_zero_le (show 0 ≤ w by omega)
      have h := refU_loop i (by omega) i n 0 k [] (by omega) (by omega) hn (by simp) (by omega)
      rw [List.append_nil] at h
      rw [Int.toNat_natCast]
      exact h
theorem refReadU_loop (s : List UInt8) (w : Nat) (hw : w ≤ 8) (hs : w ≤ s.length) (d : Nat) : ∀ (i k : Nat), w - i ≤ d → i ≤ w → d + 1 ≤ k →
    wapentakeref01_ReadU.l0 k (mkB s) (w : Int) (val_ (s.take i) : Int) (i : Int) = some ((val_ (s.take w) : Int), true) := by
  induction d with
  | zero =>
    intro i k hd hi hk
    obtain ⟨k, rfl⟩ : ∃ m, k = m + 1 := ⟨k - 1, by omega⟩
    obtain rfl : i = w := by omega
    simp only [wapentakeref01_ReadU.l0]
    rw [if_neg (by omega)]
  | succ d ih =>
    intro i k hd hi hk
    obtain ⟨k, rfl⟩ : ∃ m, k = m + 1 := ⟨k - 1, by omega⟩
    simp only [wapentakeref01_ReadU.l0]
    by_cases h : i < w
    · have hb := bt_mkB s (i : Int) (by simp; omega)
      simp only [Int.toNat_natCast] at hb
      have hv := val_lt (s.take i)
      rw [List.length_take, Nat.min_eq_left (by omega)] at hv
      have hp := pow256_le (show i ≤ 7 by omega)
      have hc := (s[i]).toNat_lt
      rw [if_pos (by omega), if_pos (by omega), if_pos (by rw [mkB_size]; omega), hb, wrap_u64_id (show 0 ≤ 256 * (val_ (s.take i) : Int) by omega) (by omega), wrap_u64_id (show 0 ≤ (((s[i]).toNat : Nat) : Int) by omega) (by omega), wrap_u64_id (by omega) (by omega)]
      have e1 : 256 * (val_ (s.take i) : Int) + ((s[i]).toNat : Int) = ((val_ (s.take i) * 256 + (s[i]).toNat : Nat) : Int) := by omega
      rw [e1]
      clear e1
      rw [← val_take s i (by omega), wrap64_id (by omega) (by omega), show ((i : Int) + 1) = ((i + 1 : Nat) : Int) from by omega]
      exact ih (i + 1) k (by omega) (by omega) (by omega)
    · obtain rfl : i = w := by omega
      rw [if_neg (by omega)]
theorem refReadU_spec (s : List UInt8) (k : Nat) (w : Int) (hk : 12 ≤ k) : wapentakeref01_ReadU.f k (mkB s) w = some (readU s w) := by
  obtain ⟨k, rfl⟩ : ∃ m, k = m + 1 := ⟨k - 1, by omega⟩
  unfold wapentakeref01_ReadU.f readU
  by_cases h1 : w < 1
  · rw [if_pos h1, if_pos (.inl h1)]; rfl
  · rw [if_neg h1]
    by_cases h2 : w > 8
    · rw [if_pos h2, if_pos (.inr (.inl h2))]; rfl
    · rw [if_neg h2]
      simp only [wapentakeref01_ReadU.j0, mkB_size]
      by_cases h3 : (s.length : Int) < w
      · rw [if_pos (by simpa using h3), if_pos (.inr (.inr h3))]
      · rw [if_neg (by simpa using h3), if_neg (by omega)]
        obtain ⟨i, rfl⟩ := Int.eq_ofNat_of_zero_le (show 0 ≤ w by omega)
        rw [Int.toNat_natCast]
        have h := refReadU_loop s i (by omega) (by omega) i 0 k (by omega) (by omega) (by omega)
        simpa [val_] using h
end Go.Proofs.Ythdjecgiefednaa.P
