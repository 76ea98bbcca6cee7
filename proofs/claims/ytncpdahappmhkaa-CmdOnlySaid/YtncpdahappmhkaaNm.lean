/- Numbers as groups, texts as rows: what they are in plain words, and the functions that write and read them. -/
import Derived.Test.YtncpdahappmhkaaTAll
import Derived.Test.YtncpdahappmhkaaAmZ
namespace Go.Proofs.Ytncpdahappmhkaa.Wt
open Go Go.Proofs.Ytncpdahappmhkaa.Am Go.Proofs.Ytncpdahappmhkaa.IrAll
set_option linter.unusedVariables false
set_option linter.unusedSimpArgs false
/-! ### Groups -/
/-- The groups ahead of the last one. -/
def hi (n : Nat) : List UInt8 := if h : n = 0 then [] else hi (n / 128) ++ [UInt8.ofNat (128 + n % 128)]
termination_by n
decreasing_by omega
def vb (n : Nat) : List UInt8 := hi (n / 128) ++ [UInt8.ofNat (n % 128)]
theorem hi_zero : hi 0 = [] := by unfold hi; simp
theorem hi_pos {n : Nat} (h : n ≠ 0) : hi n = hi (n / 128) ++ [UInt8.ofNat (128 + n % 128)] := by
  conv => lhs; unfold hi
  rw [dif_neg h]
theorem hi_nil {n : Nat} (h : hi n = []) : n = 0 := by
  by_cases c : n = 0
  · exact c
  · rw [hi_pos c] at h; simp at h
theorem hi_step {n r : Nat} (hr : r < 128) (h : n ≠ 0 ∨ r ≠ 0) : hi (n * 128 + r) = hi n ++ [UInt8.ofNat (128 + r)] := by
  rw [hi_pos (by omega), show (n * 128 + r) / 128 = n by omega, show (n * 128 + r) % 128 = r by omega]
theorem hi_length {k : Nat} : ∀ {n : Nat}, n < 128 ^ k → (hi n).length ≤ k := by
  induction k with
  | zero => intro n h; have : n = 0 := by simpa using h
            subst this; rw [hi_zero]; simp
  | succ k ih =>
    intro n h
    by_cases c : n = 0
    · subst c; rw [hi_zero]; simp
    · rw [hi_pos c, List.length_append]
      have : n / 128 < 128 ^ k := by rw [Nat.pow_succ] at h; omega
      have := ih this
      simp; omega
theorem vb_ne (n : Nat) : vb n ≠ [] := by simp [vb]
theorem vb_step {n r : Nat} (hr : r < 128) : vb (n * 128 + r) = hi n ++ [UInt8.ofNat r] := by
  unfold vb; rw [show (n * 128 + r) / 128 = n by omega, show (n * 128 + r) % 128 = r by omega]
theorem vb_len {n : Nat} (h : n < 18446744073709551616) : (vb n).length ≤ 10 := by
  have : (hi (n / 128)).length ≤ 9 := hi_length (by omega)
  simp [vb]; omega
theorem vb_small {n : Nat} (h : n < 128) : vb n = [UInt8.ofNat n] := by
  unfold vb; rw [show n / 128 = 0 by omega, hi_zero, Nat.mod_eq_of_lt h]; rfl
/-- Reading groups: what was read so far, how many groups there were. -/
def rv : List UInt8 → Nat → Nat → Option (Nat × Nat)
  | [], _, _ => none
  | c :: s, n, k => if (k = 0 ∧ c.toNat = 128) ∨ 144115188075855872 ≤ n then none else if c.toNat < 128 then some (n * 128 + c.toNat, k + 1) else rv s (n * 128 + (c.toNat - 128)) (k + 1)
def getV (s : List UInt8) : Option (Nat × Nat) := rv s 0 0
def rvN (s : List UInt8) : Nat := match getV s with | some p => p.1 | none => 0
def rvK (s : List UInt8) : Nat := match getV s with | some p => p.2 | none => 0
def rvOK (s : List UInt8) : Bool := (getV s).isSome
theorem ofNat_toNat (c : UInt8) : UInt8.ofNat c.toNat = c := by simp
theorem toNat_ofNat {n : Nat} (h : n < 256) : (UInt8.ofNat n).toNat = n := by
  simp [UInt8.toNat_ofNat']; omega
theorem rv_sound : ∀ (s : List UInt8) (n k m j : Nat) (p : List UInt8), rv s n k = some (m, j) → hi n = p → p.length = k → ∃ t r, s = t ++ r ∧ p ++ t = vb m ∧ j = (p ++ t).length ∧ m < 18446744073709551616 := by
  intro s
  induction s with
  | nil => intro n k m j p h; cases h
  | cons c s ih =>
    intro n k m j p h hp hk
    simp only [rv] at h
    split at h
    · cases h
    · rename_i hc
      have hc2 := c.toNat_lt
      split at h
      · rename_i hl; cases h
        refine ⟨[c], s, rfl, ?_, by simp [hk], by omega⟩
        rw [vb_step hl, ofNat_toNat, hp]
      · rename_i hl
        have hn : n ≠ 0 ∨ c.toNat - 128 ≠ 0 := by
          by_cases c0 : n = 0
          · right; intro c1
            have : p = [] := by rw [← hp, c0, hi_zero]
            exact hc (.inl ⟨by rw [← hk, this]; rfl, by omega⟩)
          · exact .inl c0
        have h2 := hi_step (n := n) (r := c.toNat - 128) (by omega) hn
        rw [show 128 + (c.toNat - 128) = c.toNat by omega, ofNat_toNat, hp] at h2
        obtain ⟨t, r, e1, e2, e3, e4⟩ := ih _ _ _ _ _ h h2 (by simp [hk])
        exact ⟨c :: t, r, by rw [e1]; rfl, by rw [← e2]; simp, by rw [e3]; simp, e4⟩
theorem rv_hi : ∀ (m : Nat) (r : List UInt8), m < 144115188075855872 → rv (hi m ++ r) 0 0 = rv r m (hi m).length := by
  intro m
  induction m using Nat.strongRecOn with
  | _ m ih =>
    intro r hm
    by_cases c : m = 0
    · subst c; rw [hi_zero]; rfl
    · have hx : (UInt8.ofNat (128 + m % 128)).toNat = 128 + m % 128 := toNat_ofNat (by omega)
      rw [hi_pos c, List.append_assoc, ih (m / 128) (by omega) _ (by omega), List.singleton_append]
      simp only [rv]
      rw [if_neg, if_neg (by rw [hx]; omega), hx]
      · rw [show m / 128 * 128 + (128 + m % 128 - 128) = m by omega]; simp
      · rintro (⟨h1, h2⟩ | h2)
        · have : m / 128 = 0 := hi_nil (List.eq_nil_of_length_eq_zero h1)
          rw [hx] at h2; omega
        · omega
theorem getV_vb {n : Nat} (h : n < 18446744073709551616) (r : List UInt8) : getV (vb n ++ r) = some (n, (vb n).length) := by
  unfold getV vb
  have hx : (UInt8.ofNat (n % 128)).toNat = n % 128 := toNat_ofNat (by omega)
  rw [List.append_assoc, rv_hi _ _ (by omega), List.singleton_append]
  simp only [rv]
  rw [if_neg, if_pos (by rw [hx]; omega), hx]
  · rw [show n / 128 * 128 + n % 128 = n by omega]; simp
  · rintro (⟨h1, h2⟩ | h2)
    · rw [hx] at h2; omega
    · omega
theorem getV_some {s : List UInt8} {n k : Nat} (h : getV s = some (n, k)) : s = vb n ++ s.drop k ∧ k = (vb n).length ∧ n < 18446744073709551616 := by
  obtain ⟨t, r, e1, e2, e3, e4⟩ := rv_sound s 0 0 n k [] h hi_zero rfl
  simp only [List.nil_append] at e2 e3
  subst e1
  refine ⟨?_, by rw [e3, e2], e4⟩
  rw [e3, ← e2, List.drop_left]
theorem getV_le {s : List UInt8} {n k : Nat} (h : getV s = some (n, k)) : 1 ≤ k ∧ k ≤ s.length ∧ k ≤ 10 := by
  obtain ⟨e1, e2, e3⟩ := getV_some h
  have h1 : 0 < (vb n).length := List.length_pos_iff.2 (vb_ne n)
  have h2 := congrArg List.length e1
  have h3 := vb_len e3
  simp only [List.length_append] at h2; omega
theorem rvK_le (s : List UInt8) : rvK s ≤ s.length ∧ rvK s ≤ 10 := by
  unfold rvK; split
  · rename_i p hp; exact ⟨(getV_le hp).2.1, (getV_le hp).2.2⟩
  · simp
theorem rvN_lt (s : List UInt8) : rvN s < 18446744073709551616 := by
  unfold rvN; split
  · rename_i p hp; exact (getV_some hp).2.2
  · omega
theorem rv_eq_some {s : List UInt8} {n k : Nat} (h : getV s = some (n, k)) : rvN s = n ∧ rvK s = k ∧ rvOK s = true := by simp [rvN, rvK, rvOK, h]
theorem rv_eq_none {s : List UInt8} (h : getV s = none) : rvN s = 0 ∧ rvK s = 0 ∧ rvOK s = false := by simp [rvN, rvK, rvOK, h]
theorem getV_eq (s : List UInt8) : getV s = if rvOK s then some (rvN s, rvK s) else none := by
  unfold rvN rvK rvOK; cases getV s <;> simp
/-! ### Texts -/
def sb (t : List UInt8) : List UInt8 := vb t.length ++ t
def getS (s : List UInt8) : Option (List UInt8 × Nat) := match getV s with
  | some (n, k) => if n ≤ s.length - k then some ((s.drop k).take n, k + n) else none
  | none => none
def rsT (s : List UInt8) : List UInt8 := match getS s with | some p => p.1 | none => []
def rsK (s : List UInt8) : Nat := match getS s with | some p => p.2 | none => 0
def rsOK (s : List UInt8) : Bool := (getS s).isSome
theorem getS_sb {t : List UInt8} (h : t.length < 18446744073709551616) (r : List UInt8) : getS (sb t ++ r) = some (t, (sb t).length) := by
  unfold getS sb
  rw [List.append_assoc, getV_vb h]
  simp
theorem getS_some {s t : List UInt8} {k : Nat} (h : getS s = some (t, k)) : s = sb t ++ s.drop k ∧ k = (sb t).length ∧ t.length < 18446744073709551616 := by
  unfold getS at h
  split at h
  · rename_i n j hv
    obtain ⟨e1, e2, e3⟩ := getV_some hv
    have hl := congrArg List.length e1
    simp only [List.length_append, List.length_drop] at hl
    split at h
    · rename_i hn; cases h
      have hlen : ((s.drop j).take n).length = n := by simp; omega
      refine ⟨?_, by unfold sb; rw [List.length_append, hlen, ← e2], by rw [hlen]; exact e3⟩
      unfold sb; rw [hlen, List.append_assoc]
      conv => lhs; rw [e1]
      congr 1
      conv => lhs; rw [← List.take_append_drop n (s.drop j)]
      rw [List.drop_drop]
    · cases h
  · cases h
theorem getS_le {s t : List UInt8} {k : Nat} (h : getS s = some (t, k)) : 1 ≤ k ∧ k ≤ s.length ∧ t.length ≤ k := by
  obtain ⟨e1, e2, e3⟩ := getS_some h
  have h1 : 0 < (vb t.length).length := List.length_pos_iff.2 (vb_ne _)
  have h2 := congrArg List.length e1
  simp only [sb, List.length_append] at h2 e2; omega
theorem rsK_le (s : List UInt8) : rsK s ≤ s.length := by
  unfold rsK; split
  · rename_i p hp; exact (getS_le hp).2.1
  · simp
theorem rsT_le (s : List UInt8) : (rsT s).length ≤ s.length := by
  unfold rsT; split
  · rename_i p hp; have := getS_le hp; omega
  · simp
theorem rs_eq_some {s t : List UInt8} {k : Nat} (h : getS s = some (t, k)) : rsT s = t ∧ rsK s = k ∧ rsOK s = true := by simp [rsT, rsK, rsOK, h]
theorem rs_eq_none {s : List UInt8} (h : getS s = none) : rsT s = [] ∧ rsK s = 0 ∧ rsOK s = false := by simp [rsT, rsK, rsOK, h]
theorem getS_eq (s : List UInt8) : getS s = if rsOK s then some (rsT s, rsK s) else none := by
  unfold rsT rsK rsOK; cases getS s <;> simp
theorem sb_len {t : List UInt8} (h : t.length < 18446744073709551616) : (sb t).length ≤ t.length + 10 := by
  have := vb_len h; simp [sb]; omega
/-! ### Bits -/
theorem bv8 (a : Nat) (h : a < 256) (b : Nat) (hb : b < 256) : IntKind.u8.wrap ((BitVec.ofInt IntKind.u8.bits (a : Int) &&& BitVec.ofInt IntKind.u8.bits (b : Int)).toNat : Nat) = ((a &&& b : Nat) : Int) := by
  have h1 : a &&& b ≤ a := Nat.and_le_left
  have e1 : ((a : Int) % ((2 ^ 8 : Nat) : Int)).toNat = a := by omega
  have e2 : ((b : Int) % ((2 ^ 8 : Nat) : Int)).toNat = b := by omega
  have key : (BitVec.ofInt 8 (a : Int) &&& BitVec.ofInt 8 (b : Int)).toNat = a &&& b := by simp only [BitVec.toNat_and, BitVec.toNat_ofInt]; rw [e1, e2]
  show IntKind.u8.wrap ((BitVec.ofInt 8 (a : Int) &&& BitVec.ofInt 8 (b : Int)).toNat : Int) = _
  rw [key, IntKind.wrap_u8]; omega
theorem and127 (a : Nat) : a &&& 127 = a % 128 := Nat.and_two_pow_sub_one_eq_mod a 7
theorem low_u8 (c : UInt8) : Value.int .u8 (IntKind.u8.wrap ((BitVec.ofInt IntKind.u8.bits (c.toNat : Int) &&& BitVec.ofInt IntKind.u8.bits 127).toNat : Nat)) = .int .u8 ((c.toNat % 128 : Nat) : Int) := by
  have := bv8 c.toNat c.toNat_lt 127 (by omega)
  rw [and127] at this; rw [← this]; rfl
theorem more_all : ∀ a : Fin 256, a.val &&& 128 = if a.val < 128 then 0 else 128 := by decide +kernel
theorem more_u8 (c : UInt8) : Value.int .u8 (IntKind.u8.wrap ((BitVec.ofInt IntKind.u8.bits (c.toNat : Int) &&& BitVec.ofInt IntKind.u8.bits 128).toNat : Nat)) = .int .u8 ((if c.toNat < 128 then 0 else 128 : Nat) : Int) := by
  have h := bv8 c.toNat c.toNat_lt 128 (by omega)
  have h2 := more_all ⟨c.toNat, c.toNat_lt⟩
  simp only at h2
  rw [h2] at h; rw [← h]; rfl
theorem bv64 (a b : Nat) (h : a < 18446744073709551616) (hb : b < 18446744073709551616) : IntKind.u64.wrap ((BitVec.ofInt IntKind.u64.bits (a : Int) &&& BitVec.ofInt IntKind.u64.bits (b : Int)).toNat : Nat) = ((a &&& b : Nat) : Int) := by
  have h1 : a &&& b ≤ a := Nat.and_le_left
  have e1 : ((a : Int) % ((2 ^ 64 : Nat) : Int)).toNat = a := by omega
  have e2 : ((b : Int) % ((2 ^ 64 : Nat) : Int)).toNat = b := by omega
  have key : (BitVec.ofInt 64 (a : Int) &&& BitVec.ofInt 64 (b : Int)).toNat = a &&& b := by simp only [BitVec.toNat_and, BitVec.toNat_ofInt]; rw [e1, e2]
  show IntKind.u64.wrap ((BitVec.ofInt 64 (a : Int) &&& BitVec.ofInt 64 (b : Int)).toNat : Int) = _
  rw [key, wu64]; omega
theorem bvo64 (a b : Nat) (h : a < 18446744073709551616) (hb : b < 18446744073709551616) : IntKind.u64.wrap ((BitVec.ofInt IntKind.u64.bits (a : Int) ||| BitVec.ofInt IntKind.u64.bits (b : Int)).toNat : Nat) = ((a ||| b : Nat) : Int) := by
  have h1 : a ||| b < 2 ^ 64 := Nat.or_lt_two_pow (by omega) (by omega)
  have e1 : ((a : Int) % ((2 ^ 64 : Nat) : Int)).toNat = a := by omega
  have e2 : ((b : Int) % ((2 ^ 64 : Nat) : Int)).toNat = b := by omega
  have key : (BitVec.ofInt 64 (a : Int) ||| BitVec.ofInt 64 (b : Int)).toNat = a ||| b := by simp only [BitVec.toNat_or, BitVec.toNat_ofInt]; rw [e1, e2]
  show IntKind.u64.wrap ((BitVec.ofInt 64 (a : Int) ||| BitVec.ofInt 64 (b : Int)).toNat : Int) = _
  rw [key, wu64]; omega
theorem or_add (n r : Nat) (hr : r < 128) : n * 128 ||| r = n * 128 + r := by
  have := Nat.two_pow_add_eq_or_of_lt (i := 7) (b := r) (by omega) n
  rw [Nat.mul_comm n 128]; exact this.symm
theorem shl7 {n : Nat} (h : n < 144115188075855872) : Value.int .u64 (IntKind.u64.wrap ((n : Int) * 2 ^ (min (Int.toNat 7) IntKind.u64.bits))) = .int .u64 ((n * 128 : Nat) : Int) := by
  congr 1
  have : (2 : Int) ^ (min (Int.toNat 7) IntKind.u64.bits) = 128 := by decide
  rw [this, wu64]; omega
theorem or7 {n r : Nat} (h : n * 128 < 18446744073709551616) (hr : r < 128) : Value.int .u64 (IntKind.u64.wrap ((BitVec.ofInt IntKind.u64.bits ((n * 128 : Nat) : Int) ||| BitVec.ofInt IntKind.u64.bits (r : Int)).toNat : Nat)) = .int .u64 ((n * 128 + r : Nat) : Int) := by
  congr 1; rw [bvo64 _ _ h (by omega), or_add _ _ hr]
theorem fdiv_nat (n k : Nat) : Int.fdiv (n : Int) (k : Int) = ((n / k : Nat) : Int) := by
  rw [Int.fdiv_eq_ediv_of_nonneg _ (by omega)]; rfl
theorem shr57 (n : Nat) : Value.int .u64 (Int.fdiv (n : Int) (2 ^ (min (Int.toNat 57) IntKind.u64.bits))) = .int .u64 ((n / 144115188075855872 : Nat) : Int) := by
  congr 1
  have : (2 : Int) ^ (min (Int.toNat 57) IntKind.u64.bits) = ((144115188075855872 : Nat) : Int) := by decide
  rw [this, fdiv_nat]
theorem shr7 (n : Nat) : Value.int .u64 (Int.fdiv (n : Int) (2 ^ (min (Int.toNat 7) IntKind.u64.bits))) = .int .u64 ((n / 128 : Nat) : Int) := by
  congr 1
  have : (2 : Int) ^ (min (Int.toNat 7) IntKind.u64.bits) = ((128 : Nat) : Int) := by decide
  rw [this, fdiv_nat]
theorem drop_cons {l : List UInt8} {k : Nat} {c : UInt8} (hc : l[k]? = some c) : l.drop k = c :: l.drop (k + 1) := by
  obtain ⟨h1, h2⟩ := List.getElem?_eq_some_iff.1 hc
  rw [List.drop_eq_getElem_cons h1, h2]
def rvV (l : List UInt8) : Value := .tuple #[.int .u64 (rvN l : Int), .int .i64 (rvK l : Int), .bool (rvOK l)]
theorem rvV_some {l : List UInt8} {n k : Nat} (h : getV l = some (n, k)) : rvV l = .tuple #[.int .u64 (n : Int), .int .i64 (k : Int), .bool true] := by
  obtain ⟨e1, e2, e3⟩ := rv_eq_some h; simp only [rvV, e1, e2, e3]
theorem rvV_none {l : List UInt8} (h : getV l = none) : rvV l = .tuple #[.int .u64 0, .int .i64 0, .bool false] := by
  obtain ⟨e1, e2, e3⟩ := rv_eq_none h; simp only [rvV, e1, e2, e3]; rfl
/-- Where ten groups were read, no more can be. -/
theorem rv_ten {s : List UInt8} {n k : Nat} (hk : 10 ≤ k) (hn : (hi n).length = k) : rv s n k = none := by
  have : 144115188075855872 ≤ n := by
    rcases Nat.lt_or_ge n 144115188075855872 with h | h
    · have := hi_length (k := 9) (n := n) (by omega); omega
    · exact h
  cases s with
  | nil => rfl
  | cons c s => simp only [rv]; rw [if_pos (.inr this)]
theorem len_step {n k c : Nat} (hc : 128 ≤ c) (hc2 : c < 256) (i3 : (hi n).length = k) (hp : ¬(k = 0 ∧ c = 128)) : (hi (n * 128 + c % 128)).length = k + 1 := by
  rw [hi_step (by omega), List.length_append, i3]; rfl
  by_cases q : n = 0
  · subst q; rw [hi_zero] at i3; simp at i3; right; omega
  · exact .inl q
theorem more_zero {c : Nat} (h : (if c < 128 then 0 else 128 : Nat) = 0) : c < 128 := by
  by_cases q : c < 128
  · exact q
  · rw [if_neg q] at h; simp at h
theorem more_ne {c : Nat} (h : (if c < 128 then 0 else 128 : Nat) ≠ 0) : 128 ≤ c := by
  by_cases q : c < 128
  · rw [if_pos q] at h; simp at h
  · omega
theorem num_ReadV_ran {h : H} (W : Mem h h [] []) {l : List UInt8} (hl : l.length < 9223372036854775808) : Cll tab0 97 [.string (bs l)] h (fun v h2 => v = rvV l ∧ Mem h h2 [] []) := by
  refine Cll.code rfl rfl ?_
  refine WC.env [(0, _)] rfl ?_
  refine WC.seq ?_
  refine WC.run ?_
  refine WS.op rfl rfl (WS.op rfl rfl (WS.op rfl rfl (WS.nil [(0, _), (2, _), (3, _)] rfl ?_)))
  refine WC.seq ?_
  refine WC.block ?_
  obtain ⟨L1, eL3, M2⟩ := Mem.name W.bare
  refine WC.loop (σ := Nat × Nat) (fun ((n, k)) => [(0, (.string (bs l))), (2, (.int .u64 ((n : Nat) : Int))), (3, (.int .i64 ((k : Nat) : Int)))]) (fun ((n, k)) hh => Mem h hh (L1) [] ∧ getV l = rv (l.drop k) n k ∧ k ≤ l.length ∧ (hi n).length = k ∧ n < 18446744073709551616) (fun ((n, k)) => l.length - k) (0, 0) rfl ⟨M2, ?_⟩ ?_
  · exact ⟨rfl, by omega, by rw [hi_zero]; rfl, by omega⟩
  · rintro ⟨n, k⟩ h4 ⟨M5, ⟨i1, i2, i3, i4⟩⟩
    subst eL3
    refine WC.env [(0, _), (2, _), (3, _)] rfl ?_
    refine WC.seq ?_
    refine WC.seq ?_
    refine WC.run ?_
    refine WS.op rfl rfl (WS.op rfl rfl (WS.op rfl (op_lenS (l := l) rfl) ?_))
    refine WS.lssN (a := k) (b := (l).length) rfl rfl rfl (fun e9 => ?_) (fun e9 => ?_)
    · skip
      refine WS.op rfl rfl (WS.op rfl rfl ?_)
      refine WS.lssN (a := k) (b := 10) rfl rfl rfl (fun e12 => ?_) (fun e12 => ?_)
      · skip
        refine WS.op rfl rfl (WS.nil [(0, _), (2, _), (3, _), (13, _)] rfl ?_)
        refine WC.condT rfl ?_
        refine WC.skip ?_
        refine WC.block ?_
        refine WC.seq ?_
        refine WC.run ?_
        refine WS.op rfl rfl (WS.op rfl rfl ?_)
        obtain ⟨c, hc⟩ : ∃ c, l[k]? = some c := ⟨_, List.getElem?_eq_getElem (show k < l.length by omega)⟩
        have hcl := c.toNat_lt
        rw [drop_cons hc] at i1
        simp only [rv] at i1
        refine WS.op rfl (op_ixS k rfl rfl hc) (WS.op rfl rfl (WS.nil [(0, _), (2, _), (3, _), (5, _)] rfl ?_))
        refine WC.seq ?_
        refine WC.seq ?_
        obtain ⟨L6, eL8, M7⟩ := Mem.name M5.bare
        refine WC.joinB (base := h) (fun b => [(0, (.string (bs l))), (2, (.int .u64 ((n : Nat) : Int))), (3, (.int .i64 ((k : Nat) : Int))), (5, (.int .u8 (((c).toNat : Nat) : Int))), (27, .bool b)]) L6 (getV l = none) (¬(k = 0 ∧ c.toNat = 128) ∧ n < 144115188075855872) ?_ ?_ ?_
        · subst eL8
          refine WS.op rfl rfl ?_
          refine WS.eqlN (a := k) (b := 0) rfl rfl rfl (fun e18 => ?_) (fun e18 => ?_)
          · skip
            refine WS.op rfl rfl (WS.op rfl rfl ?_)
            refine WS.eqlN (a := (c).toNat) (b := 128) rfl rfl rfl (fun e21 => ?_) (fun e21 => ?_)
            · skip
              refine WS.op rfl rfl (WS.op rfl rfl (WS.off rfl (WS.off rfl (WS.off rfl (WS.op rfl rfl ?_)))))
              refine WS.nil' ⟨true, rfl, (M7.bare.take 0), fun _ => ?_, fun hh => ?_⟩
              · rw [i1, if_pos (by omega)]
              · cases hh
            · skip
              refine WS.op rfl rfl (WS.op rfl rfl (WS.op rfl rfl (WS.opV (.int .u64 ((n / 144115188075855872 : Nat) : Int)) rfl rfl (shr57 n) ?_)))
              refine WS.gtrN (a := (n / 144115188075855872)) (b := 0) rfl rfl rfl (fun e26 => ?_) (fun e26 => ?_)
              · skip
                refine WS.op rfl rfl ?_
                refine WS.nil' ⟨true, rfl, (M7.bare.take 0), fun _ => ?_, fun hh => ?_⟩
                · rw [i1, if_pos (by omega)]
                · cases hh
              · skip
                refine WS.op rfl rfl ?_
                refine WS.nil' ⟨false, rfl, (M7.bare.take 0), fun hh => ?_, fun _ => ?_⟩
                · cases hh
                · omega
          · skip
            refine WS.op rfl rfl (WS.off rfl (WS.off rfl (WS.op rfl rfl (WS.op rfl rfl (WS.op rfl rfl (WS.opV (.int .u64 ((n / 144115188075855872 : Nat) : Int)) rfl rfl (shr57 n) ?_))))))
            refine WS.gtrN (a := (n / 144115188075855872)) (b := 0) rfl rfl rfl (fun e26 => ?_) (fun e26 => ?_)
            · skip
              refine WS.op rfl rfl ?_
              refine WS.nil' ⟨true, rfl, (M7.bare.take 0), fun _ => ?_, fun hh => ?_⟩
              · rw [i1, if_pos (by omega)]
              · cases hh
            · skip
              refine WS.op rfl rfl ?_
              refine WS.nil' ⟨false, rfl, (M7.bare.take 0), fun hh => ?_, fun _ => ?_⟩
              · cases hh
              · omega
        · intro h9 M10 hp27
          subst eL8
          refine WC.condT rfl ?_
          refine WC.exit ?_
          refine WC.seq ?_
          refine WC.run ?_
          refine WS.op rfl rfl (WS.op rfl rfl (WS.op rfl rfl (WS.nil [(2, _), (3, _), (4, _)] rfl ?_)))
          refine WC.ret ?_
          refine ⟨[_, _, _], (res_tmp rfl (res_tmp rfl (res_tmp rfl res_nil))), ?_⟩
          exact ⟨by rw [rvV_none hp27]; rfl, M10.bare.take 0⟩
        · intro h11 M12 hp27
          subst eL8
          refine WC.condF rfl ?_
          refine WC.skip ?_
          refine WC.seq ?_
          refine WC.run ?_
          refine WS.op rfl rfl (WS.opV (.int .u64 ((n * 128 : Nat) : Int)) rfl rfl (shl7 (by omega)) (WS.op rfl rfl (WS.opV (.int .u8 ((c.toNat % 128 : Nat) : Int)) rfl rfl (low_u8 c) (WS.opV (.int .u64 (((c.toNat % 128) : Nat) : Int)) rfl rfl (cv_u64 (n := (c.toNat % 128)) (by omega)) (WS.opV (.int .u64 ((n * 128 + c.toNat % 128 : Nat) : Int)) rfl rfl (or7 (by omega) (by omega)) (WS.op rfl rfl (WS.nil [(0, _), (2, _), (3, _), (5, _)] rfl ?_)))))))
          refine WC.seq ?_
          refine WC.run ?_
          refine WS.op rfl rfl (WS.opV (.int .i64 (((k + 1) : Nat) : Int)) rfl rfl (add_i64 (a := k) (b := 1) (by omega)) (WS.op rfl rfl (WS.nil [(0, _), (2, _), (3, _), (5, _)] rfl ?_)))
          refine WC.seq ?_
          refine WC.run ?_
          refine WS.op rfl rfl (WS.opV (.int .u8 ((if c.toNat < 128 then 0 else 128 : Nat) : Int)) rfl rfl (more_u8 c) ?_)
          refine WS.eqlN (a := (if c.toNat < 128 then 0 else 128)) (b := 0) rfl rfl rfl (fun e38 => ?_) (fun e38 => ?_)
          · skip
            refine WS.nil [(0, _), (2, _), (3, _), (38, _)] rfl ?_
            refine WC.condT rfl ?_
            refine WC.seq ?_
            refine WC.run ?_
            refine WS.op rfl rfl (WS.op rfl rfl (WS.op rfl rfl (WS.op rfl rfl (WS.op rfl rfl (WS.nil [(2, _), (3, _), (4, _)] rfl ?_)))))
            refine WC.ret ?_
            refine ⟨[_, _, _], (res_tmp rfl (res_tmp rfl (res_tmp rfl res_nil))), ?_⟩
            have hm := more_zero e38
            exact ⟨by rw [rvV_some (n := n * 128 + c.toNat % 128) (k := k + 1) (by rw [i1, if_neg (by omega), if_pos hm, Nat.mod_eq_of_lt hm])]; rfl, M12.bare.take 0⟩
          · skip
            refine WS.nil [(0, _), (2, _), (3, _), (38, _)] rfl ?_
            refine WC.condF rfl ?_
            refine WC.skip ?_
            refine ⟨(n * 128 + c.toNat % 128, k + 1), rfl, ⟨(M12.bare.take 0), ?_⟩, ?_⟩
            · have hm := more_ne e38; exact ⟨by rw [i1, if_neg (by omega), if_neg (by omega), show c.toNat % 128 = c.toNat - 128 by omega], by omega, len_step hm hcl i3 hp27.1, by omega⟩
            · simp only []; omega
      · skip
        refine WS.op rfl rfl (WS.nil [(0, _), (2, _), (3, _), (13, _)] rfl ?_)
        refine WC.condF rfl ?_
        refine WC.exit ?_
        refine WC.seq ?_
        refine WC.run ?_
        refine WS.op rfl rfl (WS.op rfl rfl (WS.op rfl rfl (WS.nil [(2, _), (3, _), (4, _)] rfl ?_)))
        refine WC.ret ?_
        refine ⟨[_, _, _], (res_tmp rfl (res_tmp rfl (res_tmp rfl res_nil))), ?_⟩
        exact ⟨by rw [rvV_none (i1.trans (rv_ten (by omega) i3))]; rfl, M5.bare.take 0⟩
    · skip
      refine WS.op rfl rfl (WS.off rfl (WS.off rfl (WS.op rfl rfl (WS.nil [(0, _), (2, _), (3, _), (13, _)] rfl ?_))))
      refine WC.condF rfl ?_
      refine WC.exit ?_
      refine WC.seq ?_
      refine WC.run ?_
      refine WS.op rfl rfl (WS.op rfl rfl (WS.op rfl rfl (WS.nil [(2, _), (3, _), (4, _)] rfl ?_)))
      refine WC.ret ?_
      refine ⟨[_, _, _], (res_tmp rfl (res_tmp rfl (res_tmp rfl res_nil))), ?_⟩
      exact ⟨by rw [rvV_none (by rw [i1, List.drop_of_length_le (by omega)]; rfl)]; rfl, M5.bare.take 0⟩
theorem low_u64 {n : Nat} (h : n < 18446744073709551616) : Value.int .u64 (IntKind.u64.wrap ((BitVec.ofInt IntKind.u64.bits (n : Int) &&& BitVec.ofInt IntKind.u64.bits 127).toNat : Nat)) = .int .u64 ((n % 128 : Nat) : Int) := by
  have := bv64 n 127 h (by omega)
  rw [and127] at this; rw [← this]; rfl
theorem or_all : ∀ a : Fin 128, a.val ||| 128 = 128 + a.val := by decide +kernel
theorem or128 {r : Nat} (h : r < 128) : Value.int .u8 (IntKind.u8.wrap ((BitVec.ofInt IntKind.u8.bits ((UInt8.ofNat r).toNat : Int) ||| BitVec.ofInt IntKind.u8.bits 128).toNat : Nat)) = .int .u8 ((UInt8.ofNat (128 + r)).toNat : Int) := by
  rw [toNat_ofNat (by omega), toNat_ofNat (by omega)]
  congr 1
  have e1 : ((r : Int) % ((2 ^ 8 : Nat) : Int)).toNat = r := by omega
  have key : (BitVec.ofInt 8 (r : Int) ||| BitVec.ofInt 8 128).toNat = r ||| 128 := by simp only [BitVec.toNat_or, BitVec.toNat_ofInt]; rw [e1]; rfl
  have h2 := or_all ⟨r, h⟩
  simp only at h2
  show IntKind.u8.wrap ((BitVec.ofInt 8 (r : Int) ||| BitVec.ofInt 8 128).toNat : Int) = _
  rw [key, h2, IntKind.wrap_u8]; omega
theorem op_iaA1 {e : Env} {h : H} {x y : Operand} {p n : Nat} {k : IntKind} (j : Nat) (hx : ev e x = some (.pointer (some ⟨p, 0, none⟩))) (hy : ev e y = some (.int k (j : Int))) (hj : j < n) : opE (.iaA n 1 x y) e h none = some (.pointer (some ⟨p, j, none⟩), h) := by
  simp only [opE, hx, hy]; rw [if_pos ⟨by omega, by omega⟩]; simp
def u8v (b : UInt8) : Value := .int .u8 ((b.toNat : Nat) : Int)
def arr (a : Nat) (t : List UInt8) : List Value := List.replicate a (.int .u8 0) ++ t.map u8v
theorem arr_len (a : Nat) (t : List UInt8) : (arr a t).length = a + t.length := by simp [arr]
theorem arr_set {a : Nat} {t : List UInt8} (c : UInt8) (h : 0 < a) : splice (arr a t) (a - 1) [u8v c] = arr (a - 1) (c :: t) := by
  obtain ⟨b, rfl⟩ : ∃ b, a = b + 1 := ⟨a - 1, by omega⟩
  simp only [splice, arr, Nat.add_sub_cancel, List.length_singleton]
  rw [List.take_append_of_le_length (by simp), List.drop_append_of_le_length (by simp), List.take_replicate, List.drop_replicate]
  simp
theorem src_arr {h : H} {p a n c : Nat} {t : List UInt8} (hb : h.get p = some ⟨arr a t, 0, false⟩) (hn : n = t.length) : KU8.Src h (.slice (some ⟨p, 0 + a * 1, none⟩) n c) t := by
  subst hn
  refine ⟨rfl, ?_⟩
  simp only [srcCells]
  rw [lds_at hb (by rw [arr_len]; show 0 + a * 1 + t.length * 1 ≤ a + t.length; omega)]
  rw [KU8_flat, Nat.zero_add, Nat.mul_one]
  simp only [arr]
  rw [List.drop_left' (by simp), List.take_of_length_le (by simp; show t.length ≤ t.length * 1; omega)]; rfl
theorem flatMap_take_succ {α β : Type} {l : List α} {i : Nat} {y : α} (f : α → List β) (h : l[i]? = some y) : (l.take (i + 1)).flatMap f = (l.take i).flatMap f ++ f y := by
  rw [List.take_add_one, h]; simp
theorem flatMap_take_all {α β : Type} {l : List α} {i : Nat} (f : α → List β) (h : l.length ≤ i) : (l.take i).flatMap f = l.flatMap f := by rw [List.take_of_length_le h]
theorem flatMap_take_le {α β : Type} (l : List α) (i : Nat) (f : α → List β) : ((l.take i).flatMap f).length ≤ (l.flatMap f).length := by
  conv => rhs; rw [← List.take_append_drop i l, List.flatMap_append, List.length_append]
  omega
theorem flatMap_vb_len : ∀ (ns : List Nat), (∀ n ∈ ns, n < 18446744073709551616) → (ns.flatMap vb).length ≤ 10 * ns.length := by
  intro ns
  induction ns with
  | nil => intro _; simp
  | cons n ns ih =>
    intro h
    have h1 := vb_len (h n (by simp))
    have h2 := ih fun m hm => h m (by simp [hm])
    simp only [List.flatMap_cons, List.length_append, List.length_cons]; omega
theorem flatMap_sb_len : ∀ (ss : List (List UInt8)), (ss.map List.length).sum + 10 * ss.length ≤ 1099511627776 → (ss.flatMap sb).length ≤ (ss.map List.length).sum + 10 * ss.length := by
  intro ss
  induction ss with
  | nil => intro _; simp
  | cons t ss ih =>
    intro h
    simp only [List.flatMap_cons, List.length_append, List.length_cons, List.map_cons, List.sum_cons] at h ⊢
    have h1 := sb_len (t := t) (by omega)
    have h2 := ih (by omega)
    omega
theorem mem_get {α : Type} {l : List α} {i : Nat} {y : α} (h : l[i]? = some y) : y ∈ l := List.mem_of_getElem? h
set_option maxRecDepth 4000 in
theorem num_V_ran {h : H} (W : Mem h h [] []) {V0 : Value} {ns : List Nat} (A : KNat.Sl h V0 ns) (hn : ∀ n ∈ ns, n < 18446744073709551616) (hl3 : ns.length ≤ 1000000) {r : List UInt8} (hr : ns.flatMap vb = r) : Cll tab0 90 [V0] h (fun v h2 => v = .string (bs r) ∧ Mem h h2 [] []) := by
  have hl := flatMap_vb_len ns hn
  refine Cll.code rfl rfl ?_
  refine WC.env [(0, _)] rfl ?_
  refine WC.seq ?_
  refine WC.run ?_
  refine WS.op rfl rfl (WS.nil [(0, _)] rfl ?_)
  refine WC.seq ?_
  refine WC.run ?_
  refine WS.op rfl rfl (WS.nil [(0, _), (3, _)] rfl ?_)
  refine WC.seq ?_
  refine WC.seq ?_
  refine WC.run ?_
  refine WS.op rfl rfl (WS.op rfl (op_lenVS A rfl) (WS.op rfl rfl (WS.nil [(3, _), (8, _), (9, _), (10, _)] rfl ?_)))
  refine WC.block ?_
  obtain ⟨L1, eL3, M2⟩ := Mem.name1 ((W.bare).nils)
  refine WC.loop (σ := Value × Seg × Nat) (fun ((out, S, i)) => [(3, out), (8, V0), (9, (.int .i64 (((ns).length : Nat) : Int))), (10, (.int .i64 ((i : Nat) : Int)))]) (fun ((out, S, i)) hh => Mem h hh (S :: L1) [] ∧ KU8.Own out ((ns.take i).flatMap vb) S ∧ i ≤ ns.length) (fun ((out, S, i)) => ns.length - i) (.slice none 0 0, [], 0) rfl ⟨M2, ?_⟩ ?_
  · exact ⟨.nil, by omega⟩
  · rintro ⟨out, S, i⟩ h4 ⟨M5, ⟨hO, hi1⟩⟩
    subst eL3
    refine WC.env [(3, _), (8, _), (9, _), (10, _)] rfl ?_
    refine WC.seq ?_
    refine WC.run ?_
    refine WS.lssN (a := i) (b := (ns).length) rfl rfl rfl (fun e11 => ?_) (fun e11 => ?_)
    · skip
      refine WS.nil [(3, _), (8, _), (9, _), (10, _), (11, _)] rfl ?_
      refine WC.seq ?_
      refine WC.condT rfl ?_
      refine WC.skip ?_
      refine WC.seq ?_
      refine WC.block ?_
      refine WC.seq ?_
      refine WC.run ?_
      obtain ⟨x, hy⟩ : ∃ x, ns[i]? = some x := ⟨_, List.getElem?_eq_getElem (show i < ns.length by omega)⟩
      have hx64 := hn x (mem_get hy)
      have hfs := flatMap_take_succ vb hy
      have hfl := flatMap_take_le ns (i + 1) vb
      have hvl := vb_len hx64
      refine WS.iaVS A i hy rfl rfl rfl rfl ?_
      intro bx ox hx
      refine WS.op rfl (op_ldH rfl (At.ld0 (hx.mono M5.sub) rfl)) (WS.op rfl rfl (WS.nil [(3, _), (5, _), (8, _), (9, _), (10, _)] rfl ?_))
      refine WC.seq ?_
      refine WC.run ?_
      refine WS.new M5 rfl ?_
      intro p6 h7 M8
      refine WS.nil [(3, _), (5, _), (6, _), (8, _), (9, _), (10, _)] rfl ?_
      refine WC.seq ?_
      refine WC.run ?_
      refine WS.op rfl rfl (WS.nil [(3, _), (5, _), (6, _), (7, _), (8, _), (9, _), (10, _)] rfl ?_)
      refine WC.seq ?_
      refine WC.run ?_
      refine WS.op rfl rfl (WS.op rfl rfl (WS.opV (.int .u64 ((x % 128 : Nat) : Int)) rfl rfl (low_u64 hx64) (WS.opV (.int .u8 ((UInt8.ofNat (x % 128)).toNat : Int)) rfl rfl u8_ofNat (WS.op rfl rfl ?_))))
      refine WS.st1 (M8.focus 0 rfl) [_] [_, _, _, _, _, _, _, _, _, _] rfl rfl rfl rfl rfl (Nat.le_of_ble_eq_true rfl) (Nat.le_of_ble_eq_true rfl) rfl rfl ?_
      intro h9 M10
      replace M10 : Mem _ _ ([(p6, _)] :: S :: []) _ := M10
      refine WS.nil [(3, _), (5, _), (6, _), (7, _), (8, _), (9, _), (10, _)] rfl ?_
      refine WC.seq ?_
      refine WC.seq ?_
      refine WC.run ?_
      refine WS.op rfl rfl (WS.opV (.int .u64 ((x / 128 : Nat) : Int)) rfl rfl (shr7 x) (WS.op rfl rfl (WS.nil [(3, _), (5, _), (6, _), (7, _), (8, _), (9, _), (10, _)] rfl ?_)))
      refine WC.block ?_
      obtain ⟨L11, eL13, M12⟩ := Mem.name1 (M10.bare.focus 0 rfl)
      refine WC.loop (σ := Nat × Nat × List UInt8) (fun ((n, a, t)) => [(3, out), (5, (.int .u64 ((n : Nat) : Int))), (6, (.pointer (some ⟨p6, 0, none⟩))), (7, (.int .i64 ((a : Nat) : Int))), (8, V0), (9, (.int .i64 (((ns).length : Nat) : Int))), (10, (.int .i64 ((i : Nat) : Int)))]) (fun ((n, a, t)) hh => Mem h hh ([(p6, ⟨arr a t, 0, false⟩)] :: L11) [] ∧ vb x = hi n ++ t ∧ a + t.length = 10 ∧ (hi n).length ≤ a ∧ n < 18446744073709551616) (fun ((n, a, t)) => n) (x / 128, 9, [UInt8.ofNat (x % 128)]) rfl ⟨(by exact M12), ?_⟩ ?_
      · exact ⟨rfl, by simp, hi_length (k := 9) (by omega), by omega⟩
      · rintro ⟨n, a, t⟩ h14 ⟨M15, ⟨he, ht, hh, hn64⟩⟩
        subst eL13
        refine WC.env [(3, _), (5, _), (6, _), (7, _), (8, _), (9, _), (10, _)] rfl ?_
        refine WC.seq ?_
        refine WC.seq ?_
        refine WC.run ?_
        refine WS.op rfl rfl ?_
        refine WS.gtrN (a := n) (b := 0) rfl rfl rfl (fun e22 => ?_) (fun e22 => ?_)
        · skip
          refine WS.nil [(3, _), (5, _), (6, _), (7, _), (8, _), (9, _), (10, _), (22, _)] rfl ?_
          refine WC.condT rfl ?_
          refine WC.skip ?_
          refine WC.seq ?_
          refine WC.block ?_
          refine WC.seq ?_
          refine WC.run ?_
          have hpos : 1 ≤ a := by rw [hi_pos (by omega)] at hh; simp at hh; omega
          refine WS.op rfl rfl (WS.opV (.int .i64 (((a - 1) : Nat) : Int)) rfl rfl (sub_i64 (a := a) (b := 1) (by omega)) (WS.op rfl rfl (WS.nil [(3, _), (5, _), (6, _), (7, _), (8, _), (9, _), (10, _)] rfl ?_)))
          refine WC.run ?_
          refine WS.op rfl rfl (WS.op rfl rfl (WS.opV (.int .u64 ((n % 128 : Nat) : Int)) rfl rfl (low_u64 (by omega)) (WS.opV (.int .u8 ((UInt8.ofNat (n % 128)).toNat : Int)) rfl rfl u8_ofNat (WS.opV (.int .u8 ((UInt8.ofNat (128 + n % 128)).toNat : Int)) rfl rfl (or128 (by omega)) (WS.op rfl (op_iaA1 (a - 1) rfl rfl (by omega)) ?_)))))
          refine WS.st1 (M15.focus 0 rfl) [_] (arr (a - 1) (UInt8.ofNat (128 + n % 128) :: t)) rfl rfl rfl rfl rfl (Nat.le_of_ble_eq_true rfl) (by simp only [arr_len, List.length_singleton]; omega) rfl (by rw [← arr_set _ (by omega)]; rfl) ?_
          intro h16 M17
          refine WS.nil [(3, _), (5, _), (6, _), (7, _), (8, _), (9, _), (10, _)] rfl ?_
          refine WC.run ?_
          refine WS.op rfl rfl (WS.opV (.int .u64 ((n / 128 : Nat) : Int)) rfl rfl (shr7 n) (WS.op rfl rfl (WS.nil [(3, _), (5, _), (6, _), (7, _), (8, _), (9, _), (10, _)] rfl ?_)))
          refine ⟨(n / 128, a - 1, UInt8.ofNat (128 + n % 128) :: t), rfl, ⟨(((M17.bare.focus 1 rfl).focus 1 rfl).take 2), ?_⟩, ?_⟩
          · exact ⟨by rw [he, hi_pos (by omega)]; simp, by simp; omega, by rw [hi_pos (by omega)] at hh; simp at hh; omega, by omega⟩
          · simp only []; omega
        · skip
          refine WS.nil [(3, _), (5, _), (6, _), (7, _), (8, _), (9, _), (10, _), (22, _)] rfl ?_
          refine WC.condF rfl ?_
          refine WC.exit ?_
          refine WC.run ?_
          have hnil : n = 0 := by omega
          have htl : t.length = (vb x).length := by rw [he, hnil, hi_zero]; rfl
          have hfs2 := congrArg List.length hfs
          rw [List.length_append] at hfs2
          refine WS.op rfl rfl (WS.op rfl rfl (WS.op rfl (op_slA0 a rfl rfl (by omega)) ?_))
          refine WS.app (l := (ns.take i).flatMap vb) (m := t) (hO) (M15.focus 1 rfl) (src_arr (M15.at 0 rfl) (by omega)) rfl (by omega) (by omega) rfl rfl rfl ?_
          intro V18 S19 h20 O21 M22
          replace O21 : Row.Own KU8 V18 ((ns.take (i + 1)).flatMap vb) S19 := by rw [hfs, he, hnil, hi_zero]; exact O21
          obtain ⟨P23, rfl⟩ := Row.Own.shape O21
          refine WS.op rfl rfl (WS.nil [(3, _), (8, _), (9, _), (10, _)] rfl ?_)
          refine WC.run ?_
          refine WS.opV (.int .i64 (((i + 1) : Nat) : Int)) rfl rfl (add_i64 (a := i) (b := 1) (by omega)) (WS.op rfl rfl (WS.nil [(3, _), (8, _), (9, _), (10, _)] rfl ?_))
          refine ⟨((.slice P23 ((ns.take (i + 1)).flatMap vb).length (2 * ((ns.take (i + 1)).flatMap vb).length)), S19, i + 1), rfl, ⟨((M22.bare.focus 0 rfl).take 1), ?_⟩, ?_⟩
          · exact ⟨by assumption, by omega⟩
          · simp only [] at *; omega
    · skip
      refine WS.nil [(3, _), (8, _), (9, _), (10, _), (11, _)] rfl ?_
      refine WC.seq ?_
      refine WC.condF rfl ?_
      refine WC.exit ?_
      refine WC.seq ?_
      refine WC.run ?_
      refine WS.op rfl rfl (WS.op rfl (op_cvBO hO (Mem.owni M5 0 rfl) rfl) (WS.op rfl rfl (WS.nil [(2, _)] rfl ?_)))
      refine WC.ret ?_
      refine ⟨[_], (res_tmp rfl res_nil), ?_⟩
      exact ⟨by rw [← hr, ← flatMap_take_all (l := ns) (i := i) vb (by omega)]; rfl, M5.bare.take 0⟩
theorem flatMap_part {α β : Type} {l : List α} {i : Nat} {y : α} (f : α → List β) (h : l[i]? = some y) : ((l.take i).flatMap f).length + (f y).length ≤ (l.flatMap f).length := by
  have := flatMap_take_le l (i + 1) f
  rw [flatMap_take_succ f h, List.length_append] at this; exact this
set_option maxRecDepth 4000 in
theorem num_S_ran {h : H} (W : Mem h h [] []) {V0 : Value} {ss : List (List UInt8)} (A : KStr.Sl h V0 ss) (hl3 : (ss.map List.length).sum + 10 * ss.length ≤ 1099511627776) {r : List UInt8} (hr : ss.flatMap sb = r) : Cll tab0 91 [V0] h (fun v h2 => v = .string (bs r) ∧ Mem h h2 [] []) := by
  have hl := flatMap_sb_len ss hl3
  refine Cll.code rfl rfl ?_
  refine WC.env [(0, _)] rfl ?_
  refine WC.seq ?_
  refine WC.run ?_
  refine WS.op rfl rfl (WS.nil [(0, _)] rfl ?_)
  refine WC.seq ?_
  refine WC.run ?_
  refine WS.op rfl rfl (WS.nil [(0, _), (3, _)] rfl ?_)
  refine WC.seq ?_
  refine WC.seq ?_
  refine WC.run ?_
  refine WS.op rfl rfl (WS.op rfl (op_lenVS A rfl) (WS.op rfl rfl (WS.nil [(3, _), (6, _), (7, _), (8, _)] rfl ?_)))
  refine WC.block ?_
  obtain ⟨L1, eL3, M2⟩ := Mem.name W.bare
  refine WC.loop (σ := List UInt8 × Nat) (fun ((out, i)) => [(3, (.string (bs out))), (6, V0), (7, (.int .i64 (((ss).length : Nat) : Int))), (8, (.int .i64 ((i : Nat) : Int)))]) (fun ((out, i)) hh => Mem h hh (L1) [] ∧ out = (ss.take i).flatMap sb ∧ i ≤ ss.length) (fun ((out, i)) => ss.length - i) ([], 0) rfl ⟨M2, ?_⟩ ?_
  · exact ⟨rfl, by omega⟩
  · rintro ⟨out, i⟩ h4 ⟨M5, ⟨hO, hi1⟩⟩
    subst eL3
    refine WC.env [(3, _), (6, _), (7, _), (8, _)] rfl ?_
    refine WC.seq ?_
    refine WC.run ?_
    refine WS.lssN (a := i) (b := (ss).length) rfl rfl rfl (fun e9 => ?_) (fun e9 => ?_)
    · skip
      refine WS.nil [(3, _), (6, _), (7, _), (8, _), (9, _)] rfl ?_
      refine WC.seq ?_
      refine WC.condT rfl ?_
      refine WC.skip ?_
      refine WC.seq ?_
      refine WC.block ?_
      refine WC.seq ?_
      refine WC.run ?_
      obtain ⟨x, hy⟩ : ∃ x, ss[i]? = some x := ⟨_, List.getElem?_eq_getElem (show i < ss.length by omega)⟩
      have hfp := flatMap_part sb hy
      have hsl : (sb x).length = (vb x.length).length + x.length := by simp [sb]
      refine WS.iaVS A i hy rfl rfl rfl rfl ?_
      intro bx ox hx
      refine WS.op rfl (op_ldH rfl (At.ld0 (hx.mono M5.sub) rfl)) (WS.op rfl rfl (WS.nil [(3, _), (5, _), (6, _), (7, _), (8, _)] rfl ?_))
      refine WC.run ?_
      refine WS.op rfl rfl (WS.op rfl rfl (WS.op rfl (op_lenS (l := x) rfl) (WS.opV (.int .u64 (((x).length : Nat) : Int)) rfl rfl (cv_u64 (n := (x).length) (by omega)) ?_)))
      refine WS.bsl M5 [_] rfl rfl rfl rfl ?_
      intro p6 h7 M8
      refine WS.call rfl rfl rfl (num_V_ran M8.here (Row.Sl.own (K := KNat) (l := [(x).length]) (M8.at 0 rfl)) (by intro n hn; simp only [List.mem_cons, List.mem_nil_iff, or_false] at hn; omega) (by simp) (r := (vb ((x).length))) (by simp [List.flatMap])) ?_
      rintro _ h9 ⟨rfl, N10⟩
      have M11 := M8.trans N10
      refine WS.op rfl rfl (WS.op rfl (op_sadd (l := (vb ((x).length))) (m := x) rfl rfl (by have := congrArg List.length hO; (try simp only [List.length_append]); omega)) (WS.op rfl (op_sadd (l := out) (m := ((vb ((x).length)) ++ x)) rfl rfl (by have := congrArg List.length hO; (try simp only [List.length_append]); omega)) (WS.op rfl rfl (WS.nil [(3, _), (6, _), (7, _), (8, _)] rfl ?_))))
      refine WC.run ?_
      refine WS.opV (.int .i64 (((i + 1) : Nat) : Int)) rfl rfl (add_i64 (a := i) (b := 1) (by omega)) (WS.op rfl rfl (WS.nil [(3, _), (6, _), (7, _), (8, _)] rfl ?_))
      refine ⟨(out ++ (vb x.length ++ x), i + 1), rfl, ⟨(M11.bare.take 0), ?_⟩, ?_⟩
      · exact ⟨by rw [hO, flatMap_take_succ sb hy]; rfl, by omega⟩
      · simp only [] at *; omega
    · skip
      refine WS.nil [(3, _), (6, _), (7, _), (8, _), (9, _)] rfl ?_
      refine WC.seq ?_
      refine WC.condF rfl ?_
      refine WC.exit ?_
      refine WC.seq ?_
      refine WC.run ?_
      refine WS.op rfl rfl (WS.op rfl rfl (WS.nil [(2, _)] rfl ?_))
      refine WC.ret ?_
      refine ⟨[_], (res_tmp rfl res_nil), ?_⟩
      exact ⟨by rw [← hr, hO, flatMap_take_all (l := ss) (i := i) sb (by omega)]; rfl, M5.bare.take 0⟩
def rsV (l : List UInt8) : Value := .tuple #[.string (bs (rsT l)), .int .i64 (rsK l : Int), .bool (rsOK l)]
theorem rsV_none {l : List UInt8} (h : getS l = none) : rsV l = .tuple #[.string (bs []), .int .i64 0, .bool false] := by
  obtain ⟨e1, e2, e3⟩ := rs_eq_none h; simp only [rsV, e1, e2, e3]; rfl
theorem rsV_some {l t : List UInt8} {k : Nat} (h : getS l = some (t, k)) : rsV l = .tuple #[.string (bs t), .int .i64 (k : Int), .bool true] := by
  obtain ⟨e1, e2, e3⟩ := rs_eq_some h; simp only [rsV, e1, e2, e3]
theorem getS_no {l : List UInt8} (h : rvOK l = false) : getS l = none := by
  unfold getS; rw [getV_eq, h]; rfl
theorem getS_far {l : List UInt8} (h : l.length - rvK l < rvN l) : getS l = none := by
  unfold getS; rw [getV_eq]; cases rvOK l
  · rfl
  · simp only [if_true]; rw [if_neg (by omega)]
theorem getS_yes {l : List UInt8} (h : rvOK l = true) (h2 : rvN l ≤ l.length - rvK l) : getS l = some ((l.take (rvK l + rvN l)).drop (rvK l), rvK l + rvN l) := by
  unfold getS; rw [getV_eq, h]; simp only [if_true]; rw [if_pos h2, List.drop_take, Nat.add_sub_cancel_left]
theorem num_ReadS_ran {h : H} (W : Mem h h [] []) {l : List UInt8} (hl : l.length < 9223372036854775808) : Cll tab0 98 [.string (bs l)] h (fun v h2 => v = rsV l ∧ Mem h h2 [] []) := by
  have hk := rvK_le l
  have hn64 := rvN_lt l
  refine Cll.code rfl rfl ?_
  refine WC.env [(0, _)] rfl ?_
  refine WC.seq ?_
  refine WC.run ?_
  refine WS.op rfl rfl (WS.op rfl rfl (WS.op rfl rfl (WS.nil [(0, _)] rfl ?_)))
  refine WC.seq ?_
  refine WC.run ?_
  refine WS.op rfl rfl ?_
  refine WS.call rfl rfl rfl (num_ReadV_ran W.here (l := l) (by first | omega | (simp only [List.length_drop, List.length_take, List.length_append, List.length_cons, List.length_nil, List.length_singleton]; omega) | (simp only [List.length_drop, List.length_take, List.length_append, List.length_cons, List.length_nil, List.length_singleton] at *; omega))) ?_
  rintro _ h1 ⟨rfl, N2⟩
  have M3 := W.trans N2
  refine WS.op rfl rfl (WS.op rfl rfl (WS.op rfl rfl (WS.op rfl rfl (WS.op rfl rfl (WS.op rfl rfl (WS.op rfl rfl (WS.nil [(0, _), (4, _), (5, _), (6, _)] rfl ?_)))))))
  refine WC.seq ?_
  refine WC.seq ?_
  refine WC.run ?_
  refine WS.op rfl rfl ?_
  cases hb1 : (rvOK l)
  · skip
    refine WS.opV (.bool true) rfl rfl rfl (WS.op rfl rfl (WS.off rfl (WS.off rfl (WS.off rfl (WS.off rfl (WS.off rfl (WS.off rfl (WS.off rfl (WS.op rfl rfl ?_)))))))))
    refine WS.nil [(0, _), (5, _), (6, _), (23, _)] rfl ?_
    refine WC.condT rfl ?_
    refine WC.seq ?_
    refine WC.run ?_
    refine WS.op rfl rfl (WS.op rfl rfl (WS.op rfl rfl (WS.nil [(2, _), (3, _), (4, _)] rfl ?_)))
    refine WC.ret ?_
    refine ⟨[_, _, _], (res_tmp rfl (res_tmp rfl (res_tmp rfl res_nil))), ?_⟩
    exact ⟨by rw [rsV_none (getS_no hb1)]; rfl, M3.bare.take 0⟩
  · skip
    refine WS.opV (.bool false) rfl rfl rfl (WS.op rfl rfl (WS.op rfl rfl (WS.op rfl rfl (WS.op rfl (op_lenS (l := l) rfl) (WS.op rfl rfl (WS.opV (.int .i64 ((((l).length - (rvK l)) : Nat) : Int)) rfl rfl (sub_i64 (a := (l).length) (b := (rvK l)) (by have := rvK_le l; omega)) (WS.opV (.int .u64 ((((l).length - (rvK l)) : Nat) : Int)) rfl rfl (cv_u64 (n := ((l).length - (rvK l))) (by omega)) ?_)))))))
    refine WS.gtrN (a := (rvN l)) (b := ((l).length - (rvK l))) rfl rfl rfl (fun e22 => ?_) (fun e22 => ?_)
    · skip
      refine WS.op rfl rfl (WS.nil [(0, _), (5, _), (6, _), (23, _)] rfl ?_)
      refine WC.condT rfl ?_
      refine WC.seq ?_
      refine WC.run ?_
      refine WS.op rfl rfl (WS.op rfl rfl (WS.op rfl rfl (WS.nil [(2, _), (3, _), (4, _)] rfl ?_)))
      refine WC.ret ?_
      refine ⟨[_, _, _], (res_tmp rfl (res_tmp rfl (res_tmp rfl res_nil))), ?_⟩
      exact ⟨by rw [rsV_none (getS_far (by omega))]; rfl, M3.bare.take 0⟩
    · skip
      refine WS.op rfl rfl (WS.nil [(0, _), (5, _), (6, _), (23, _)] rfl ?_)
      refine WC.condF rfl ?_
      refine WC.skip ?_
      refine WC.seq ?_
      refine WC.run ?_
      refine WS.op rfl rfl (WS.op rfl rfl (WS.op rfl rfl (WS.op rfl rfl (WS.opV (.int .i64 (((rvN l) : Nat) : Int)) rfl rfl (cv_i64 (n := (rvN l)) (by have := rvN_lt l; omega)) (WS.opV (.int .i64 ((((rvK l) + (rvN l)) : Nat) : Int)) rfl rfl (add_i64 (a := (rvK l)) (b := (rvN l)) (by have := rvK_le l; have := rvN_lt l; omega)) (WS.op rfl (op_slS2 (l := l) (rvK l) ((rvK l) + (rvN l)) rfl rfl rfl (by first | omega | (simp only [List.length_drop, List.length_take, List.length_append, List.length_cons, List.length_nil, List.length_singleton]; omega) | (simp only [List.length_drop, List.length_take, List.length_append, List.length_cons, List.length_nil, List.length_singleton] at *; omega)) (by first | omega | (simp only [List.length_drop, List.length_take, List.length_append, List.length_cons, List.length_nil, List.length_singleton]; omega) | (simp only [List.length_drop, List.length_take, List.length_append, List.length_cons, List.length_nil, List.length_singleton] at *; omega))) (WS.op rfl rfl (WS.op rfl rfl (WS.opV (.int .i64 (((rvN l) : Nat) : Int)) rfl rfl (cv_i64 (n := (rvN l)) (by have := rvN_lt l; omega)) ?_)))))))))
      refine WS.opV (.int .i64 ((((rvK l) + (rvN l)) : Nat) : Int)) rfl rfl (add_i64 (a := (rvK l)) (b := (rvN l)) (by have := rvK_le l; have := rvN_lt l; omega)) (WS.op rfl rfl (WS.op rfl rfl (WS.op rfl rfl (WS.nil [(2, _), (3, _), (4, _)] rfl ?_))))
      refine WC.ret ?_
      refine ⟨[_, _, _], (res_tmp rfl (res_tmp rfl (res_tmp rfl res_nil))), ?_⟩
      exact ⟨by rw [rsV_some (getS_yes hb1 (by omega))]; rfl, M3.bare.take 0⟩
theorem one_eq {n m : Nat} {t : List UInt8} (h : (m ≤ 127 ∧ t = vb n) ∨ vb n = hi (m / 128) ++ t) (hm : 127 < m) : vb n = hi (m / 128) ++ t := by
  rcases h with h | h
  · omega
  · exact h
theorem one_end {n m : Nat} {t : List UInt8} (h : (m ≤ 127 ∧ t = vb n) ∨ vb n = hi (m / 128) ++ t) (hm : m ≤ 127) : vb n = t := by
  rcases h with h | h
  · exact h.2.symm
  · rw [show m / 128 = 0 by omega, hi_zero] at h; exact h
theorem step_one {n m : Nat} {t : List UInt8} (h : (m ≤ 127 ∧ t = vb n) ∨ vb n = hi (m / 128) ++ t) (hm : 127 < m) : (m / 128 ≤ 127 ∧ UInt8.ofNat (128 + m / 128 % 128) :: t = vb n) ∨ vb n = hi (m / 128 / 128) ++ UInt8.ofNat (128 + m / 128 % 128) :: t := by
  right
  rw [one_eq h hm, hi_pos (n := m / 128) (by omega)]; simp
/-! ### The reference's -/
theorem ref_One_ran {h : H} (W : Mem h h [] []) {n : Nat} (hn : n < 18446744073709551616) : Cll tab0 49 [.int .u64 (n : Int)] h (fun v h2 => v = .string (bs (vb n)) ∧ Mem h h2 [] []) := by
  have hv := vb_len hn
  refine Cll.code rfl rfl ?_
  refine WC.env [(0, _)] rfl ?_
  refine WC.seq ?_
  refine WC.run ?_
  refine WS.op rfl rfl (WS.nil [(0, _)] rfl ?_)
  refine WC.seq ?_
  refine WC.run ?_
  refine WS.op rfl rfl (WS.opV (.int .u64 (((n % 128) : Nat) : Int)) rfl rfl (rem_k (a := n) (b := 128)) (WS.opV (.int .u8 (((UInt8.ofNat (n % 128)).toNat : Nat) : Int)) rfl rfl (u8_ofNat (n := (n % 128))) ?_))
  refine WS.bsl W [_] rfl rfl rfl rfl ?_
  intro p1 h2 M3
  refine WS.op rfl (op_cvB (l := [UInt8.ofNat (n % 128)]) (M3.at 0 rfl) rfl rfl (Nat.le_of_ble_eq_true rfl) rfl) (WS.op rfl rfl (WS.nil [(0, _), (3, _)] rfl ?_))
  refine WC.seq ?_
  refine WC.block ?_
  obtain ⟨L4, eL6, M5⟩ := Mem.name M3.bare
  refine WC.loop (σ := Nat × List UInt8) (fun ((m, t)) => [(0, (.int .u64 ((m : Nat) : Int))), (3, (.string (bs t)))]) (fun ((m, t)) hh => Mem h hh (L4) [] ∧ ((m ≤ 127 ∧ t = vb n) ∨ vb n = hi (m / 128) ++ t) ∧ m < 18446744073709551616 ∧ t.length ≤ 10) (fun ((m, t)) => m) (n, [UInt8.ofNat (n % 128)]) rfl ⟨M5, ?_⟩ ?_
  · exact ⟨.inr rfl, hn, by simp⟩
  · rintro ⟨m, t⟩ h7 ⟨M8, ⟨hO, hm, ht⟩⟩
    subst eL6
    refine WC.env [(0, _), (3, _)] rfl ?_
    refine WC.seq ?_
    refine WC.seq ?_
    refine WC.run ?_
    refine WS.op rfl rfl ?_
    refine WS.gtrN (a := m) (b := 127) rfl rfl rfl (fun e10 => ?_) (fun e10 => ?_)
    · skip
      refine WS.nil [(0, _), (3, _), (10, _)] rfl ?_
      refine WC.condT rfl ?_
      refine WC.skip ?_
      refine WC.block ?_
      refine WC.seq ?_
      refine WC.run ?_
      refine WS.op rfl rfl (WS.opV (.int .u64 (((m / 128) : Nat) : Int)) rfl rfl (quo_u64 (a := m) (b := 128) (by omega)) (WS.op rfl rfl (WS.nil [(0, _), (3, _)] rfl ?_)))
      refine WC.run ?_
      refine WS.op rfl rfl (WS.opV (.int .u64 ((((m / 128) % 128) : Nat) : Int)) rfl rfl (rem_k (a := (m / 128)) (b := 128)) (WS.opV (.int .u64 (((128 + ((m / 128) % 128)) : Nat) : Int)) rfl rfl (add_u64 (a := 128) (b := ((m / 128) % 128)) (by omega)) (WS.opV (.int .u8 (((UInt8.ofNat (128 + ((m / 128) % 128))).toNat : Nat) : Int)) rfl rfl (u8_ofNat (n := (128 + ((m / 128) % 128)))) ?_)))
      refine WS.bsl M8 [_] rfl rfl rfl rfl ?_
      intro p9 h10 M11
      refine WS.op rfl (op_cvB (l := [UInt8.ofNat (128 + ((m / 128) % 128))]) (M11.at 0 rfl) rfl rfl (Nat.le_of_ble_eq_true rfl) rfl) (WS.op rfl rfl (WS.op rfl (op_sadd (l := [UInt8.ofNat (128 + ((m / 128) % 128))]) (m := t) rfl rfl (by first | omega | (simp only [List.length_drop, List.length_take, List.length_append, List.length_cons, List.length_nil, List.length_singleton]; omega) | (simp only [List.length_drop, List.length_take, List.length_append, List.length_cons, List.length_nil, List.length_singleton] at *; omega))) (WS.op rfl rfl (WS.nil [(0, _), (3, _)] rfl ?_))))
      refine ⟨(m / 128, UInt8.ofNat (128 + m / 128 % 128) :: t), rfl, ⟨((M11.bare.focus 1 rfl).take 1), ?_⟩, ?_⟩
      · exact ⟨step_one hO (by omega), by omega, by have h2 := congrArg List.length (one_eq hO (by omega)); rw [hi_pos (by omega)] at h2; simp at h2; simp; omega⟩
      · simp only []; omega
    · skip
      refine WS.nil [(0, _), (3, _), (10, _)] rfl ?_
      refine WC.condF rfl ?_
      refine WC.exit ?_
      refine WC.seq ?_
      refine WC.run ?_
      refine WS.op rfl rfl (WS.op rfl rfl (WS.nil [(2, _)] rfl ?_))
      refine WC.ret ?_
      refine ⟨[_], (res_tmp rfl res_nil), ?_⟩
      exact ⟨by rw [one_end hO (by omega)]; rfl, M8.bare.take 0⟩
theorem ref_V_ran {h : H} (W : Mem h h [] []) {V0 : Value} {ns : List Nat} (A : KNat.Sl h V0 ns) (hn : ∀ n ∈ ns, n < 18446744073709551616) (hl3 : ns.length ≤ 1000000) {r : List UInt8} (hr : ns.flatMap vb = r) : Cll tab0 45 [V0] h (fun v h2 => v = .string (bs r) ∧ Mem h h2 [] []) := by
  have hl := flatMap_vb_len ns hn
  refine Cll.code rfl rfl ?_
  refine WC.env [(0, _)] rfl ?_
  refine WC.seq ?_
  refine WC.run ?_
  refine WS.op rfl rfl (WS.nil [(0, _)] rfl ?_)
  refine WC.seq ?_
  refine WC.run ?_
  refine WS.op rfl rfl (WS.nil [(0, _), (3, _)] rfl ?_)
  refine WC.seq ?_
  refine WC.seq ?_
  refine WC.run ?_
  refine WS.op rfl rfl (WS.nil [(0, _), (3, _), (4, _)] rfl ?_)
  refine WC.block ?_
  obtain ⟨L1, eL3, M2⟩ := Mem.name W.bare
  refine WC.loop (σ := List UInt8 × Nat) (fun ((out, i)) => [(0, V0), (3, (.string (bs out))), (4, (.int .i64 ((i : Nat) : Int)))]) (fun ((out, i)) hh => Mem h hh (L1) [] ∧ out = (ns.take i).flatMap vb ∧ i ≤ ns.length) (fun ((out, i)) => ns.length - i) ([], 0) rfl ⟨M2, ?_⟩ ?_
  · exact ⟨rfl, by omega⟩
  · rintro ⟨out, i⟩ h4 ⟨M5, ⟨hO, hi1⟩⟩
    subst eL3
    refine WC.env [(0, _), (3, _), (4, _)] rfl ?_
    refine WC.seq ?_
    refine WC.seq ?_
    refine WC.run ?_
    refine WS.op rfl rfl (WS.op rfl rfl (WS.op rfl (op_lenVS A rfl) ?_))
    refine WS.lssN (a := i) (b := (ns).length) rfl rfl rfl (fun e8 => ?_) (fun e8 => ?_)
    · skip
      refine WS.nil [(0, _), (3, _), (4, _), (8, _)] rfl ?_
      refine WC.condT rfl ?_
      refine WC.skip ?_
      refine WC.seq ?_
      refine WC.block ?_
      refine WC.run ?_
      refine WS.op rfl rfl (WS.op rfl rfl (WS.op rfl rfl ?_))
      obtain ⟨x, hy⟩ : ∃ x, ns[i]? = some x := ⟨_, List.getElem?_eq_getElem (show i < ns.length by omega)⟩
      have hfp := flatMap_part vb hy
      have hx64 := hn x (mem_get hy)
      refine WS.iaVS A i hy rfl rfl rfl rfl ?_
      intro bx ox hx
      refine WS.op rfl (op_ldH rfl (At.ld0 (hx.mono M5.sub) rfl)) ?_
      refine WS.call rfl rfl rfl (ref_One_ran M5.here (n := x) (by omega)) ?_
      rintro _ h6 ⟨rfl, N7⟩
      have M8 := M5.trans N7
      refine WS.op rfl (op_sadd (l := out) (m := (vb x)) rfl rfl (by have := congrArg List.length hO; omega)) (WS.op rfl rfl (WS.nil [(0, _), (3, _), (4, _)] rfl ?_))
      refine WC.run ?_
      refine WS.op rfl rfl (WS.opV (.int .i64 (((i + 1) : Nat) : Int)) rfl rfl (add_i64 (a := i) (b := 1) (by omega)) (WS.op rfl rfl (WS.nil [(0, _), (3, _), (4, _)] rfl ?_)))
      refine ⟨(out ++ vb x, i + 1), rfl, ⟨(M8.bare.take 0), ?_⟩, ?_⟩
      · exact ⟨by rw [hO, flatMap_take_succ vb hy], by omega⟩
      · simp only [] at *; omega
    · skip
      refine WS.nil [(0, _), (3, _), (4, _), (8, _)] rfl ?_
      refine WC.condF rfl ?_
      refine WC.exit ?_
      refine WC.seq ?_
      refine WC.run ?_
      refine WS.op rfl rfl (WS.op rfl rfl (WS.nil [(2, _)] rfl ?_))
      refine WC.ret ?_
      refine ⟨[_], (res_tmp rfl res_nil), ?_⟩
      exact ⟨by rw [← hr, hO, flatMap_take_all (l := ns) (i := i) vb (by omega)]; rfl, M5.bare.take 0⟩
theorem ref_S_ran {h : H} (W : Mem h h [] []) {V0 : Value} {ss : List (List UInt8)} (A : KStr.Sl h V0 ss) (hl3 : (ss.map List.length).sum + 10 * ss.length ≤ 1099511627776) {r : List UInt8} (hr : ss.flatMap sb = r) : Cll tab0 64 [V0] h (fun v h2 => v = .string (bs r) ∧ Mem h h2 [] []) := by
  have hl := flatMap_sb_len ss hl3
  refine Cll.code rfl rfl ?_
  refine WC.env [(0, _)] rfl ?_
  refine WC.seq ?_
  refine WC.run ?_
  refine WS.op rfl rfl (WS.nil [(0, _)] rfl ?_)
  refine WC.seq ?_
  refine WC.run ?_
  refine WS.op rfl rfl (WS.nil [(0, _), (3, _)] rfl ?_)
  refine WC.seq ?_
  refine WC.seq ?_
  refine WC.run ?_
  refine WS.op rfl rfl (WS.nil [(0, _), (3, _), (4, _)] rfl ?_)
  refine WC.block ?_
  obtain ⟨L1, eL3, M2⟩ := Mem.name W.bare
  refine WC.loop (σ := List UInt8 × Nat) (fun ((out, i)) => [(0, V0), (3, (.string (bs out))), (4, (.int .i64 ((i : Nat) : Int)))]) (fun ((out, i)) hh => Mem h hh (L1) [] ∧ out = (ss.take i).flatMap sb ∧ i ≤ ss.length) (fun ((out, i)) => ss.length - i) ([], 0) rfl ⟨M2, ?_⟩ ?_
  · exact ⟨rfl, by omega⟩
  · rintro ⟨out, i⟩ h4 ⟨M5, ⟨hO, hi1⟩⟩
    subst eL3
    refine WC.env [(0, _), (3, _), (4, _)] rfl ?_
    refine WC.seq ?_
    refine WC.seq ?_
    refine WC.run ?_
    refine WS.op rfl rfl (WS.op rfl rfl (WS.op rfl (op_lenVS A rfl) ?_))
    refine WS.lssN (a := i) (b := (ss).length) rfl rfl rfl (fun e8 => ?_) (fun e8 => ?_)
    · skip
      refine WS.nil [(0, _), (3, _), (4, _), (8, _)] rfl ?_
      refine WC.condT rfl ?_
      refine WC.skip ?_
      refine WC.seq ?_
      refine WC.block ?_
      refine WC.draw M5 [] rfl ?_
      intro rb6 h7 M8
      refine WS.op rfl rfl (WS.op rfl rfl (WS.op rfl rfl ?_))
      obtain ⟨x, hy⟩ : ∃ x, ss[i]? = some x := ⟨_, List.getElem?_eq_getElem (show i < ss.length by omega)⟩
      have hfp := flatMap_part sb hy
      have hsl : (sb x).length = (vb x.length).length + x.length := by simp [sb]
      refine WS.iaVS A i hy rfl rfl rfl rfl ?_
      intro bx ox hx
      refine WS.op rfl (op_ldH rfl (At.ld0 (hx.mono M8.sub) rfl)) (WS.op rfl (op_lenS (l := x) rfl) (WS.opV (.int .u64 (((x).length : Nat) : Int)) rfl rfl (cv_u64 (n := (x).length) (by omega)) (WS.op rfl rfl (WS.op rfl rfl ?_))))
      refine WS.iaVS A i hy rfl rfl rfl rfl ?_
      intro bx2 ox2 hx2
      refine WS.op rfl (op_ldH rfl (At.ld0 (hx2.mono M8.sub) rfl)) ?_
      refine WS.call rfl rfl rfl (ref_One_ran M8.here (n := ((x).length)) (by omega)) ?_
      rintro _ h9 ⟨rfl, N10⟩
      have M11 := M8.trans N10
      refine WS.chk rfl (op_ldH rfl (At.ld0 (hx2.mono M11.sub) rfl)) rfl (sameV_refl rfl) (WS.op rfl (op_sadd (l := out) (m := (vb ((x).length))) rfl rfl (by have := congrArg List.length hO; (try simp only [List.length_append]); omega)) (WS.op rfl (op_sadd (l := (out ++ (vb ((x).length)))) (m := x) rfl rfl (by have := congrArg List.length hO; (try simp only [List.length_append]); omega)) (WS.op rfl rfl (WS.nil [(0, _), (3, _), (4, _)] rfl ?_))))
      refine WC.run ?_
      refine WS.op rfl rfl (WS.opV (.int .i64 (((i + 1) : Nat) : Int)) rfl rfl (add_i64 (a := i) (b := 1) (by omega)) (WS.op rfl rfl (WS.nil [(0, _), (3, _), (4, _)] rfl ?_)))
      refine ⟨((out ++ vb x.length) ++ x, i + 1), rfl, ⟨(M11.bare.bare.take 0), ?_⟩, ?_⟩
      · exact ⟨by rw [hO, flatMap_take_succ sb hy, List.append_assoc]; rfl, by omega⟩
      · simp only [] at *; omega
    · skip
      refine WS.nil [(0, _), (3, _), (4, _), (8, _)] rfl ?_
      refine WC.condF rfl ?_
      refine WC.exit ?_
      refine WC.seq ?_
      refine WC.run ?_
      refine WS.op rfl rfl (WS.op rfl rfl (WS.nil [(2, _)] rfl ?_))
      refine WC.ret ?_
      refine ⟨[_], (res_tmp rfl res_nil), ?_⟩
      exact ⟨by rw [← hr, hO, flatMap_take_all (l := ss) (i := i) sb (by omega)]; rfl, M5.bare.take 0⟩
def val (t : List UInt8) : Nat := t.foldl (fun n c => 128 * n + c.toNat % 128) 0
theorem val_snoc (t : List UInt8) (c : UInt8) : val (t ++ [c]) = 128 * val t + c.toNat % 128 := by simp [val]
theorem hi_ge : ∀ (n : Nat), ∀ c ∈ hi n, 128 ≤ c.toNat := by
  intro n
  induction n using Nat.strongRecOn with
  | _ n ih =>
    intro c hc
    by_cases h : n = 0
    · subst h; rw [hi_zero] at hc; simp at hc
    · rw [hi_pos h, List.mem_append, List.mem_singleton] at hc
      rcases hc with hc | hc
      · exact ih _ (by omega) c hc
      · subst hc; rw [toNat_ofNat (by omega)]; omega
theorem val_hi : ∀ (n : Nat), val (hi n) = n := by
  intro n
  induction n using Nat.strongRecOn with
  | _ n ih =>
    by_cases h : n = 0
    · subst h; rw [hi_zero]; rfl
    · rw [hi_pos h, val_snoc, ih _ (by omega), toNat_ofNat (by omega)]; omega
theorem val_vb (n : Nat) : val (vb n) = n := by
  unfold vb; rw [val_snoc, val_hi, toNat_ofNat (by omega)]; omega
theorem vb_length (n : Nat) : (vb n).length = (hi (n / 128)).length + 1 := by simp [vb]
theorem getV_first {l : List UInt8} {n k i : Nat} (h : getV l = some (n, k)) (hg : ∀ j, j < i → ∀ c, l[j]? = some c → 128 ≤ c.toNat) : i < k := by
  obtain ⟨e1, e2, e3⟩ := getV_some h
  have hl := vb_length n
  rcases Nat.lt_or_ge i k with q | q
  · exact q
  · have hc : l[k - 1]? = some (UInt8.ofNat (n % 128)) := by
      rw [e1, List.getElem?_append_left (by omega)]
      unfold vb
      rw [List.getElem?_append_right (by omega), show k - 1 - (hi (n / 128)).length = 0 by omega]; rfl
    have := hg (k - 1) (by omega) _ hc
    rw [toNat_ofNat (by omega)] at this; omega
theorem getV_last {l : List UInt8} {n k i : Nat} {c : UInt8} (h : getV l = some (n, k)) (hc : l[i]? = some c) (hlt : c.toNat < 128) : k ≤ i + 1 := by
  obtain ⟨e1, e2, e3⟩ := getV_some h
  have hl := vb_length n
  rcases Nat.lt_or_ge (i + 1) k with q | q
  · rw [e1, List.getElem?_append_left (by omega)] at hc
    unfold vb at hc
    rw [List.getElem?_append_left (by omega)] at hc
    have := hi_ge _ c (List.mem_of_getElem? hc); omega
  · omega
theorem mul128 {n : Nat} : Value.int .u64 (IntKind.u64.wrap (128 * (n : Int))) = .int .u64 ((128 * n % 18446744073709551616 : Nat) : Int) := by
  congr 1
theorem take_snoc {l : List UInt8} {i : Nat} {c : UInt8} (hc : l[i]? = some c) : l.take (i + 1) = l.take i ++ [c] := by rw [List.take_add_one, hc]; rfl
theorem ge_step {l : List UInt8} {i : Nat} {c : UInt8} (hg : ∀ j, j < i → ∀ c, l[j]? = some c → 128 ≤ c.toNat) (hc : l[i]? = some c) (h : 128 ≤ c.toNat) : ∀ j, j < i + 1 → ∀ c, l[j]? = some c → 128 ≤ c.toNat := by
  intro j hj d hd
  rcases Nat.lt_or_ge j i with q | q
  · exact hg j q d hd
  · obtain rfl : j = i := by omega
    rw [hc] at hd; cases hd; exact h
theorem ref_no {l : List UInt8} {i : Nat} (hg : ∀ j, j < i → ∀ c, l[j]? = some c → 128 ≤ c.toNat) (hi2 : 10 ≤ i ∨ l.length ≤ i) : getV l = none := by
  cases hv : getV l with
  | none => rfl
  | some p =>
    obtain ⟨n, k⟩ := p
    have := getV_first hv hg
    have := getV_le hv
    omega
theorem ref_ne {l : List UInt8} {i n : Nat} {c : UInt8} (hg : ∀ j, j < i → ∀ c, l[j]? = some c → 128 ≤ c.toNat) (hc : l[i]? = some c) (hlt : c.toNat < 128) (hn : n = val (l.take (i + 1)) % 18446744073709551616) (hne : vb n ≠ l.take (i + 1)) : getV l = none := by
  cases hv : getV l with
  | none => rfl
  | some p =>
    obtain ⟨m, k⟩ := p
    have h1 := getV_first hv hg
    have h2 := getV_last hv hc hlt
    obtain ⟨e1, e2, e3⟩ := getV_some hv
    have hk : k = i + 1 := by omega
    have ht : l.take (i + 1) = vb m := by
      rw [← hk, e2]
      conv => lhs; rw [e1]
      rw [List.take_left]
    rw [ht, val_vb, Nat.mod_eq_of_lt e3] at hn
    exact absurd (by rw [hn, ht]) hne
theorem ref_eq {l : List UInt8} {i n : Nat} (hn : n < 18446744073709551616) (hi1 : i < l.length) (he : vb n = l.take (i + 1)) : getV l = some (n, i + 1) := by
  have h1 := getV_vb hn (l.drop (i + 1))
  rw [he, List.take_append_drop, List.length_take] at h1
  rw [h1]; congr 2; omega
theorem ref_ReadV_ran {h : H} (W : Mem h h [] []) {l : List UInt8} (hl : l.length < 9223372036854775808) : Cll tab0 65 [.string (bs l)] h (fun v h2 => v = rvV l ∧ Mem h h2 [] []) := by
  refine Cll.code rfl rfl ?_
  refine WC.env [(0, _)] rfl ?_
  refine WC.seq ?_
  refine WC.run ?_
  refine WS.op rfl rfl (WS.op rfl rfl (WS.op rfl rfl (WS.nil [(0, _)] rfl ?_)))
  refine WC.seq ?_
  refine WC.run ?_
  refine WS.op rfl rfl (WS.nil [(0, _), (5, _)] rfl ?_)
  refine WC.seq ?_
  refine WC.seq ?_
  refine WC.run ?_
  refine WS.op rfl rfl (WS.nil [(0, _), (5, _), (6, _)] rfl ?_)
  refine WC.block ?_
  obtain ⟨L1, eL3, M2⟩ := Mem.name W.bare
  refine WC.loop (σ := Nat × Nat) (fun ((n, i)) => [(0, (.string (bs l))), (5, (.int .u64 ((n : Nat) : Int))), (6, (.int .i64 ((i : Nat) : Int)))]) (fun ((n, i)) hh => Mem h hh (L1) [] ∧ n = val (l.take i) % 18446744073709551616 ∧ (∀ j, j < i → ∀ c, l[j]? = some c → 128 ≤ c.toNat) ∧ i ≤ l.length) (fun ((n, i)) => l.length - i) (0, 0) rfl ⟨M2, ?_⟩ ?_
  · exact ⟨rfl, by omega, by omega⟩
  · rintro ⟨n, i⟩ h4 ⟨M5, ⟨hO, hg, hi1⟩⟩
    subst eL3
    refine WC.env [(0, _), (5, _), (6, _)] rfl ?_
    refine WC.seq ?_
    refine WC.seq ?_
    refine WC.run ?_
    refine WS.op rfl rfl (WS.op rfl rfl (WS.op rfl (op_lenS (l := l) rfl) ?_))
    refine WS.lssN (a := i) (b := (l).length) rfl rfl rfl (fun e10 => ?_) (fun e10 => ?_)
    · skip
      refine WS.op rfl rfl (WS.op rfl rfl ?_)
      refine WS.lssN (a := i) (b := 10) rfl rfl rfl (fun e13 => ?_) (fun e13 => ?_)
      · skip
        refine WS.op rfl rfl (WS.nil [(0, _), (5, _), (6, _), (14, _)] rfl ?_)
        refine WC.condT rfl ?_
        refine WC.skip ?_
        refine WC.seq ?_
        refine WC.block ?_
        refine WC.seq ?_
        refine WC.run ?_
        refine WS.op rfl rfl (WS.opV (.int .u64 ((128 * n % 18446744073709551616 : Nat) : Int)) rfl rfl mul128 (WS.op rfl rfl (WS.op rfl rfl ?_)))
        obtain ⟨c, hc⟩ : ∃ c, l[i]? = some c := ⟨_, List.getElem?_eq_getElem (show i < l.length by omega)⟩
        have hcl := c.toNat_lt
        have hts := take_snoc hc
        have hv : (128 * n % 18446744073709551616 + c.toNat % 128) = val (l.take (i + 1)) % 18446744073709551616 := by rw [hts, val_snoc, hO]; omega
        refine WS.op rfl (op_ixS i rfl rfl hc) (WS.opV (.int .u8 ((((c).toNat % 128) : Nat) : Int)) rfl rfl (rem_k (a := (c).toNat) (b := 128)) (WS.opV (.int .u64 ((((c).toNat % 128) : Nat) : Int)) rfl rfl (cv_u64 (n := ((c).toNat % 128)) (by omega)) (WS.opV (.int .u64 ((((128 * n % 18446744073709551616) + ((c).toNat % 128)) : Nat) : Int)) rfl rfl (add_u64 (a := (128 * n % 18446744073709551616)) (b := ((c).toNat % 128)) (by omega)) (WS.op rfl rfl (WS.nil [(0, _), (5, _), (6, _)] rfl ?_)))))
        refine WC.seq ?_
        refine WC.run ?_
        refine WS.op rfl rfl (WS.op rfl rfl (WS.op rfl (op_ixS i rfl rfl hc) ?_))
        refine WS.lssN (a := (c).toNat) (b := 128) rfl rfl rfl (fun e28 => ?_) (fun e28 => ?_)
        · skip
          refine WS.nil [(0, _), (5, _), (6, _), (28, _)] rfl ?_
          refine WC.condT rfl ?_
          refine WC.seq ?_
          refine WC.seq ?_
          refine WC.draw M5 [] rfl ?_
          intro rb6 h7 M8
          refine WS.op rfl rfl (WS.op rfl rfl (WS.op rfl rfl (WS.opV (.int .i64 (((i + 1) : Nat) : Int)) rfl rfl (add_i64 (a := i) (b := 1) (by omega)) (WS.op rfl (op_slS1 (l := l) (i + 1) rfl rfl (by first | omega | (simp only [List.length_drop, List.length_take, List.length_append, List.length_cons, List.length_nil, List.length_singleton]; omega) | (simp only [List.length_drop, List.length_take, List.length_append, List.length_cons, List.length_nil, List.length_singleton] at *; omega))) ?_))))
          refine WS.call rfl rfl rfl (ref_One_ran M8.here (n := ((128 * n % 18446744073709551616) + ((c).toNat % 128))) (by omega)) ?_
          rintro _ h9 ⟨rfl, N10⟩
          have M11 := M8.trans N10
          refine WS.sneq (l := (vb ((128 * n % 18446744073709551616) + ((c).toNat % 128)))) (m := ((l).take (i + 1))) rfl rfl rfl (fun e35 => ?_) (fun e35 => ?_)
          · skip
            refine WS.nil [(5, _), (6, _), (35, _)] rfl ?_
            refine WC.condT rfl ?_
            refine WC.seq ?_
            refine WC.run ?_
            refine WS.op rfl rfl (WS.op rfl rfl (WS.op rfl rfl (WS.nil [(2, _), (3, _), (4, _)] rfl ?_)))
            refine WC.ret ?_
            refine ⟨[_, _, _], (res_tmp rfl (res_tmp rfl (res_tmp rfl res_nil))), ?_⟩
            exact ⟨by rw [rvV_none (ref_ne hg hc (by omega) hv (by assumption))]; rfl, M11.bare.bare.take 0⟩
          · skip
            refine WS.nil [(5, _), (6, _), (35, _)] rfl ?_
            refine WC.condF rfl ?_
            refine WC.skip ?_
            refine WC.seq ?_
            refine WC.run ?_
            refine WS.op rfl rfl (WS.op rfl rfl (WS.opV (.int .i64 (((i + 1) : Nat) : Int)) rfl rfl (add_i64 (a := i) (b := 1) (by omega)) (WS.op rfl rfl (WS.op rfl rfl (WS.op rfl rfl (WS.nil [(2, _), (3, _), (4, _)] rfl ?_))))))
            refine WC.ret ?_
            refine ⟨[_, _, _], (res_tmp rfl (res_tmp rfl (res_tmp rfl res_nil))), ?_⟩
            exact ⟨by rw [rvV_some (ref_eq (n := 128 * n % 18446744073709551616 + c.toNat % 128) (i := i) (by omega) (by omega) (by assumption))]; rfl, M11.bare.bare.take 0⟩
        · skip
          refine WS.nil [(0, _), (5, _), (6, _), (28, _)] rfl ?_
          refine WC.condF rfl ?_
          refine WC.skip ?_
          refine WC.run ?_
          refine WS.op rfl rfl (WS.opV (.int .i64 (((i + 1) : Nat) : Int)) rfl rfl (add_i64 (a := i) (b := 1) (by omega)) (WS.op rfl rfl (WS.nil [(0, _), (5, _), (6, _)] rfl ?_)))
          refine ⟨((128 * n % 18446744073709551616 + c.toNat % 128), i + 1), rfl, ⟨(M5.bare.take 0), ?_⟩, ?_⟩
          · exact ⟨hv, ge_step hg hc (by omega), by omega⟩
          · simp only []; omega
      · skip
        refine WS.op rfl rfl (WS.nil [(0, _), (5, _), (6, _), (14, _)] rfl ?_)
        refine WC.condF rfl ?_
        refine WC.exit ?_
        refine WC.seq ?_
        refine WC.run ?_
        refine WS.op rfl rfl (WS.op rfl rfl (WS.op rfl rfl (WS.nil [(2, _), (3, _), (4, _)] rfl ?_)))
        refine WC.ret ?_
        refine ⟨[_, _, _], (res_tmp rfl (res_tmp rfl (res_tmp rfl res_nil))), ?_⟩
        exact ⟨by rw [rvV_none (ref_no hg (by omega))]; rfl, M5.bare.take 0⟩
    · skip
      refine WS.op rfl rfl (WS.off rfl (WS.off rfl (WS.op rfl rfl (WS.nil [(0, _), (5, _), (6, _), (14, _)] rfl ?_))))
      refine WC.condF rfl ?_
      refine WC.exit ?_
      refine WC.seq ?_
      refine WC.run ?_
      refine WS.op rfl rfl (WS.op rfl rfl (WS.op rfl rfl (WS.nil [(2, _), (3, _), (4, _)] rfl ?_)))
      refine WC.ret ?_
      refine ⟨[_, _, _], (res_tmp rfl (res_tmp rfl (res_tmp rfl res_nil))), ?_⟩
      exact ⟨by rw [rvV_none (ref_no hg (by omega))]; rfl, M5.bare.take 0⟩
theorem ref_ReadS_ran {h : H} (W : Mem h h [] []) {l : List UInt8} (hl : l.length < 4611686018427387904) : Cll tab0 66 [.string (bs l)] h (fun v h2 => v = rsV l ∧ Mem h h2 [] []) := by
  have hk := rvK_le l
  have hn64 := rvN_lt l
  refine Cll.code rfl rfl ?_
  refine WC.env [(0, _)] rfl ?_
  refine WC.seq ?_
  refine WC.run ?_
  refine WS.op rfl rfl (WS.op rfl rfl (WS.op rfl rfl (WS.nil [(0, _)] rfl ?_)))
  refine WC.seq ?_
  refine WC.run ?_
  refine WS.op rfl rfl ?_
  refine WS.call rfl rfl rfl (ref_ReadV_ran W.here (l := l) (by first | omega | (simp only [List.length_drop, List.length_take, List.length_append, List.length_cons, List.length_nil, List.length_singleton]; omega) | (simp only [List.length_drop, List.length_take, List.length_append, List.length_cons, List.length_nil, List.length_singleton] at *; omega))) ?_
  rintro _ h1 ⟨rfl, N2⟩
  have M3 := W.trans N2
  refine WS.op rfl rfl (WS.op rfl rfl (WS.op rfl rfl (WS.op rfl rfl (WS.op rfl rfl (WS.op rfl rfl (WS.op rfl rfl (WS.nil [(0, _), (5, _), (6, _), (7, _)] rfl ?_)))))))
  refine WC.seq ?_
  refine WC.seq ?_
  obtain ⟨L5, eL7, M6⟩ := Mem.name M3.bare
  refine WC.joinB (base := h) (fun b => [(0, (.string (bs l))), (5, (.int .u64 (((rvN l) : Nat) : Int))), (6, (.int .i64 (((rvK l) : Nat) : Int))), (31, .bool b)]) L5 (getS l = none) (rvOK l = true ∧ rvN l ≤ l.length - rvK l) ?_ ?_ ?_
  · subst eL7
    refine WS.op rfl rfl ?_
    cases hb1 : (rvOK l)
    · skip
      refine WS.opV (.bool true) rfl rfl rfl (WS.op rfl rfl (WS.off rfl (WS.off rfl (WS.off rfl (WS.off rfl (WS.off rfl (WS.op rfl rfl (WS.op rfl rfl (WS.off rfl ?_)))))))))
      refine WS.off rfl (WS.off rfl (WS.off rfl (WS.off rfl (WS.off rfl (WS.off rfl (WS.op rfl rfl ?_))))))
      refine WS.nil' ⟨true, rfl, (M6.bare.take 0), fun _ => ?_, fun hh => ?_⟩
      · first | exact getS_no hb1 | exact getS_far (by omega)
      · cases hh
    · skip
      refine WS.opV (.bool false) rfl rfl rfl (WS.op rfl rfl (WS.op rfl rfl (WS.op rfl rfl (WS.op rfl (op_lenS (l := l) rfl) (WS.opV (.int .u64 (((l).length : Nat) : Int)) rfl rfl (cv_u64 (n := (l).length) (by omega)) ?_)))))
      refine WS.gtrN (a := (rvN l)) (b := (l).length) rfl rfl rfl (fun e21 => ?_) (fun e21 => ?_)
      · skip
        refine WS.op rfl rfl (WS.op rfl rfl (WS.off rfl (WS.off rfl (WS.off rfl (WS.off rfl (WS.off rfl (WS.off rfl (WS.off rfl (WS.op rfl rfl ?_)))))))))
        refine WS.nil' ⟨true, rfl, (M6.bare.take 0), fun _ => ?_, fun hh => ?_⟩
        · first | exact getS_no hb1 | exact getS_far (by omega)
        · cases hh
      · skip
        refine WS.op rfl rfl (WS.op rfl rfl (WS.op rfl rfl (WS.op rfl rfl (WS.opV (.int .i64 (((rvN l) : Nat) : Int)) rfl rfl (cv_i64 (n := (rvN l)) (by have := rvN_lt l; omega)) (WS.opV (.int .i64 ((((rvK l) + (rvN l)) : Nat) : Int)) rfl rfl (add_i64 (a := (rvK l)) (b := (rvN l)) (by have := rvK_le l; have := rvN_lt l; omega)) (WS.op rfl rfl (WS.op rfl (op_lenS (l := l) rfl) ?_)))))))
        refine WS.gtrN (a := ((rvK l) + (rvN l))) (b := (l).length) rfl rfl rfl (fun e30 => ?_) (fun e30 => ?_)
        · skip
          refine WS.op rfl rfl ?_
          refine WS.nil' ⟨true, rfl, (M6.bare.take 0), fun _ => ?_, fun hh => ?_⟩
          · first | exact getS_no hb1 | exact getS_far (by omega)
          · cases hh
        · skip
          refine WS.op rfl rfl ?_
          refine WS.nil' ⟨false, rfl, (M6.bare.take 0), fun hh => ?_, fun _ => ?_⟩
          · cases hh
          · exact ⟨rfl, by omega⟩
  · intro h8 M9 hp31
    subst eL7
    refine WC.condT rfl ?_
    refine WC.seq ?_
    refine WC.run ?_
    refine WS.op rfl rfl (WS.op rfl rfl (WS.op rfl rfl (WS.nil [(2, _), (3, _), (4, _)] rfl ?_)))
    refine WC.ret ?_
    refine ⟨[_, _, _], (res_tmp rfl (res_tmp rfl (res_tmp rfl res_nil))), ?_⟩
    exact ⟨by rw [rsV_none hp31]; rfl, M9.bare.take 0⟩
  · intro h10 M11 hp31
    subst eL7
    refine WC.condF rfl ?_
    refine WC.skip ?_
    refine WC.seq ?_
    refine WC.run ?_
    refine WS.op rfl rfl (WS.op rfl rfl (WS.op rfl rfl (WS.op rfl rfl (WS.opV (.int .i64 (((rvN l) : Nat) : Int)) rfl rfl (cv_i64 (n := (rvN l)) (by have := rvN_lt l; omega)) (WS.opV (.int .i64 ((((rvK l) + (rvN l)) : Nat) : Int)) rfl rfl (add_i64 (a := (rvK l)) (b := (rvN l)) (by have := rvK_le l; have := rvN_lt l; omega)) (WS.op rfl (op_slS2 (l := l) (rvK l) ((rvK l) + (rvN l)) rfl rfl rfl (by first | omega | (simp only [List.length_drop, List.length_take, List.length_append, List.length_cons, List.length_nil, List.length_singleton]; omega) | (simp only [List.length_drop, List.length_take, List.length_append, List.length_cons, List.length_nil, List.length_singleton] at *; omega)) (by first | omega | (simp only [List.length_drop, List.length_take, List.length_append, List.length_cons, List.length_nil, List.length_singleton]; omega) | (simp only [List.length_drop, List.length_take, List.length_append, List.length_cons, List.length_nil, List.length_singleton] at *; omega))) (WS.op rfl rfl (WS.op rfl rfl (WS.opV (.int .i64 (((rvN l) : Nat) : Int)) rfl rfl (cv_i64 (n := (rvN l)) (by have := rvN_lt l; omega)) ?_)))))))))
    refine WS.opV (.int .i64 ((((rvK l) + (rvN l)) : Nat) : Int)) rfl rfl (add_i64 (a := (rvK l)) (b := (rvN l)) (by have := rvK_le l; have := rvN_lt l; omega)) (WS.op rfl rfl (WS.op rfl rfl (WS.op rfl rfl (WS.nil [(2, _), (3, _), (4, _)] rfl ?_))))
    refine WC.ret ?_
    refine ⟨[_, _, _], (res_tmp rfl (res_tmp rfl (res_tmp rfl res_nil))), ?_⟩
    exact ⟨by rw [rsV_some (getS_yes hp31.1 hp31.2)]; rfl, M11.bare.take 0⟩
end Go.Proofs.Ytncpdahappmhkaa.Wt
