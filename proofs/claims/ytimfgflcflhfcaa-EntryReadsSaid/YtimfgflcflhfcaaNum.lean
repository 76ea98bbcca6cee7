/- Plain theory of numbers' groups, of texts' order and of numbers of a width. No program in sight. -/
import GoSem.Op.String
import Derived.Laws.BytesArg
namespace Go.Proofs.Ytimfgflcflhfcaa.Num
open Go.Op
/-- a byte -/
def by_ (n : Nat) : UInt8 := UInt8.ofNat n
/-- The bytes of a number's groups ahead of the last one. -/
def pre_ (n : Nat) : List UInt8 := if n = 0 then [] else pre_ (n / 128) ++ [by_ (128 + n % 128)]
termination_by n
decreasing_by omega
/-- A number's groups. -/
def grp (n : Nat) : List UInt8 := pre_ (n / 128) ++ [by_ (n % 128)]
theorem pre_zero : pre_ 0 = [] := by rw [pre_]; rfl
theorem pre_pos {n : Nat} (h : n ≠ 0) : pre_ n = pre_ (n / 128) ++ [by_ (128 + n % 128)] := by rw [pre_, if_neg h]
theorem by_toNat {n : Nat} (h : n < 256) : (by_ n).toNat = n := by simp [by_, UInt8.toNat_ofNat']; omega
/-- What is read on, behind some bytes of a number. -/
def rdv : Nat → Nat → List UInt8 → Option (Nat × Nat)
  | _, _, [] => none
  | n, size, c :: s =>
    if 10 ≤ size then none
    else if (size = 0 ∧ c.toNat = 128) ∨ 144115188075855872 ≤ n then none
    else if c.toNat < 128 then some (n * 128 + c.toNat % 128, size + 1)
    else rdv (n * 128 + c.toNat % 128) (size + 1) s
def readV (s : List UInt8) : Option (Nat × Nat) := rdv 0 0 s
def len_ (n : Nat) : Nat := (pre_ n).length
theorem len_zero : len_ 0 = 0 := by simp [len_, pre_zero]
theorem len_pos {n : Nat} (h : n ≠ 0) : len_ n = len_ (n / 128) + 1 := by simp [len_, pre_pos h]
theorem len_le : ∀ (k n : Nat), n < 128 ^ k → len_ n ≤ k
  | 0, n, h => by simp at h; subst h; simp [len_zero]
  | k + 1, n, h => by
    by_cases h0 : n = 0
    · subst h0; simp [len_zero]
    · rw [len_pos h0]
      have := len_le k (n / 128) (by rw [Nat.pow_succ] at h; omega)
      omega
theorem grp_length (n : Nat) : (grp n).length = len_ (n / 128) + 1 := by simp [grp, len_]
/-- reading the bytes ahead of the last -/
theorem rdv_pre : ∀ (fuel n : Nat), n ≤ fuel → n < 144115188075855872 → ∀ (t : List UInt8), rdv 0 0 (pre_ n ++ t) = if n = 0 then rdv 0 0 t else rdv n (len_ n) t
  | 0, n, h, _, t => by obtain rfl : n = 0 := by omega
                        simp [pre_zero]
  | fuel + 1, n, h, hlt, t => by
    by_cases h0 : n = 0
    · subst h0; simp [pre_zero]
    · rw [if_neg h0, pre_pos h0, List.append_assoc, List.singleton_append]
      have hl : len_ (n / 128) ≤ 9 := len_le 9 _ (by have : (128:Nat) ^ 9 = 9223372036854775808 := by decide
                                                     omega)
      rw [rdv_pre fuel (n / 128) (by omega) (by omega)]
      have hb := by_toNat (n := 128 + n % 128) (by omega)
      by_cases h1 : n / 128 = 0
      · rw [if_pos h1, rdv]
        rw [if_neg (by omega), if_neg (by rw [hb]; omega), if_neg (by rw [hb]; omega), hb]
        rw [len_pos h0, h1, len_zero]
        congr 1; omega
      · have hl1 := len_pos h1
        rw [if_neg h1, rdv]
        rw [if_neg (by omega), if_neg (by rw [hb]; omega), if_neg (by rw [hb]; omega), hb, len_pos h0]
        congr 1; omega
theorem readV_grp (n : Nat) (hn : n < 18446744073709551616) (t : List UInt8) : readV (grp n ++ t) = some (n, (grp n).length) := by
  have hb := by_toNat (n := n % 128) (by omega)
  unfold readV grp
  rw [List.append_assoc, List.singleton_append, rdv_pre (n / 128) _ (Nat.le_refl _) (by omega)]
  have hl : len_ (n / 128) ≤ 9 := len_le 9 _ (by have : (128:Nat) ^ 9 = 9223372036854775808 := by decide
                                                 omega)
  by_cases h1 : n / 128 = 0
  · rw [if_pos h1, rdv, if_neg (by omega), if_neg (by rw [hb]; omega), if_pos (by rw [hb]; omega), hb, h1, pre_zero]
    simp; omega
  · have hl1 := len_pos h1
    rw [if_neg h1, rdv, if_neg (by omega), if_neg (by rw [hb]; omega), if_pos (by rw [hb]; omega), hb]
    simp only [List.length_append, List.length_singleton, len_, Option.some.injEq, Prod.mk.injEq, and_true]
    omega
/-- what is read was put -/
theorem rdv_some : ∀ (s : List UInt8) (n size : Nat) (m k : Nat), len_ n = size → rdv n size s = some (m, k) → n < 18446744073709551616 →
    m < 18446744073709551616 ∧ size < k ∧ k ≤ 10 ∧ k - size ≤ s.length ∧ pre_ n ++ s.take (k - size) = grp m
  | [], n, size, m, k, hs, h, hn => by simp [rdv] at h
  | c :: s, n, size, m, k, hs, h, hn => by
    rw [rdv] at h
    by_cases h1 : 10 ≤ size
    · rw [if_pos h1] at h; cases h
    · rw [if_neg h1] at h
      by_cases h2 : (size = 0 ∧ c.toNat = 128) ∨ 144115188075855872 ≤ n
      · rw [if_pos h2] at h; cases h
      · rw [if_neg h2] at h
        have hc := c.toNat_lt
        by_cases h3 : c.toNat < 128
        · rw [if_pos h3] at h
          simp only [Option.some.injEq, Prod.mk.injEq] at h
          obtain ⟨rfl, rfl⟩ := h
          refine ⟨by omega, by omega, by omega, by simp, ?_⟩
          rw [show size + 1 - size = 1 from by omega]
          unfold grp
          rw [show (n * 128 + c.toNat % 128) / 128 = n from by omega, show (n * 128 + c.toNat % 128) % 128 = c.toNat from by omega]
          simp [by_]
        · rw [if_neg h3] at h
          have hp : pre_ (n * 128 + c.toNat % 128) = pre_ n ++ [c] := by
            have hne : n * 128 + c.toNat % 128 ≠ 0 := by
              intro h0
              have hn0 : n = 0 := by omega
              subst hn0
              rw [len_zero] at hs
              omega
            rw [pre_pos hne, show (n * 128 + c.toNat % 128) / 128 = n from by omega, show 128 + (n * 128 + c.toNat % 128) % 128 = c.toNat from by omega]
            simp [by_]
          obtain ⟨a, b, b', d, e⟩ := rdv_some s _ (size + 1) m k (by rw [len_, hp]; simp [← hs, len_]) h (by omega)
          refine ⟨a, by omega, b', by simp; omega, ?_⟩
          rw [show k - size = (k - (size + 1)) + 1 from by omega, List.take_succ_cons]
          rw [hp, List.append_assoc] at e
          exact e
theorem readV_some {s : List UInt8} {m k : Nat} (h : readV s = some (m, k)) : m < 18446744073709551616 ∧ 0 < k ∧ k ≤ 10 ∧ k ≤ s.length ∧ s.take k = grp m := by
  have := rdv_some s 0 0 m k len_zero h (by decide)
  simpa [pre_zero] using this
theorem grp_of_readV {s : List UInt8} {n : Nat} (h : readV s = some (n, s.length)) : grp n = s := by
  have := (readV_some h).2.2.2.2
  rw [List.take_length] at this
  exact this.symm
/-- No number's groups are the beginning of another one's. -/
theorem grp_apart {a b : Nat} (ha : a < 18446744073709551616) (hb : b < 18446744073709551616) {s t : List UInt8} (h : grp a ++ s = grp b ++ t) : a = b ∧ s = t := by
  have h1 := readV_grp a ha s
  have h2 := readV_grp b hb t
  rw [h, h2] at h1
  simp only [Option.some.injEq, Prod.mk.injEq] at h1
  obtain ⟨rfl, _⟩ := h1
  exact ⟨rfl, List.append_cancel_left h⟩
theorem grp_inj {a b : Nat} (ha : a < 18446744073709551616) (hb : b < 18446744073709551616) (h : grp a = grp b) : a = b := (grp_apart ha hb (s := []) (t := []) (by simpa using h)).1
/-- a text's value, to the base of 256 -/
def val_ (s : List UInt8) : Nat := s.foldl (fun a c => a * 256 + c.toNat) 0
theorem val_go : ∀ (s : List UInt8) (a : Nat), s.foldl (fun a c => a * 256 + c.toNat) a = a * 256 ^ s.length + val_ s
  | [], a => by simp [val_]
  | c :: s, a => by
    simp only [List.foldl_cons, val_, List.length_cons]
    rw [val_go s, val_go s (0 * 256 + c.toNat), Nat.pow_succ]
    simp [Nat.add_mul, Nat.mul_assoc, Nat.mul_comm 256, Nat.add_assoc]
theorem val_cons (c : UInt8) (s : List UInt8) : val_ (c :: s) = c.toNat * 256 ^ s.length + val_ s := by
  simp only [val_, List.foldl_cons]
  rw [val_go]; simp [val_]
theorem val_snoc (s : List UInt8) (c : UInt8) : val_ (s ++ [c]) = val_ s * 256 + c.toNat := by simp [val_, List.foldl_append]
theorem val_lt : ∀ s : List UInt8, val_ s < 256 ^ s.length
  | [] => by simp [val_]
  | c :: s => by
    rw [val_cons, List.length_cons, Nat.pow_succ]
    have h1 := val_lt s
    have h2 := c.toNat_lt
    have h3 : c.toNat * 256 ^ s.length ≤ 255 * 256 ^ s.length := Nat.mul_le_mul_right _ (by omega)
    omega
theorem less_val : ∀ s t : List UInt8, s.length = t.length → bytesLess s t = decide (val_ s < val_ t)
  | [], [], _ => by simp [bytesLess, val_]
  | a :: s, b :: t, h => by
    have hl : s.length = t.length := by simpa using h
    have ih := less_val s t hl
    have h1 := val_lt s
    have h2 := val_lt t
    rw [bytesLess, ih, val_cons, val_cons, hl]
    rw [hl] at h1
    by_cases h3 : a.toNat < b.toNat
    · have h4 : a < b := UInt8.lt_iff_toNat_lt.2 h3
      have h5 : (a.toNat + 1) * 256 ^ t.length ≤ b.toNat * 256 ^ t.length := Nat.mul_le_mul_right _ (by omega)
      rw [Nat.add_mul, Nat.one_mul] at h5
      simp [h4]; omega
    · have h4 : ¬ a < b := fun h => h3 (UInt8.lt_iff_toNat_lt.1 h)
      by_cases h5 : a.toNat = b.toNat
      · have h6 : a = b := UInt8.toNat_inj.1 h5
        subst h6
        simp
      · have h6 : ¬ a = b := fun h => h5 (by rw [h])
        have h7 : (b.toNat + 1) * 256 ^ t.length ≤ a.toNat * 256 ^ t.length := Nat.mul_le_mul_right _ (by omega)
        rw [Nat.add_mul, Nat.one_mul] at h7
        have h8 : (a == b) = false := by simpa using h6
        rw [h8]
        simp [h4]
        omega
  | [], _ :: _, h => by simp at h
  | _ :: _, [], h => by simp at h
/-- a number of a width -/
def wide (n : Nat) : Nat → List UInt8
  | 0 => []
  | w + 1 => wide (n / 256) w ++ [UInt8.ofNat (n % 256)]
theorem wide_length : ∀ (w n : Nat), (wide n w).length = w
  | 0, _ => rfl
  | w + 1, n => by simp [wide, wide_length w]
theorem wide_val : ∀ (w n : Nat), val_ (wide n w) = n % 256 ^ w
  | 0, n => by simp [wide, val_, Nat.mod_one]
  | w + 1, n => by
    rw [wide, val_snoc, wide_val w, UInt8.toNat_ofNat']
    have h1 : (256 : Nat) ^ (w + 1) = 256 * 256 ^ w := by rw [Nat.pow_succ, Nat.mul_comm]
    rw [h1, Nat.mod_mul]
    omega

theorem val_pre_lt : ∀ (fuel a b : Nat), a ≤ fuel → len_ a = len_ b → a < b → val_ (pre_ a) < val_ (pre_ b)
  | 0, a, b, h, hl, hlt => by
    obtain rfl : a = 0 := by omega
    rw [len_zero, len_pos (by omega)] at hl; omega
  | fuel + 1, a, b, h, hl, hlt => by
    have hb : b ≠ 0 := by omega
    by_cases ha : a = 0
    · subst ha; rw [len_zero, len_pos hb] at hl; omega
    · rw [len_pos ha, len_pos hb] at hl
      rw [pre_pos ha, pre_pos hb, val_snoc, val_snoc, by_toNat (by omega), by_toNat (by omega)]
      rcases Nat.lt_or_ge (a / 128) (b / 128) with h1 | h1
      · have := val_pre_lt fuel (a / 128) (b / 128) (by omega) (by omega) h1
        omega
      · have h2 : a / 128 = b / 128 := by omega
        rw [h2]; omega
theorem val_grp_lt {a b : Nat} (hl : (grp a).length = (grp b).length) (hlt : a < b) : val_ (grp a) < val_ (grp b) := by
  rw [grp_length, grp_length] at hl
  unfold grp
  rw [val_snoc, val_snoc, by_toNat (by omega), by_toNat (by omega)]
  rcases Nat.lt_or_ge (a / 128) (b / 128) with h1 | h1
  · have := val_pre_lt (a / 128) (a / 128) (b / 128) (Nat.le_refl _) (by omega) h1
    omega
  · have h2 : a / 128 = b / 128 := by omega
    rw [h2]; omega
theorem grp_less {a b : Nat} (hl : (grp a).length = (grp b).length) : bytesLess (grp a) (grp b) = decide (a < b) := by
  rw [less_val _ _ hl]
  rcases Nat.lt_trichotomy a b with h | h | h
  · simp [h, val_grp_lt hl h]
  · subst h; simp
  · have := val_grp_lt hl.symm h
    have h1 : ¬ a < b := by omega
    have h2 : ¬ val_ (grp a) < val_ (grp b) := by omega
    simp [h1, h2]
theorem len_mono : ∀ (fuel a b : Nat), b ≤ fuel → a ≤ b → len_ a ≤ len_ b
  | 0, a, b, h, hab => by
    obtain rfl : b = 0 := by omega
    obtain rfl : a = 0 := by omega
    exact Nat.le_refl _
  | fuel + 1, a, b, h, hab => by
    by_cases ha : a = 0
    · subst ha; rw [len_zero]; omega
    · rw [len_pos ha, len_pos (show b ≠ 0 by omega)]
      have := len_mono fuel (a / 128) (b / 128) (by omega) (by omega)
      omega
theorem grp_len_lt {a b : Nat} (h : (grp a).length < (grp b).length) : a < b := by
  rcases Nat.lt_or_ge a b with h1 | h1
  · exact h1
  · rw [grp_length, grp_length] at h
    have := len_mono (a / 128) (b / 128) (a / 128) (Nat.le_refl _) (by omega)
    omega
theorem grp_len_le {n : Nat} (hn : n < 18446744073709551616) : (grp n).length ≤ 10 := by
  have h128 : (128:Nat)^9 = 9223372036854775808 := by decide
  rw [grp_length]
  have := len_le 9 (n / 128) (by omega)
  omega

def bI (s : List UInt8) : List Int := s.map fun b => (b.toNat : Int)
theorem bI_length (s : List UInt8) : (bI s).length = s.length := by simp [bI]
theorem strOfNums_bI (s : List UInt8) : strOfNums (bI s) = ⟨s.toArray⟩ := by
  simp [strOfNums, bI, List.map_map, Function.comp_def]
/-- numbers as groups -/
def numV (l : List Int) : List UInt8 := l.flatMap fun n => grp n.toNat
theorem numV_length (l : List Int) : ∀ k, (∀ x ∈ l, 0 ≤ x ∧ x < 18446744073709551616) → (numV (l.take k)).length ≤ 10 * k
  | 0, _ => by simp [numV]
  | k + 1, h => by
    have ih := numV_length l k h
    by_cases hk : k < l.length
    · rw [List.take_succ_eq_append_getElem hk, numV, List.flatMap_append, List.length_append]
      have := grp_len_le (n := l[k].toNat) (by have := h l[k] (List.getElem_mem hk); omega)
      have e : (List.flatMap (fun n => grp n.toNat) [l[k]]) = grp l[k].toNat := by simp
      rw [e]
      unfold numV at ih
      omega
    · rw [List.take_of_length_le (by omega)]
      rw [List.take_of_length_le (by omega)] at ih
      omega
/-- What the inner loop of num.V keeps. -/
def VIn (N n at_ : Nat) (cs : List Int) : Prop := cs.length = 10 ∧ at_ ≤ 9 ∧ len_ n ≤ at_ ∧ ∃ t : List UInt8, cs.drop at_ = bI t ∧ pre_ n ++ t = grp N
theorem VIn.start {N : Nat} (hN : N < 18446744073709551616) : VIn N (N / 128) 9 [0, 0, 0, 0, 0, 0, 0, 0, 0, ((N % 128 : Nat) : Int)] := by
  refine ⟨rfl, Nat.le_refl _, ?_, [by_ (N % 128)], ?_, rfl⟩
  · have h128 : (128:Nat)^9 = 9223372036854775808 := by decide
    exact len_le 9 _ (by omega)
  · simp [bI, by_toNat (show N % 128 < 256 by omega)]
theorem VIn.next {N n at_ : Nat} {cs : List Int} (h : VIn N n at_ cs) (hn : n ≠ 0) : 1 ≤ at_ ∧ VIn N (n / 128) (at_ - 1) (cs.set (at_ - 1) (128 + ((n % 128 : Nat) : Int))) := by
  obtain ⟨h1, h2, h3, t, h4, h5⟩ := h
  rw [len_pos hn] at h3
  refine ⟨by omega, by simpa using h1, by omega, by omega, by_ (128 + n % 128) :: t, ?_, ?_⟩
  · have e := List.drop_eq_getElem_cons (l := cs.set (at_ - 1) (128 + ((n % 128 : Nat) : Int))) (i := at_ - 1) (by simp; omega)
    rw [e, List.getElem_set_self, List.drop_set_of_lt (by omega), show at_ - 1 + 1 = at_ from by omega, h4]
    simp [bI, by_toNat (show 128 + n % 128 < 256 by omega)]
  · rw [← h5, pre_pos hn]; simp
theorem VIn.done {N at_ : Nat} {cs : List Int} (h : VIn N 0 at_ cs) : cs.length = 10 ∧ at_ ≤ 9 ∧ cs.drop at_ = bI (grp N) := by
  obtain ⟨h1, h2, _, t, h4, h5⟩ := h
  rw [pre_zero, List.nil_append] at h5
  exact ⟨h1, h2, by rw [h4, h5]⟩
end Go.Proofs.Ytimfgflcflhfcaa.Num
