/- The law 'KvReads' returns true for all arguments: what its proof stands on, part 4. -/
import Derived.Test.YtkfjlbdedjoojaaZKvReads3
import Derived.Deep.Slices
import Derived.DataReads
namespace Go.Proofs.Ytkfjlbdedjoojaa.Am
open Go
set_option linter.unusedVariables false
set_option linter.unusedSimpArgs false
theorem op_app {e : Env} {h : H} {x y : Operand} {a b : Value} {es bytes : Nat} {r : Value × H} (hx : ev e x = some a) (hy : ev e y = some b) (ha : appE h none es bytes a b = some r) : opE (.app es bytes x y) e h none = some r := by
  simp only [opE, hx, hy]; exact ha
theorem op_bin {e : Env} {h : H} {x y : Operand} {a b v : Value} {op : BinOp} (hx : ev e x = some a) (hy : ev e y = some b) (hv : binV op a b = some v) : opE (.bin op x y) e h none = some (v, h) := by
  simp only [opE, hx, hy, hv]
structure Row (α : Type) where
  cells : α → List Value
  n : Nat
  len : ∀ x, (cells x).length = n
  pos : 0 < n
  pl : ∀ x, (cells x).all (·.oneCell') = true
variable {α : Type} (K : Row α)
def Row.flat (l : List α) : List Value := l.flatMap K.cells
theorem Row.flat_cons (x : α) (l : List α) : K.flat (x :: l) = K.cells x ++ K.flat l := rfl
theorem Row.flat_append (l m : List α) : K.flat (l ++ m) = K.flat l ++ K.flat m := by simp [Row.flat]
theorem Row.flat_length (l : List α) : (K.flat l).length = l.length * K.n := by
  induction l with
  | nil => simp [Row.flat]
  | cons x l ih => rw [K.flat_cons, List.length_append, ih, K.len, List.length_cons, Nat.add_mul, Nat.one_mul, Nat.add_comm]
theorem Row.flat_plain (l : List α) : (K.flat l).all (·.oneCell') = true := by
  induction l with
  | nil => rfl
  | cons x l ih => rw [K.flat_cons, List.all_append, ih, K.pl]; rfl
theorem plain1_one {l : List Value} (h : l.all (·.oneCell') = true) : l.all (·.oneCell') = true := h
theorem Row.flat_get : ∀ (l : List α) (j : Nat) (y : α), l[j]? = some y → ((K.flat l).drop (j * K.n)).take K.n = K.cells y := by
  intro l
  induction l with
  | nil => intro j y h; simp at h
  | cons x l ih =>
    intro j y h
    cases j with
    | zero => simp at h; subst h; rw [Nat.zero_mul, List.drop_zero, K.flat_cons, List.take_append_of_le_length (by rw [K.len]; exact Nat.le_refl _), List.take_of_length_le (by rw [K.len]; exact Nat.le_refl _)]
    | succ j =>
      simp at h
      rw [← ih j y h, K.flat_cons, show (j + 1) * K.n = (K.cells x).length + j * K.n by rw [K.len, Nat.add_mul, Nat.one_mul, Nat.add_comm], List.drop_append, List.drop_of_length_le (by omega), List.nil_append]
      congr 2; omega
theorem Row.flat_at {l : List α} {j k : Nat} {y : α} {v : Value} (hj : l[j]? = some y) (hk : (K.cells y)[k]? = some v) : (K.flat l)[j * K.n + k]? = some v := by
  have hkn : k < K.n := by have := (List.getElem?_eq_some_iff.1 hk).1; rw [K.len] at this; exact this
  rw [← K.flat_get l j y hj, List.getElem?_take, if_pos hkn, List.getElem?_drop] at hk
  exact hk
theorem Row.ld {l : List α} {h : H} {b es j k : Nat} {ro : Bool} {y : α} {v : Value} (hb : h.get b = some ⟨K.flat l, es, ro⟩) (hy : l[j]? = some y) (hk : (K.cells y)[k]? = some v) : h.ld ⟨b, 0 + j * K.n + k, none⟩ = some v :=
  ld_at hb (by rw [Nat.zero_add]; exact K.flat_at hy hk)
variable {K} {lo : Nat}
end Go.Proofs.Ytkfjlbdedjoojaa.Am
namespace Go.Proofs.Ytkfjlbdedjoojaa.Am
open Go
set_option linter.unusedVariables false
set_option linter.unusedSimpArgs false
def H.ofL (n : Nat) : Nat → List (Option Blk) → H
  | _, [] => ⟨.leaf, n⟩
  | k, o :: os => (H.ofL n (k + 1) os).set k o
theorem H.ofL_get (n : Nat) : ∀ (os : List (Option Blk)) (k m : Nat), (H.ofL n k os).get m = if k ≤ m then (os[m - k]?).join else none := by
  intro os
  induction os with
  | nil => intro k m; simp only [H.ofL]; split <;> rfl
  | cons o os ih =>
    intro k m
    simp only [H.ofL]; rw [H.get_set, ih]
    by_cases h : m = k
    · subst h; simp
    · rw [if_neg h]
      by_cases h2 : k ≤ m
      · rw [if_pos (by omega), if_pos h2, show m - k = (m - (k + 1)) + 1 by omega]; simp
      · rw [if_neg (by omega), if_neg h2]
theorem H.ofL_next (n : Nat) : ∀ (os : List (Option Blk)) (k : Nat), (H.ofL n k os).next = n := by
  intro os
  induction os with
  | nil => intro k; rfl
  | cons o os ih => intro k; simp only [H.ofL]; rw [H.next_set]; exact ih _
def args (os : List (Option Blk)) : H := H.ofL os.length 0 os
theorem args_get (os : List (Option Blk)) (m : Nat) : (args os).get m = (os[m]?).join := by unfold args; rw [H.ofL_get]; simp
theorem args_next (os : List (Option Blk)) : (args os).next = os.length := H.ofL_next ..
def rhoL (rs : List (Option Am.Loc)) : Rho := fun k => (rs[k]?).join
section
variable {α : Type} (K : Row α)
end
end Go.Proofs.Ytkfjlbdedjoojaa.Am
