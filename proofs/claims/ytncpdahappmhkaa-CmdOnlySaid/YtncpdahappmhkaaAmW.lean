/- Rows of records for the abstract machine: what a row holds, where; rows of one's own that grow; rows that come in. -/
import Derived.Test.YtncpdahappmhkaaAmV
import Derived.Deep.Slices
import Derived.DataReads
namespace Go.Proofs.Ytncpdahappmhkaa.Am
open Go
set_option linter.unusedVariables false
set_option linter.unusedSimpArgs false
theorem op_app {e : Env} {h : H} {x y : Operand} {a b : Value} {es bytes : Nat} {r : Value × H} (hx : ev e x = some a) (hy : ev e y = some b) (ha : appE h none es bytes a b = some r) : opE (.app es bytes x y) e h none = some r := by
  simp only [opE, hx, hy]; exact ha
theorem op_bin {e : Env} {h : H} {x y : Operand} {a b v : Value} {op : BinOp} (hx : ev e x = some a) (hy : ev e y = some b) (hv : binV op a b = some v) : opE (.bin op x y) e h none = some (v, h) := by
  simp only [opE, hx, hy, hv]

/-- Records of n plain cells. -/
structure Row (α : Type) where
  cells : α → List Value
  n : Nat
  len : ∀ x, (cells x).length = n
  pos : 0 < n
  pl : ∀ x, (cells x).all plain1 = true
variable {α : Type} (K : Row α)
def Row.flat (l : List α) : List Value := l.flatMap K.cells
theorem Row.flat_cons (x : α) (l : List α) : K.flat (x :: l) = K.cells x ++ K.flat l := rfl
theorem Row.flat_append (l m : List α) : K.flat (l ++ m) = K.flat l ++ K.flat m := by simp [Row.flat]
theorem Row.flat_one (x : α) : K.flat [x] = K.cells x := by simp [Row.flat]
theorem Row.flat_length (l : List α) : (K.flat l).length = l.length * K.n := by
  induction l with
  | nil => simp [Row.flat]
  | cons x l ih => rw [K.flat_cons, List.length_append, ih, K.len, List.length_cons, Nat.add_mul, Nat.one_mul, Nat.add_comm]
theorem Row.flat_plain (l : List α) : (K.flat l).all plain1 = true := by
  induction l with
  | nil => rfl
  | cons x l ih => rw [K.flat_cons, List.all_append, ih, K.pl]; rfl
theorem plain1_one {l : List Value} (h : l.all plain1 = true) : l.all (·.oneCell') = true :=
  List.all_eq_true.2 fun v hv => oneCell_of_plain1 (List.all_eq_true.1 h v hv)
theorem Row.flat_get : ∀ (l : List α) (j : Nat) (y : α), l[j]? = some y → ((K.flat l).drop (j * K.n)).take K.n = K.cells y := by
  intro l
  induction l with
  | nil => intro j y h; simp at h
  | cons x l ih =>
    intro j y h
    cases j with
    | zero => simp at h; subst h; rw [Nat.zero_mul, List.drop_zero, K.flat_cons, List.take_append_of_le_length (by rw [K.len]; exact Nat.le_refl _), List.take_of_length_le (by rw [K.len]; exact Nat.le_refl _)]
    | succ j =>
      simp at h
      rw [← ih j y h, K.flat_cons, show (j + 1) * K.n = (K.cells x).length + j * K.n by rw [K.len, Nat.add_mul, Nat.one_mul, Nat.add_comm], List.drop_append, List.drop_of_length_le (by omega), List.nil_append]
      congr 2; omega
theorem Row.flat_at {l : List α} {j k : Nat} {y : α} {v : Value} (hj : l[j]? = some y) (hk : (K.cells y)[k]? = some v) : (K.flat l)[j * K.n + k]? = some v := by
  have hkn : k < K.n := by have := (List.getElem?_eq_some_iff.1 hk).1; rw [K.len] at this; exact this
  rw [← K.flat_get l j y hj, List.getElem?_take, if_pos hkn, List.getElem?_drop] at hk
  exact hk
theorem Row.flat_cell {l : List α} {i : Nat} {v : Value} (h : (K.flat l)[i]? = some v) : ∃ j k y, i = j * K.n + k ∧ l[j]? = some y ∧ (K.cells y)[k]? = some v := by
  have hi := (List.getElem?_eq_some_iff.1 h).1
  rw [K.flat_length] at hi
  have hp := K.pos
  have hj : i / K.n < l.length := Nat.div_lt_of_lt_mul (by rw [Nat.mul_comm]; exact hi)
  have he : i = i / K.n * K.n + i % K.n := by rw [Nat.mul_comm]; exact (Nat.div_add_mod i K.n).symm
  refine ⟨i / K.n, i % K.n, l[i / K.n], he, List.getElem?_eq_getElem hj, ?_⟩
  rw [← K.flat_get l (i / K.n) _ (List.getElem?_eq_getElem hj), List.getElem?_take, if_pos (Nat.mod_lt _ hp), List.getElem?_drop, ← he]
  exact h
/-- A record of a row, whole, and one cell of it. -/
theorem Row.lds {l : List α} {h : H} {b es j : Nat} {ro : Bool} {y : α} (hb : h.get b = some ⟨K.flat l, es, ro⟩) (hy : l[j]? = some y) : h.lds ⟨b, 0 + j * K.n, none⟩ K.n = some (K.cells y) := by
  have hj := (List.getElem?_eq_some_iff.1 hy).1
  have : j * K.n + K.n ≤ l.length * K.n := by
    have := Nat.mul_le_mul_right K.n (by omega : j + 1 ≤ l.length); rw [Nat.add_mul, Nat.one_mul] at this; exact this
  rw [lds_at hb (by rw [K.flat_length]; omega), Nat.zero_add, K.flat_get l j y hy]
theorem Row.ld {l : List α} {h : H} {b es j k : Nat} {ro : Bool} {y : α} {v : Value} (hb : h.get b = some ⟨K.flat l, es, ro⟩) (hy : l[j]? = some y) (hk : (K.cells y)[k]? = some v) : h.ld ⟨b, 0 + j * K.n + k, none⟩ = some v :=
  ld_at hb (by rw [Nat.zero_add]; exact K.flat_at hy hk)

/-! ### A row of one's own that grows by appends of one -/
inductive Row.OS (lo : Nat) (h : H) : Value → List α → Prop
  | nil : Row.OS lo h (.slice none 0 0) []
  | row (p : Nat) (L : List α) (hg : h.get p = some ⟨K.flat L, K.n, false⟩) (h2 : lo ≤ p) (hl : p < h.next) (hne : L ≠ []) : Row.OS lo h (.slice (some ⟨p, 0, none⟩) L.length (2 * L.length)) L
def owns (v : Value) (p : Nat) : Prop := ∃ n c, v = .slice (some ⟨p, 0, none⟩) n c
variable {K} {lo : Nat}
theorem Row.OS.keep {h h' : H} {v : Value} {L : List α} (O : K.OS lo h v L) (hk : ∀ p, owns v p → p < h.next → h'.get p = h.get p) (hn : h.next ≤ h'.next) : K.OS lo h' v L := by
  cases O with
  | nil => exact .nil
  | row p L hg h2 hl hne => exact .row p L (by rw [hk p ⟨_, _, rfl⟩ hl]; exact hg) h2 (by omega) hne
theorem Row.OS.lt {h : H} {v : Value} {L : List α} (O : K.OS lo h v L) {p : Nat} (hp : owns v p) : lo ≤ p ∧ p < h.next := by
  obtain ⟨n, c, rfl⟩ := hp
  cases O with
  | row p L hg h2 hl hne => exact ⟨h2, hl⟩
theorem Row.OS.app {h : H} {v : Value} {L : List α} (O : K.OS lo h v L) {bytes : Nat} (hL : L.length < 1099511627776) (hby : (L.length + 1) * bytes ≤ 140737488355328) (y : α) {s : Nat} (hs : h.get s = some ⟨K.cells y, K.n, false⟩) (h1 : lo ≤ h.next) :
    ∃ v' h', appE h none K.n bytes v (.slice (some ⟨s, 0, none⟩) 1 3) = some (v', h') ∧ K.OS lo h' v' (L ++ [y]) ∧ h.next < h'.next ∧ (∀ p, owns v' p → p = h.next) ∧ (∀ p, p < h.next → ¬ owns v p → h'.get p = h.get p) := by
  have hall := plain1_one (K.pl y)
  have hsrc : srcCells h K.n 1 (.slice (some ⟨s, 0, none⟩) 1 3) = some (K.cells y) := by
    simp only [srcCells]; rw [Nat.one_mul, lds_at hs (by rw [K.len]; omega), List.drop_zero, List.take_of_length_le (by rw [K.len]; exact Nat.le_refl _)]
  cases O with
  | nil =>
    refine ⟨.slice (some ⟨h.next, 0, none⟩) 1 2, h.alloc ⟨K.cells y, K.n, false⟩, ?_, ?_, by show h.next < h.next + 1; omega, ?_, ?_⟩
    · simp only [appE, srcLen, hsrc]; rw [if_neg (by omega), if_pos ⟨by simpa using hby, by omega, hall⟩]; rfl
    · have := Row.OS.row (K := K) (lo := lo) (h := h.alloc ⟨K.cells y, K.n, false⟩) h.next [y] (by rw [K.flat_one]; exact H.get_new ..) h1 (by show h.next < h.next + 1; omega) (by simp)
      exact this
    · rintro p ⟨n, c, hp⟩; simp at hp; exact hp.1.symm
    · intro p hp _; rw [H.get_alloc, if_neg (by omega)]
  | row p L hg h2 hl hne =>
    refine ⟨.slice (some ⟨h.next, 0, none⟩) (L.length + 1) (2 * (L.length + 1)), (h.set p none).alloc ⟨K.flat L ++ K.cells y, K.n, false⟩, ?_, ?_, by show h.next < h.next + 1; omega, ?_, ?_⟩
    · simp only [appE, srcLen, hsrc]
      rw [if_neg (by omega), if_pos ⟨hby, by omega, hall⟩, lds_at hg (by rw [K.flat_length]; simp)]
      simp only
      rw [if_neg (by omega)]
      simp only [hg]
      rw [if_pos ⟨trivial, trivial, trivial⟩]
      have : ((K.flat L).drop 0).take (L.length * K.n) = K.flat L := by rw [List.drop_zero, List.take_of_length_le (by rw [K.flat_length]; exact Nat.le_refl _)]
      rw [this]
    · have := Row.OS.row (K := K) (lo := lo) (h := (h.set p none).alloc ⟨K.flat L ++ K.cells y, K.n, false⟩) h.next (L ++ [y]) (by rw [K.flat_append, K.flat_one]; exact H.get_new (h.set p none) _) h1 (by show h.next < h.next + 1; omega) (by simp)
      rw [List.length_append] at this; exact this
    · rintro q ⟨n, c, hq⟩; simp at hq; exact hq.1.symm
    · intro q hq hno
      have hqp : q ≠ p := fun e => hno ⟨_, _, by rw [e]⟩
      rw [H.get_alloc, H.next_set, if_neg (by omega), H.get_set, if_neg hqp]
end Go.Proofs.Ytncpdahappmhkaa.Am
