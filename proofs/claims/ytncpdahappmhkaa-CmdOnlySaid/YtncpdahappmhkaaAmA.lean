/- A small abstract machine for the model: a memory of named blocks, and how it stands to the model's memory. -/
import Derived.Calls
import Derived.Orders
import Derived.Below
import Derived.Laws.Sem
import Derived.Laws.World
import Derived.Laws.Cells
namespace Go.Proofs.Ytncpdahappmhkaa.Am
open Go
set_option linter.unusedVariables false
set_option linter.unusedSimpArgs false

/-- A block: its cells; how many cells an element of its slices has; is it never written? -/
structure Blk where
  cells : List Value
  es : Nat
  ro : Bool

inductive Tr where
  | leaf
  | node (l : Tr) (v : Option Blk) (r : Tr)

def Tr.get : Tr → Nat → Option Blk
  | .leaf, _ => none
  | .node l v r, n => if n = 0 then v else if n % 2 = 1 then l.get (n / 2) else r.get (n / 2 - 1)
def Tr.left : Tr → Tr | .leaf => .leaf | .node l _ _ => l
def Tr.right : Tr → Tr | .leaf => .leaf | .node _ _ r => r
def Tr.val : Tr → Option Blk | .leaf => none | .node _ v _ => v
def Tr.setK : Nat → Tr → Nat → Option Blk → Tr
  | 0, t, _, x => .node t.left x t.right
  | k + 1, t, n, x =>
    if n = 0 then .node t.left x t.right
    else if n % 2 = 1 then .node (Tr.setK k t.left (n / 2) x) t.val t.right
    else .node t.left t.val (Tr.setK k t.right (n / 2 - 1) x)
theorem Tr.get_left (t : Tr) (k : Nat) : t.left.get k = t.get (2 * k + 1) := by
  cases t with
  | leaf => rfl
  | node l v r =>
    show l.get k = _
    simp only [Tr.get]; rw [if_neg (by omega), if_pos (by omega)]; congr 1; omega
theorem Tr.get_right (t : Tr) (k : Nat) : t.right.get k = t.get (2 * k + 2) := by
  cases t with
  | leaf => rfl
  | node l v r =>
    show r.get k = _
    simp only [Tr.get]; rw [if_neg (by omega), if_neg (by omega)]; congr 1; omega
theorem Tr.get_val (t : Tr) : t.val = t.get 0 := by cases t <;> rfl
theorem Tr.get_setK : ∀ (k : Nat) (t : Tr) (n : Nat) (x : Option Blk), n ≤ k → ∀ m, (Tr.setK k t n x).get m = if m = n then x else t.get m := by
  intro k
  induction k with
  | zero =>
    intro t n x hn m
    obtain rfl : n = 0 := by omega
    simp only [Tr.setK, Tr.get]
    by_cases hm : m = 0
    · rw [if_pos hm, if_pos hm]
    · rw [if_neg hm, if_neg hm]
      split
      · rw [Tr.get_left]; congr 1; omega
      · rw [Tr.get_right]; congr 1; omega
  | succ k ih =>
    intro t n x hn m
    simp only [Tr.setK]
    by_cases h0 : n = 0
    · subst h0
      rw [if_pos rfl]; simp only [Tr.get]
      by_cases hm : m = 0
      · rw [if_pos hm, if_pos hm]
      · rw [if_neg hm, if_neg hm]
        split
        · rw [Tr.get_left]; congr 1; omega
        · rw [Tr.get_right]; congr 1; omega
    · rw [if_neg h0]
      by_cases h1 : n % 2 = 1
      · rw [if_pos h1]; simp only [Tr.get]
        by_cases hm : m = 0
        · rw [if_pos hm, if_neg (by omega), hm]; exact Tr.get_val t
        · rw [if_neg hm]
          by_cases hm1 : m % 2 = 1
          · rw [if_pos hm1, ih _ _ _ (by omega)]
            by_cases e : m = n
            · rw [if_pos (by rw [e]), if_pos e]
            · rw [if_neg (by omega), if_neg e, Tr.get_left]; congr 1; omega
          · rw [if_neg hm1, if_neg (by omega), Tr.get_right]; congr 1; omega
      · rw [if_neg h1]; simp only [Tr.get]
        by_cases hm : m = 0
        · rw [if_pos hm, if_neg (by omega), hm]; exact Tr.get_val t
        · rw [if_neg hm]
          by_cases hm1 : m % 2 = 1
          · rw [if_pos hm1, if_neg (by omega), Tr.get_left]; congr 1; omega
          · rw [if_neg hm1, ih _ _ _ (by omega)]
            by_cases e : m = n
            · rw [if_pos (by rw [e]), if_pos e]
            · rw [if_neg (by omega), if_neg e, Tr.get_right]; congr 1; omega

/-- A block that is put where it is already: the same tree. -/
theorem Tr.setK_self : ∀ (k : Nat) (t : Tr) (n : Nat), n ≤ k → ∀ {x : Blk}, t.get n = some x → Tr.setK k t n (some x) = t := by
  intro k
  induction k with
  | zero =>
    intro t n hn x h
    obtain rfl : n = 0 := by omega
    cases t with
    | leaf => cases h
    | node l v r => simp only [Tr.get, if_true] at h; subst h; rfl
  | succ k ih =>
    intro t n hn x h
    cases t with
    | leaf => cases h
    | node l v r =>
      simp only [Tr.get] at h
      simp only [Tr.setK, Tr.left, Tr.right, Tr.val]
      by_cases h0 : n = 0
      · rw [if_pos h0] at h ⊢; subst h; rfl
      · rw [if_neg h0] at h ⊢
        by_cases h1 : n % 2 = 1
        · rw [if_pos h1] at h ⊢; rw [ih l _ (by omega) h]
        · rw [if_neg h1] at h ⊢; rw [ih r _ (by omega) h]
/-- The abstract memory: blocks by their names; the names from 'next' on are free. -/
structure H where
  t : Tr
  next : Nat
def H.get (h : H) (n : Nat) : Option Blk := h.t.get n
def H.set (h : H) (n : Nat) (x : Option Blk) : H := { h with t := Tr.setK n h.t n x }
def H.up (h : H) (k : Nat) : H := { h with next := h.next + k }
theorem H.get_set (h : H) (n : Nat) (x : Option Blk) (m : Nat) : (h.set n x).get m = if m = n then x else h.get m := Tr.get_setK n h.t n x (Nat.le_refl _) m
theorem H.get_set_same (h : H) (n : Nat) (x : Option Blk) : (h.set n x).get n = x := by rw [H.get_set, if_pos rfl]
theorem H.get_set_ne (h : H) {n m : Nat} (x : Option Blk) (e : m ≠ n) : (h.set n x).get m = h.get m := by rw [H.get_set, if_neg e]
theorem H.next_set (h : H) (n : Nat) (x : Option Blk) : (h.set n x).next = h.next := rfl
theorem H.get_up (h : H) (k m : Nat) : (h.up k).get m = h.get m := rfl
theorem H.next_up (h : H) (k : Nat) : (h.up k).next = h.next + k := rfl

/-- A new block, under the next free name. -/
def H.alloc (h : H) (B : Blk) : H := (h.up 1).set h.next (some B)
theorem H.next_alloc (h : H) (B : Blk) : (h.alloc B).next = h.next + 1 := rfl
theorem H.get_alloc (h : H) (B : Blk) (m : Nat) : (h.alloc B).get m = if m = h.next then some B else h.get m := by
  rw [H.alloc, H.get_set, H.get_up]

/-- A place of the model: a block, where in it a name's cells begin, how many cells there are from there on that are the name's own, and how many an element has. -/
structure Loc where
  b : Nat
  o : Nat
  lim : Nat
  es : Nat
/-- Which place of the model a name stands for. -/
abbrev Rho := Nat → Option Loc
def Rho.le (r s : Rho) : Prop := ∀ n x, r n = some x → s n = some x
theorem Rho.le_refl (r : Rho) : r.le r := fun _ _ h => h
theorem Rho.le_trans {r s t : Rho} (h : r.le s) (k : s.le t) : r.le t := fun n x e => k n x (h n x e)

def AR (r : Rho) (a a' : Addr) : Prop := a.spot = none ∧ ∃ L, r a.block = some L ∧ a' = ⟨L.b, L.o + a.off, none⟩
theorem AR.mono {r s : Rho} {a a' : Addr} (h : AR r a a') (k : r.le s) : AR s a a' := by
  obtain ⟨h0, L, h1, h2⟩ := h; exact ⟨h0, L, k _ _ h1, h2⟩

/-- An abstract slice's cap: twice a number, and one more if the model's cap is just that number (else it is at least that). -/
inductive VR (r : Rho) : Value → Value → Prop
  | bool (b) : VR r (.bool b) (.bool b)
  | int (k n) : VR r (.int k n) (.int k n)
  | string (s) : VR r (.string s) (.string s)
  | ptr0 : VR r (.pointer none) (.pointer none)
  | ptr {a a'} (h : AR r a a') : VR r (.pointer (some a)) (.pointer (some a'))
  | sl0 : VR r (.slice none 0 0) (.slice none 0 0)
  | sl {a a' n c c'} (h : AR r a a' ∨ c' = 0) (h1 : n ≤ c') (h2 : c / 2 ≤ c') (h3 : c % 2 = 1 → c' = c / 2) (h4 : c % 2 = 0 → ∃ L, r a.block = some L ∧ a.off + c' * L.es ≤ L.lim) : VR r (.slice (some a) n c) (.slice (some a') n c')
  | func (fn) {x x' y y' : Array Value} (hx : x.size = x'.size) (h1 : ∀ (i : Nat) (v v' : Value), x[i]? = some v → x'[i]? = some v' → VR r v v')
      (hy : y.size = y'.size) (h2 : ∀ (i : Nat) (v v' : Value), y[i]? = some v → y'[i]? = some v' → VR r v v') : VR r (.func fn x y) (.func fn x' y')
  | func0 : VR r .nilFunc .nilFunc
  | iface (t) {v v'} (h : VR r v v') : VR r (.iface t v) (.iface t v')
  | iface0 : VR r .nilIface .nilIface
  | agg {x x' : Array Value} (hx : x.size = x'.size) (h1 : ∀ (i : Nat) (v v' : Value), x[i]? = some v → x'[i]? = some v' → VR r v v') : VR r (.agg x) (.agg x')
  | tuple {x x' : Array Value} (hx : x.size = x'.size) (h1 : ∀ (i : Nat) (v v' : Value), x[i]? = some v → x'[i]? = some v' → VR r v v') : VR r (.tuple x) (.tuple x')

theorem VR.mono {r s : Rho} (k : r.le s) {v v' : Value} (h : VR r v v') : VR s v v' := by
  induction h with
  | bool b => exact .bool b
  | int j n => exact .int j n
  | string s => exact .string s
  | ptr0 => exact .ptr0
  | ptr h => exact .ptr (h.mono k)
  | sl0 => exact .sl0
  | sl h h1 h2 h3 h4 => exact .sl (h.imp (·.mono k) id) h1 h2 h3 (fun e => let ⟨L, q1, q2⟩ := h4 e; ⟨L, k _ _ q1, q2⟩)
  | func fn hx _ hy _ i1 i2 => exact .func fn hx i1 hy i2
  | func0 => exact .func0
  | iface t _ ih => exact .iface t ih
  | iface0 => exact .iface0
  | agg hx _ ih => exact .agg hx ih
  | tuple hx _ ih => exact .tuple hx ih

theorem VR.oneCell {r : Rho} {v v' : Value} (h : VR r v v') : v'.oneCell' = v.oneCell' := by cases h <;> rfl

/-- Lists of values, one against the other. -/
def VL (r : Rho) (l l' : List Value) : Prop := l.length = l'.length ∧ ∀ (i : Nat) (v v' : Value), l[i]? = some v → l'[i]? = some v' → VR r v v'
theorem VL.mono {r s : Rho} (k : r.le s) {l l' : List Value} (h : VL r l l') : VL s l l' := ⟨h.1, fun i v v' a b => (h.2 i v v' a b).mono k⟩
theorem VL.nil (r : Rho) : VL r [] [] := ⟨rfl, fun i v v' h => by simp at h⟩
theorem VL.cons {r : Rho} {v v' : Value} {l l' : List Value} (h : VR r v v') (k : VL r l l') : VL r (v :: l) (v' :: l') := by
  refine ⟨by simp [k.1], fun i x x' a b => ?_⟩
  cases i with
  | zero => simp at a b; subst a b; exact h
  | succ i => simp at a b; exact k.2 i x x' a b
theorem VL.append {r : Rho} {l l' m m' : List Value} (h : VL r l l') (k : VL r m m') : VL r (l ++ m) (l' ++ m') := by
  refine ⟨by simp [h.1, k.1], fun i x x' a b => ?_⟩
  rw [List.getElem?_append] at a b
  rw [h.1] at a
  split at a
  · rename_i hi; rw [if_pos hi] at b; exact h.2 i x x' a b
  · rename_i hi; rw [if_neg hi] at b; exact k.2 _ x x' a b
theorem VL.get {r : Rho} {l l' : List Value} (h : VL r l l') {i : Nat} {v : Value} (e : l[i]? = some v) : ∃ v', l'[i]? = some v' ∧ VR r v v' := by
  have hi : i < l'.length := by rw [← h.1]; exact (List.getElem?_eq_some_iff.1 e).1
  exact ⟨l'[i], List.getElem?_eq_getElem hi, h.2 i v _ e (List.getElem?_eq_getElem hi)⟩
theorem VL.get' {r : Rho} {l l' : List Value} (h : VL r l l') {i : Nat} {v' : Value} (e : l'[i]? = some v') : ∃ v, l[i]? = some v ∧ VR r v v' := by
  have hi : i < l.length := by rw [h.1]; exact (List.getElem?_eq_some_iff.1 e).1
  exact ⟨l[i], List.getElem?_eq_getElem hi, h.2 i _ v' (List.getElem?_eq_getElem hi) e⟩
theorem VL.of_get {r : Rho} {l l' : List Value} (hl : l.length = l'.length) (h : ∀ (i : Nat) (v : Value), l[i]? = some v → ∃ v', l'[i]? = some v' ∧ VR r v v') : VL r l l' :=
  ⟨hl, fun i v v' a b => by obtain ⟨x, hx, k⟩ := h i v a; rw [b] at hx; cases hx; exact k⟩
theorem VL.take {r : Rho} {l l' : List Value} (h : VL r l l') (n : Nat) : VL r (l.take n) (l'.take n) := by
  refine ⟨by simp [h.1], fun i v v' a b => ?_⟩
  rw [List.getElem?_take] at a b
  split at a
  · rename_i hi; rw [if_pos hi] at b; exact h.2 i v v' a b
  · simp at a
theorem VL.drop {r : Rho} {l l' : List Value} (h : VL r l l') (n : Nat) : VL r (l.drop n) (l'.drop n) := by
  refine ⟨by simp [h.1], fun i v v' a b => ?_⟩
  rw [List.getElem?_drop] at a b
  exact h.2 _ v v' a b
theorem VL.set {r : Rho} {l l' : List Value} {v v' : Value} (h : VL r l l') (k : VR r v v') (n : Nat) : VL r (l.set n v) (l'.set n v') := by
  refine ⟨by simp [h.1], fun i x x' a b => ?_⟩
  rw [List.getElem?_set] at a b
  by_cases e : n = i
  · rw [if_pos e] at a b
    split at a
    · split at b
      · cases a; cases b; exact k
      · simp at b
    · simp at a
  · rw [if_neg e] at a b; exact h.2 i x x' a b

theorem VR.cells {r : Rho} {v v' : Value} (h : VR r v v') : VL r v.cells.toList v'.cells.toList := by
  have one : ∀ {u u' : Value}, VR r u u' → VL r #[u].toList #[u'].toList := fun k => VL.cons k (VL.nil r)
  cases h with
  | agg hx h1 => exact ⟨by simpa [Value.cells] using hx, fun i v v' a b => h1 i v v' (by simpa [Value.cells] using a) (by simpa [Value.cells] using b)⟩
  | bool b => exact one (.bool b)
  | int j n => exact one (.int j n)
  | string s => exact one (.string s)
  | ptr0 => exact one .ptr0
  | ptr h => exact one (.ptr h)
  | sl0 => exact one .sl0
  | sl h h1 h2 h3 h4 => exact one (.sl h h1 h2 h3 h4)
  | func fn hx h1 hy h2 => exact one (.func fn hx h1 hy h2)
  | func0 => exact one .func0
  | iface t k => exact one (.iface t k)
  | iface0 => exact one .iface0
  | tuple hx h1 => exact one (.tuple hx h1)
theorem VR.ofAgg {r : Rho} {l l' : List Value} (h : VL r l l') : VR r (.agg l.toArray) (.agg l'.toArray) :=
  .agg (by simpa using h.1) fun i v v' a b => h.2 i v v' (by simpa using a) (by simpa using b)
theorem VR.ofTuple {r : Rho} {l l' : List Value} (h : VL r l l') : VR r (.tuple l.toArray) (.tuple l'.toArray) :=
  .tuple (by simpa using h.1) fun i v v' a b => h.2 i v v' (by simpa using a) (by simpa using b)

/-- The abstract memory as the model's memory has it. Blocks that may be written lie from 'base' on, each in a block of its own. -/
structure Rel (base : Nat) (r : Rho) (h : H) (w : World) : Prop where
  cells : ∀ n B, h.get n = some B → ∃ L c e fz, r n = some L ∧ w.heap[L.b]? = some (.cells c e fz) ∧ L.es = B.es ∧ B.cells.length ≤ L.lim ∧ L.o + L.lim ≤ c.size ∧
    (B.ro = false → base ≤ L.b ∧ ∀ k, L.o ≤ k → k < L.o + L.lim → ¬ (fz.1 ≤ k ∧ k < fz.2)) ∧
    (∀ (i : Nat) (v : Value), B.cells[i]? = some v → v.oneCell' = true ∧ ∃ v', c[L.o + i]? = some v' ∧ VR r v v')
  inj : ∀ n m Bn Bm L M, h.get n = some Bn → h.get m = some Bm → n ≠ m → Bn.ro = false → r n = some L → r m = some M → L.b ≠ M.b
  new : ∀ n, h.next ≤ n → r n = none
  size : base ≤ w.heap.size
  ro : ∀ n B L, h.get n = some B → B.ro = true → r n = some L → L.b < base

theorem Rel.lt {base : Nat} {r : Rho} {h : H} {w : World} (R : Rel base r h w) {n : Nat} {B : Blk} (e : h.get n = some B) : n < h.next := by
  obtain ⟨L, _, _, _, h1, _⟩ := R.cells n B e
  rcases Nat.lt_or_ge n h.next with h' | h'
  · exact h'
  · rw [R.new n h'] at h1; cases h1

/-- What a step leaves alone: every block of the model that no written name stands for. -/
structure Fr (base : Nat) (r : Rho) (h : H) (w : World) (r' : Rho) (h' : H) (w' : World) : Prop where
  le : r.le r'
  next : h.next ≤ h'.next
  size : w.heap.size ≤ w'.heap.size
  os : w'.os = w.os
  tape : w'.tape = w.tape
  output : w'.output = w.output
  keep : ∀ b, b < w.heap.size → (∀ n B L, h.get n = some B → B.ro = false → r n = some L → L.b ≠ b) → w'.heap[b]? = w.heap[b]?
  cov : ∀ n B L, h'.get n = some B → B.ro = false → r' n = some L → L.b < w.heap.size → ∃ m Bm M, h.get m = some Bm ∧ Bm.ro = false ∧ r m = some M ∧ M.b = L.b
theorem Fr.refl (base : Nat) (r : Rho) (h : H) (w : World) : Fr base r h w r h w :=
  ⟨Rho.le_refl r, Nat.le_refl _, Nat.le_refl _, rfl, rfl, rfl, fun _ _ _ => rfl, fun n B L h1 h2 h3 _ => ⟨n, B, L, h1, h2, h3, rfl⟩⟩
theorem Fr.trans {base : Nat} {r s t : Rho} {h k l : H} {w x y : World} (a : Fr base r h w s k x) (b : Fr base s k x t l y) : Fr base r h w t l y := by
  refine ⟨Rho.le_trans a.le b.le, Nat.le_trans a.next b.next, Nat.le_trans a.size b.size, b.os.trans a.os, b.tape.trans a.tape, b.output.trans a.output, fun q hq hn => ?_, fun n B L h1 h2 h3 h4 => ?_⟩
  · rw [b.keep q (Nat.lt_of_lt_of_le hq a.size) ?_]
    · exact a.keep q hq hn
    · intro n B L h1 h2 h3 h4
      subst h4
      obtain ⟨m, Bm, M, k1, k2, k3, k4⟩ := a.cov n B L h1 h2 h3 hq
      exact hn m Bm M k1 k2 k3 k4
  · obtain ⟨m, Bm, M, k1, k2, k3, k4⟩ := b.cov n B L h1 h2 h3 (Nat.lt_of_lt_of_le h4 a.size)
    obtain ⟨m', Bm', M', j1, j2, j3, j4⟩ := a.cov m Bm M k1 k2 k3 (by rw [k4]; exact h4)
    exact ⟨m', Bm', M', j1, j2, j3, j4.trans k4⟩
theorem Fr.below {base : Nat} {r r' : Rho} {h h' : H} {w w' : World} (R : Rel base r h w) (f : Fr base r h w r' h' w') : Go.RowKit.Below base w w' := by
  refine ⟨f.os, f.tape, f.output, f.size, fun k hk => ?_⟩
  refine f.keep k (Nat.lt_of_lt_of_le hk R.size) fun n B L h1 h2 h3 h4 => ?_
  obtain ⟨M, _, _, _, g1, _, _, _, _, g2, _⟩ := R.cells n B h1
  rw [h3] at g1; cases g1
  have := (g2 h2).1; omega

/-- A draw. -/
theorem Rel.drew {base : Nat} {r : Rho} {h : H} {w : World} (R : Rel base r h w) : Rel base r h w.drew := ⟨R.cells, R.inj, R.new, R.size, R.ro⟩
theorem Fr.drew {base : Nat} {r s : Rho} {h k : H} {w x : World} (f : Fr base r h w s k x) : Fr base r h w s k x.drew := ⟨f.le, f.next, f.size, f.os, f.tape, f.output, f.keep, f.cov⟩
theorem Fr.drew' {base : Nat} {r s : Rho} {h k : H} {w x : World} (f : Fr base r h w.drew s k x) : Fr base r h w s k x := ⟨f.le, f.next, f.size, f.os, f.tape, f.output, f.keep, f.cov⟩
theorem Rel.up {base : Nat} {r : Rho} {h : H} {w : World} (R : Rel base r h w) (k : Nat) : Rel base r (h.up k) w :=
  ⟨fun n B e => R.cells n B e, fun n m Bn Bm L M e1 e2 => R.inj n m Bn Bm L M e1 e2, fun n hn => R.new n (by rw [H.next_up] at hn; omega), R.size, fun n B L e => R.ro n B L e⟩
theorem Fr.up (base : Nat) (r : Rho) (h : H) (w : World) (k : Nat) : Fr base r h w r (h.up k) w :=
  ⟨Rho.le_refl r, Nat.le_add_right _ _, Nat.le_refl _, rfl, rfl, rfl, fun _ _ _ => rfl, fun n B L h1 h2 h3 _ => ⟨n, B, L, h1, h2, h3, rfl⟩⟩

def Rho.put (r : Rho) (n : Nat) (x : Loc) : Rho := fun m => if m = n then some x else r m
theorem Rho.le_put {r : Rho} {n : Nat} {x : Loc} (h : r n = none) : r.le (r.put n x) := fun m y e => by
  unfold Rho.put
  split
  · rename_i hm; subst hm; rw [h] at e; cases e
  · exact e
theorem Rho.put_same (r : Rho) (n : Nat) (x : Loc) : r.put n x n = some x := by simp [Rho.put]
theorem Rho.put_ne (r : Rho) {n m : Nat} (x : Loc) (h : m ≠ n) : r.put n x m = r m := by simp [Rho.put, h]

/-- A new block of the model under a free name below 'next'; the abstract cells are its first ones. -/
theorem Rel.new_at {base : Nat} {r : Rho} {h : H} {w : World} (R : Rel base r h w) {nm : Nat} (hn : nm < h.next) (hf : r nm = none) {cs : List Value} {c : Array Value} {e : TypeId} {es lim : Nat}
    (hl : cs.length ≤ lim) (hl2 : lim ≤ c.size) (hc : ∀ (i : Nat) (v : Value), cs[i]? = some v → v.oneCell' = true ∧ ∃ v', c[i]? = some v' ∧ VR r v v') :
    Rel base (r.put nm ⟨w.heap.size, 0, lim, es⟩) (h.set nm (some ⟨cs, es, false⟩)) (w.alloc (.cells c e)) ∧
      Fr base r h w (r.put nm ⟨w.heap.size, 0, lim, es⟩) (h.set nm (some ⟨cs, es, false⟩)) (w.alloc (.cells c e)) := by
  have hle : r.le (r.put nm ⟨w.heap.size, 0, lim, es⟩) := Rho.le_put hf
  have hblk : ∀ {n B L}, h.get n = some B → r n = some L → L.b < w.heap.size := fun {n B L} e1 e2 => by
    obtain ⟨L', c', e', fz, g1, g2, _⟩ := R.cells n B e1
    rw [e2] at g1; cases g1
    exact (Array.getElem?_eq_some_iff.1 g2).1
  refine ⟨⟨fun n B he => ?_, fun n m Bn Bm L M h1 h2 hne hro h3 h4 => ?_, fun n hn' => ?_, by have := R.size; simp; omega, fun n B L h1 h2 h3 => ?_⟩, ?_⟩
  · rw [H.get_set] at he
    split at he
    · rename_i hnm; subst hnm; cases he
      refine ⟨⟨w.heap.size, 0, lim, es⟩, c, e, (0, 0), Rho.put_same .., by show (w.heap.push _)[w.heap.size]? = _; simp, rfl, hl, by simpa using hl2, fun _ => ⟨R.size, fun k _ _ => by omega⟩, fun i v hv => ?_⟩
      obtain ⟨h1, v', h2, h3⟩ := hc i v hv
      exact ⟨h1, v', by simpa using h2, h3.mono hle⟩
    · rename_i hnm
      obtain ⟨L, c', e', fz, g1, g2, g3, g4, g5, g6, g7⟩ := R.cells n B he
      refine ⟨L, c', e', fz, hle _ _ g1, ?_, g3, g4, g5, g6, fun i v hv => ?_⟩
      · rw [Go.RowKit.Below.heap_alloc _ _ _ (hblk he g1)]; exact g2
      · obtain ⟨k1, v', k2, k3⟩ := g7 i v hv
        exact ⟨k1, v', k2, k3.mono hle⟩
  · rw [H.get_set] at h1 h2
    by_cases e1 : n = nm
    · subst e1
      rw [Rho.put_same] at h3; cases h3
      rw [if_neg (fun q => hne q.symm)] at h2
      rw [Rho.put_ne _ _ (fun q => hne q.symm)] at h4
      have := hblk h2 h4; simp only; omega
    · rw [if_neg e1] at h1; rw [Rho.put_ne _ _ e1] at h3
      by_cases e2 : m = nm
      · subst e2
        rw [Rho.put_same] at h4; cases h4
        have := hblk h1 h3; simp only; omega
      · rw [if_neg e2] at h2; rw [Rho.put_ne _ _ e2] at h4
        exact R.inj n m Bn Bm L M h1 h2 hne hro h3 h4
  · rw [H.next_set] at hn'
    rw [Rho.put_ne _ _ (by omega)]; exact R.new n hn'
  · rw [H.get_set] at h1
    split at h1
    · cases h1; cases h2
    · rename_i e1; rw [Rho.put_ne _ _ e1] at h3; exact R.ro n B L h1 h2 h3
  · refine ⟨hle, Nat.le_refl _, by simp, rfl, rfl, rfl, fun b hb _ => Go.RowKit.Below.heap_alloc _ _ _ hb, fun n B L h1 h2 h3 h4 => ?_⟩
    rw [H.get_set] at h1
    split at h1
    · rename_i e1; subst e1; rw [Rho.put_same] at h3; cases h3; simp only at h4; omega
    · rename_i e1; rw [Rho.put_ne _ _ e1] at h3; exact ⟨n, B, L, h1, h2, h3, rfl⟩
end Go.Proofs.Ytncpdahappmhkaa.Am
