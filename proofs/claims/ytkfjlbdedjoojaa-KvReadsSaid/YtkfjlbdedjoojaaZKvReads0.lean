/- The law 'KvReads' returns true for all arguments: what its proof stands on, part 0. -/
import Derived.Calls
import Derived.Orders
import Derived.Below
import Derived.Laws.Sem
import Derived.Laws.World
import Derived.Laws.Cells
namespace Go.Proofs.Ytkfjlbdedjoojaa.Am
open Go
set_option linter.unusedVariables false
set_option linter.unusedSimpArgs false
structure Blk where
  cells : List Value
  es : Nat
  ro : Bool
inductive Tr where
  | leaf
  | node (l : Tr) (v : Option Blk) (r : Tr)
def Tr.get : Tr → Nat → Option Blk
  | .leaf, _ => none
  | .node l v r, n => if n = 0 then v else if n % 2 = 1 then l.get (n / 2) else r.get (n / 2 - 1)
def Tr.left : Tr → Tr | .leaf => .leaf | .node l _ _ => l
def Tr.right : Tr → Tr | .leaf => .leaf | .node _ _ r => r
def Tr.val : Tr → Option Blk | .leaf => none | .node _ v _ => v
def Tr.setK : Nat → Tr → Nat → Option Blk → Tr
  | 0, t, _, x => .node t.left x t.right
  | k + 1, t, n, x =>
    if n = 0 then .node t.left x t.right
    else if n % 2 = 1 then .node (Tr.setK k t.left (n / 2) x) t.val t.right
    else .node t.left t.val (Tr.setK k t.right (n / 2 - 1) x)
theorem Tr.get_left (t : Tr) (k : Nat) : t.left.get k = t.get (2 * k + 1) := by
  cases t with
  | leaf => rfl
  | node l v r =>
    show l.get k = _
    simp only [Tr.get]; rw [if_neg (by omega), if_pos (by omega)]; congr 1; omega
theorem Tr.get_right (t : Tr) (k : Nat) : t.right.get k = t.get (2 * k + 2) := by
  cases t with
  | leaf => rfl
  | node l v r =>
    show r.get k = _
    simp only [Tr.get]; rw [if_neg (by omega), if_neg (by omega)]; congr 1; omega
theorem Tr.get_val (t : Tr) : t.val = t.get 0 := by cases t <;> rfl
theorem Tr.get_setK : ∀ (k : Nat) (t : Tr) (n : Nat) (x : Option Blk), n ≤ k → ∀ m, (Tr.setK k t n x).get m = if m = n then x else t.get m := by
  intro k
  induction k with
  | zero =>
    intro t n x hn m
    obtain rfl : n = 0 := by omega
    simp only [Tr.setK, Tr.get]
    by_cases hm : m = 0
    · rw [if_pos hm, if_pos hm]
    · rw [if_neg hm, if_neg hm]
      split
      · rw [Tr.get_left]; congr 1; omega
      · rw [Tr.get_right]; congr 1; omega
  | succ k ih =>
    intro t n x hn m
    simp only [Tr.setK]
    by_cases h0 : n = 0
    · subst h0
      rw [if_pos rfl]; simp only [Tr.get]
      by_cases hm : m = 0
      · rw [if_pos hm, if_pos hm]
      · rw [if_neg hm, if_neg hm]
        split
        · rw [Tr.get_left]; congr 1; omega
        · rw [Tr.get_right]; congr 1; omega
    · rw [if_neg h0]
      by_cases h1 : n % 2 = 1
      · rw [if_pos h1]; simp only [Tr.get]
        by_cases hm : m = 0
        · rw [if_pos hm, if_neg (by omega), hm]; exact Tr.get_val t
        · rw [if_neg hm]
          by_cases hm1 : m % 2 = 1
          · rw [if_pos hm1, ih _ _ _ (by omega)]
            by_cases e : m = n
            · rw [if_pos (by rw [e]), if_pos e]
            · rw [if_neg (by omega), if_neg e, Tr.get_left]; congr 1; omega
          · rw [if_neg hm1, if_neg (by omega), Tr.get_right]; congr 1; omega
      · rw [if_neg h1]; simp only [Tr.get]
        by_cases hm : m = 0
        · rw [if_pos hm, if_neg (by omega), hm]; exact Tr.get_val t
        · rw [if_neg hm]
          by_cases hm1 : m % 2 = 1
          · rw [if_pos hm1, if_neg (by omega), Tr.get_left]; congr 1; omega
          · rw [if_neg hm1, ih _ _ _ (by omega)]
            by_cases e : m = n
            · rw [if_pos (by rw [e]), if_pos e]
            · rw [if_neg (by omega), if_neg e, Tr.get_right]; congr 1; omega
theorem Tr.setK_self : ∀ (k : Nat) (t : Tr) (n : Nat), n ≤ k → ∀ {x : Blk}, t.get n = some x → Tr.setK k t n (some x) = t := by
  intro k
  induction k with
  | zero =>
    intro t n hn x h
    obtain rfl : n = 0 := by omega
    cases t with
    | leaf => cases h
    | node l v r => simp only [Tr.get, if_true] at h; subst h; rfl
  | succ k ih =>
    intro t n hn x h
    cases t with
    | leaf => cases h
    | node l v r =>
      simp only [Tr.get] at h
      simp only [Tr.setK, Tr.left, Tr.right, Tr.val]
      by_cases h0 : n = 0
      · rw [if_pos h0] at h ⊢; subst h; rfl
      · rw [if_neg h0] at h ⊢
        by_cases h1 : n % 2 = 1
        · rw [if_pos h1] at h ⊢; rw [ih l _ (by omega) h]
        · rw [if_neg h1] at h ⊢; rw [ih r _ (by omega) h]
structure H where
  t : Tr
  next : Nat
def H.get (h : H) (n : Nat) : Option Blk := h.t.get n
def H.set (h : H) (n : Nat) (x : Option Blk) : H := { h with t := Tr.setK n h.t n x }
def H.up (h : H) (k : Nat) : H := { h with next := h.next + k }
theorem H.get_set (h : H) (n : Nat) (x : Option Blk) (m : Nat) : (h.set n x).get m = if m = n then x else h.get m := Tr.get_setK n h.t n x (Nat.le_refl _) m
theorem H.get_set_same (h : H) (n : Nat) (x : Option Blk) : (h.set n x).get n = x := by rw [H.get_set, if_pos rfl]
theorem H.get_set_ne (h : H) {n m : Nat} (x : Option Blk) (e : m ≠ n) : (h.set n x).get m = h.get m := by rw [H.get_set, if_neg e]
theorem H.next_set (h : H) (n : Nat) (x : Option Blk) : (h.set n x).next = h.next := rfl
theorem H.get_up (h : H) (k m : Nat) : (h.up k).get m = h.get m := rfl
theorem H.next_up (h : H) (k : Nat) : (h.up k).next = h.next + k := rfl
def H.alloc (h : H) (B : Blk) : H := (h.up 1).set h.next (some B)
theorem H.get_alloc (h : H) (B : Blk) (m : Nat) : (h.alloc B).get m = if m = h.next then some B else h.get m := by
  rw [H.alloc, H.get_set, H.get_up]
structure Loc where
  b : Nat
  o : Nat
  lim : Nat
  es : Nat
abbrev Rho := Nat → Option Loc
def Rho.le (r s : Rho) : Prop := ∀ n x, r n = some x → s n = some x
theorem Rho.le_refl (r : Rho) : r.le r := fun _ _ h => h
theorem Rho.le_trans {r s t : Rho} (h : r.le s) (k : s.le t) : r.le t := fun n x e => k n x (h n x e)
def AR (r : Rho) (a a' : Addr) : Prop := a.spot = none ∧ ∃ L, r a.block = some L ∧ a' = ⟨L.b, L.o + a.off, none⟩
theorem AR.mono {r s : Rho} {a a' : Addr} (h : AR r a a') (k : r.le s) : AR s a a' := by
  obtain ⟨h0, L, h1, h2⟩ := h; exact ⟨h0, L, k _ _ h1, h2⟩
inductive VR (r : Rho) : Value → Value → Prop
  | bool (b) : VR r (.bool b) (.bool b)
  | int (k n) : VR r (.int k n) (.int k n)
  | string (s) : VR r (.string s) (.string s)
  | ptr0 : VR r (.pointer none) (.pointer none)
  | ptr {a a'} (h : AR r a a') : VR r (.pointer (some a)) (.pointer (some a'))
  | sl0 : VR r (.slice none 0 0) (.slice none 0 0)
  | sl {a a' n c c'} (h : AR r a a' ∨ c' = 0) (h1 : n ≤ c') (h2 : c / 2 ≤ c') (h3 : c % 2 = 1 → c' = c / 2) (h4 : c % 2 = 0 → ∃ L, r a.block = some L ∧ a.off + c' * L.es ≤ L.lim) : VR r (.slice (some a) n c) (.slice (some a') n c')
  | func (fn) {x x' y y' : Array Value} (hx : x.size = x'.size) (h1 : ∀ (i : Nat) (v v' : Value), x[i]? = some v → x'[i]? = some v' → VR r v v')
      (hy : y.size = y'.size) (h2 : ∀ (i : Nat) (v v' : Value), y[i]? = some v → y'[i]? = some v' → VR r v v') : VR r (.func fn x y) (.func fn x' y')
  | func0 : VR r .nilFunc .nilFunc
  | iface (t) {v v'} (h : VR r v v') : VR r (.iface t v) (.iface t v')
  | iface0 : VR r .nilIface .nilIface
  | agg {x x' : Array Value} (hx : x.size = x'.size) (h1 : ∀ (i : Nat) (v v' : Value), x[i]? = some v → x'[i]? = some v' → VR r v v') : VR r (.agg x) (.agg x')
  | tuple {x x' : Array Value} (hx : x.size = x'.size) (h1 : ∀ (i : Nat) (v v' : Value), x[i]? = some v → x'[i]? = some v' → VR r v v') : VR r (.tuple x) (.tuple x')
theorem VR.mono {r s : Rho} (k : r.le s) {v v' : Value} (h : VR r v v') : VR s v v' := by
  induction h with
  | bool b => exact .bool b
  | int j n => exact .int j n
  | string s => exact .string s
  | ptr0 => exact .ptr0
  | ptr h => exact .ptr (h.mono k)
  | sl0 => exact .sl0
  | sl h h1 h2 h3 h4 => exact .sl (h.imp (·.mono k) id) h1 h2 h3 (fun e => let ⟨L, q1, q2⟩ := h4 e; ⟨L, k _ _ q1, q2⟩)
  | func fn hx _ hy _ i1 i2 => exact .func fn hx i1 hy i2
  | func0 => exact .func0
  | iface t _ ih => exact .iface t ih
  | iface0 => exact .iface0
  | agg hx _ ih => exact .agg hx ih
  | tuple hx _ ih => exact .tuple hx ih
theorem VR.oneCell {r : Rho} {v v' : Value} (h : VR r v v') : v'.oneCell' = v.oneCell' := by cases h <;> rfl
def VL (r : Rho) (l l' : List Value) : Prop := l.length = l'.length ∧ ∀ (i : Nat) (v v' : Value), l[i]? = some v → l'[i]? = some v' → VR r v v'
theorem VL.nil (r : Rho) : VL r [] [] := ⟨rfl, fun i v v' h => by simp at h⟩
theorem VL.cons {r : Rho} {v v' : Value} {l l' : List Value} (h : VR r v v') (k : VL r l l') : VL r (v :: l) (v' :: l') := by
  refine ⟨by simp [k.1], fun i x x' a b => ?_⟩
  cases i with
  | zero => simp at a b; subst a b; exact h
  | succ i => simp at a b; exact k.2 i x x' a b
theorem VL.append {r : Rho} {l l' m m' : List Value} (h : VL r l l') (k : VL r m m') : VL r (l ++ m) (l' ++ m') := by
  refine ⟨by simp [h.1, k.1], fun i x x' a b => ?_⟩
  rw [List.getElem?_append] at a b
  rw [h.1] at a
  split at a
  · rename_i hi; rw [if_pos hi] at b; exact h.2 i x x' a b
  · rename_i hi; rw [if_neg hi] at b; exact k.2 _ x x' a b
theorem VL.get {r : Rho} {l l' : List Value} (h : VL r l l') {i : Nat} {v : Value} (e : l[i]? = some v) : ∃ v', l'[i]? = some v' ∧ VR r v v' := by
  have hi : i < l'.length := by rw [← h.1]; exact (List.getElem?_eq_some_iff.1 e).1
  exact ⟨l'[i], List.getElem?_eq_getElem hi, h.2 i v _ e (List.getElem?_eq_getElem hi)⟩
theorem VL.get' {r : Rho} {l l' : List Value} (h : VL r l l') {i : Nat} {v' : Value} (e : l'[i]? = some v') : ∃ v, l[i]? = some v ∧ VR r v v' := by
  have hi : i < l.length := by rw [h.1]; exact (List.getElem?_eq_some_iff.1 e).1
  exact ⟨l[i], List.getElem?_eq_getElem hi, h.2 i _ v' (List.getElem?_eq_getElem hi) e⟩
theorem VL.of_get {r : Rho} {l l' : List Value} (hl : l.length = l'.length) (h : ∀ (i : Nat) (v : Value), l[i]? = some v → ∃ v', l'[i]? = some v' ∧ VR r v v') : VL r l l' :=
  ⟨hl, fun i v v' a b => by obtain ⟨x, hx, k⟩ := h i v a; rw [b] at hx; cases hx; exact k⟩
theorem VL.take {r : Rho} {l l' : List Value} (h : VL r l l') (n : Nat) : VL r (l.take n) (l'.take n) := by
  refine ⟨by simp [h.1], fun i v v' a b => ?_⟩
  rw [List.getElem?_take] at a b
  split at a
  · rename_i hi; rw [if_pos hi] at b; exact h.2 i v v' a b
  · simp at a
theorem VL.drop {r : Rho} {l l' : List Value} (h : VL r l l') (n : Nat) : VL r (l.drop n) (l'.drop n) := by
  refine ⟨by simp [h.1], fun i v v' a b => ?_⟩
  rw [List.getElem?_drop] at a b
  exact h.2 _ v v' a b
theorem VR.cells {r : Rho} {v v' : Value} (h : VR r v v') : VL r v.cells.toList v'.cells.toList := by
  have one : ∀ {u u' : Value}, VR r u u' → VL r #[u].toList #[u'].toList := fun k => VL.cons k (VL.nil r)
  cases h with
  | agg hx h1 => exact ⟨by simpa [Value.cells] using hx, fun i v v' a b => h1 i v v' (by simpa [Value.cells] using a) (by simpa [Value.cells] using b)⟩
  | bool b => exact one (.bool b)
  | int j n => exact one (.int j n)
  | string s => exact one (.string s)
  | ptr0 => exact one .ptr0
  | ptr h => exact one (.ptr h)
  | sl0 => exact one .sl0
  | sl h h1 h2 h3 h4 => exact one (.sl h h1 h2 h3 h4)
  | func fn hx h1 hy h2 => exact one (.func fn hx h1 hy h2)
  | func0 => exact one .func0
  | iface t k => exact one (.iface t k)
  | iface0 => exact one .iface0
  | tuple hx h1 => exact one (.tuple hx h1)
theorem VR.ofAgg {r : Rho} {l l' : List Value} (h : VL r l l') : VR r (.agg l.toArray) (.agg l'.toArray) :=
  .agg (by simpa using h.1) fun i v v' a b => h.2 i v v' (by simpa using a) (by simpa using b)
theorem VR.ofTuple {r : Rho} {l l' : List Value} (h : VL r l l') : VR r (.tuple l.toArray) (.tuple l'.toArray) :=
  .tuple (by simpa using h.1) fun i v v' a b => h.2 i v v' (by simpa using a) (by simpa using b)
def HidC (r : Rho) (c : Array Value) (L : Loc) (fz : Nat × Nat) : Prop := (∀ k, k < L.lim → ∃ s v v', c[L.o + k]? = some v' ∧ v.oneCell' = true ∧ VR s v v') ∧ fz = (0, 0)
theorem HidC.mono {r s : Rho} {c : Array Value} {L : Loc} {fz : Nat × Nat} (k : r.le s) (h : HidC r c L fz) : HidC s c L fz := h
structure Rel (base : Nat) (r : Rho) (h : H) (w : World) : Prop where
  cells : ∀ n B, h.get n = some B → ∃ L c e fz, r n = some L ∧ w.heap[L.b]? = some (.cells c e fz) ∧ L.es = B.es ∧ B.cells.length ≤ L.lim ∧ L.o + L.lim ≤ c.size ∧
    (B.ro = false → base ≤ L.b ∧ ∀ k, L.o ≤ k → k < L.o + L.lim → ¬ (fz.1 ≤ k ∧ k < fz.2)) ∧
    (∀ (i : Nat) (v : Value), B.cells[i]? = some v → v.oneCell' = true ∧ ∃ v', c[L.o + i]? = some v' ∧ VR r v v')
  inj : ∀ n m Bn Bm L M, h.get n = some Bn → h.get m = some Bm → n ≠ m → Bn.ro = false → r n = some L → r m = some M → L.b ≠ M.b
  new : ∀ n, h.next ≤ n → r n = none
  size : base ≤ w.heap.size
  ro : ∀ n B L, h.get n = some B → B.ro = true → r n = some L → L.b < base
  hid : ∀ n B L c e fz, h.get n = some B → B.ro = false → r n = some L → w.heap[L.b]? = some (.cells c e fz) → HidC r c L fz
theorem Rel.lt {base : Nat} {r : Rho} {h : H} {w : World} (R : Rel base r h w) {n : Nat} {B : Blk} (e : h.get n = some B) : n < h.next := by
  obtain ⟨L, _, _, _, h1, _⟩ := R.cells n B e
  rcases Nat.lt_or_ge n h.next with h' | h'
  · exact h'
  · rw [R.new n h'] at h1; cases h1
structure Fr (base : Nat) (r : Rho) (h : H) (w : World) (r' : Rho) (h' : H) (w' : World) : Prop where
  le : r.le r'
  next : h.next ≤ h'.next
  size : w.heap.size ≤ w'.heap.size
  os : w'.os = w.os
  tape : w'.tape = w.tape
  output : w'.output = w.output
  keep : ∀ b, b < w.heap.size → (∀ n B L, h.get n = some B → B.ro = false → r n = some L → L.b ≠ b) → w'.heap[b]? = w.heap[b]?
  cov : ∀ n B L, h'.get n = some B → B.ro = false → r' n = some L → L.b < w.heap.size → ∃ m Bm M, h.get m = some Bm ∧ Bm.ro = false ∧ r m = some M ∧ M.b = L.b
theorem Fr.refl (base : Nat) (r : Rho) (h : H) (w : World) : Fr base r h w r h w :=
  ⟨Rho.le_refl r, Nat.le_refl _, Nat.le_refl _, rfl, rfl, rfl, fun _ _ _ => rfl, fun n B L h1 h2 h3 _ => ⟨n, B, L, h1, h2, h3, rfl⟩⟩
theorem Fr.trans {base : Nat} {r s t : Rho} {h k l : H} {w x y : World} (a : Fr base r h w s k x) (b : Fr base s k x t l y) : Fr base r h w t l y := by
  refine ⟨Rho.le_trans a.le b.le, Nat.le_trans a.next b.next, Nat.le_trans a.size b.size, b.os.trans a.os, b.tape.trans a.tape, b.output.trans a.output, fun q hq hn => ?_, fun n B L h1 h2 h3 h4 => ?_⟩
  · rw [b.keep q (Nat.lt_of_lt_of_le hq a.size) ?_]
    · exact a.keep q hq hn
    · intro n B L h1 h2 h3 h4
      subst h4
      obtain ⟨m, Bm, M, k1, k2, k3, k4⟩ := a.cov n B L h1 h2 h3 hq
      exact hn m Bm M k1 k2 k3 k4
  · obtain ⟨m, Bm, M, k1, k2, k3, k4⟩ := b.cov n B L h1 h2 h3 (Nat.lt_of_lt_of_le h4 a.size)
    obtain ⟨m', Bm', M', j1, j2, j3, j4⟩ := a.cov m Bm M k1 k2 k3 (by rw [k4]; exact h4)
    exact ⟨m', Bm', M', j1, j2, j3, j4.trans k4⟩
theorem Fr.below {base : Nat} {r r' : Rho} {h h' : H} {w w' : World} (R : Rel base r h w) (f : Fr base r h w r' h' w') : Go.RowKit.Below base w w' := by
  refine ⟨f.os, f.tape, f.output, f.size, fun k hk => ?_⟩
  refine f.keep k (Nat.lt_of_lt_of_le hk R.size) fun n B L h1 h2 h3 h4 => ?_
  obtain ⟨M, _, _, _, g1, _, _, _, _, g2, _⟩ := R.cells n B h1
  rw [h3] at g1; cases g1
  have := (g2 h2).1; omega
theorem Rel.drew {base : Nat} {r : Rho} {h : H} {w : World} (R : Rel base r h w) : Rel base r h w.drew := ⟨R.cells, R.inj, R.new, R.size, R.ro, R.hid⟩
theorem Fr.drew {base : Nat} {r s : Rho} {h k : H} {w x : World} (f : Fr base r h w s k x) : Fr base r h w s k x.drew := ⟨f.le, f.next, f.size, f.os, f.tape, f.output, f.keep, f.cov⟩
theorem Fr.drew' {base : Nat} {r s : Rho} {h k : H} {w x : World} (f : Fr base r h w.drew s k x) : Fr base r h w s k x := ⟨f.le, f.next, f.size, f.os, f.tape, f.output, f.keep, f.cov⟩
theorem Rel.up {base : Nat} {r : Rho} {h : H} {w : World} (R : Rel base r h w) (k : Nat) : Rel base r (h.up k) w :=
  ⟨fun n B e => R.cells n B e, fun n m Bn Bm L M e1 e2 => R.inj n m Bn Bm L M e1 e2, fun n hn => R.new n (by rw [H.next_up] at hn; omega), R.size, fun n B L e => R.ro n B L e, fun n B L c e fz q => R.hid n B L c e fz q⟩
theorem Fr.up (base : Nat) (r : Rho) (h : H) (w : World) (k : Nat) : Fr base r h w r (h.up k) w :=
  ⟨Rho.le_refl r, Nat.le_add_right _ _, Nat.le_refl _, rfl, rfl, rfl, fun _ _ _ => rfl, fun n B L h1 h2 h3 _ => ⟨n, B, L, h1, h2, h3, rfl⟩⟩
def Rho.put (r : Rho) (n : Nat) (x : Loc) : Rho := fun m => if m = n then some x else r m
theorem Rho.le_put {r : Rho} {n : Nat} {x : Loc} (h : r n = none) : r.le (r.put n x) := fun m y e => by
  unfold Rho.put
  split
  · rename_i hm; subst hm; rw [h] at e; cases e
  · exact e
theorem Rho.put_same (r : Rho) (n : Nat) (x : Loc) : r.put n x n = some x := by simp [Rho.put]
theorem Rho.put_ne (r : Rho) {n m : Nat} (x : Loc) (h : m ≠ n) : r.put n x m = r m := by simp [Rho.put, h]
theorem Rel.new_at {base : Nat} {r : Rho} {h : H} {w : World} (R : Rel base r h w) {nm : Nat} (hn : nm < h.next) (hf : r nm = none) {cs : List Value} {c : Array Value} {e : TypeId} {es lim : Nat}
    (hl : cs.length ≤ lim) (hl2 : lim ≤ c.size) (hc : ∀ (i : Nat) (v : Value), cs[i]? = some v → v.oneCell' = true ∧ ∃ v', c[i]? = some v' ∧ VR r v v') (hz : ∀ k, k < lim → ∃ v v', c[k]? = some v' ∧ v.oneCell' = true ∧ VR r v v') :
    Rel base (r.put nm ⟨w.heap.size, 0, lim, es⟩) (h.set nm (some ⟨cs, es, false⟩)) (w.alloc (.cells c e)) ∧
      Fr base r h w (r.put nm ⟨w.heap.size, 0, lim, es⟩) (h.set nm (some ⟨cs, es, false⟩)) (w.alloc (.cells c e)) := by
  have hle : r.le (r.put nm ⟨w.heap.size, 0, lim, es⟩) := Rho.le_put hf
  have hblk : ∀ {n B L}, h.get n = some B → r n = some L → L.b < w.heap.size := fun {n B L} e1 e2 => by
    obtain ⟨L', c', e', fz, g1, g2, _⟩ := R.cells n B e1
    rw [e2] at g1; cases g1
    exact (Array.getElem?_eq_some_iff.1 g2).1
  refine ⟨⟨fun n B he => ?_, fun n m Bn Bm L M h1 h2 hne hro h3 h4 => ?_, fun n hn' => ?_, by have := R.size; simp; omega, fun n B L h1 h2 h3 => ?_, fun n B L c' e' fz' h1 h2 h3 h4 => ?_⟩, ?_⟩
  · rw [H.get_set] at he
    split at he
    · rename_i hnm; subst hnm; cases he
      refine ⟨⟨w.heap.size, 0, lim, es⟩, c, e, (0, 0), Rho.put_same .., by show (w.heap.push _)[w.heap.size]? = _; simp, rfl, hl, by simpa using hl2, fun _ => ⟨R.size, fun k _ _ => by omega⟩, fun i v hv => ?_⟩
      obtain ⟨h1, v', h2, h3⟩ := hc i v hv
      exact ⟨h1, v', by simpa using h2, h3.mono hle⟩
    · rename_i hnm
      obtain ⟨L, c', e', fz, g1, g2, g3, g4, g5, g6, g7⟩ := R.cells n B he
      refine ⟨L, c', e', fz, hle _ _ g1, ?_, g3, g4, g5, g6, fun i v hv => ?_⟩
      · rw [Go.RowKit.Below.heap_alloc _ _ _ (hblk he g1)]; exact g2
      · obtain ⟨k1, v', k2, k3⟩ := g7 i v hv
        exact ⟨k1, v', k2, k3.mono hle⟩
  · rw [H.get_set] at h1 h2
    by_cases e1 : n = nm
    · subst e1
      rw [Rho.put_same] at h3; cases h3
      rw [if_neg (fun q => hne q.symm)] at h2
      rw [Rho.put_ne _ _ (fun q => hne q.symm)] at h4
      have := hblk h2 h4; simp only; omega
    · rw [if_neg e1] at h1; rw [Rho.put_ne _ _ e1] at h3
      by_cases e2 : m = nm
      · subst e2
        rw [Rho.put_same] at h4; cases h4
        have := hblk h1 h3; simp only; omega
      · rw [if_neg e2] at h2; rw [Rho.put_ne _ _ e2] at h4
        exact R.inj n m Bn Bm L M h1 h2 hne hro h3 h4
  · rw [H.next_set] at hn'
    rw [Rho.put_ne _ _ (by omega)]; exact R.new n hn'
  · rw [H.get_set] at h1
    split at h1
    · cases h1; cases h2
    · rename_i e1; rw [Rho.put_ne _ _ e1] at h3; exact R.ro n B L h1 h2 h3
  · rw [H.get_set] at h1
    split at h1
    · rename_i e1; subst e1; rw [Rho.put_same] at h3; cases h3
      have h5 : (w.heap.push (.cells c e))[w.heap.size]? = some (.cells c' e' fz') := h4
      simp at h5
      obtain ⟨rfl, _, rfl⟩ := h5
      refine ⟨fun k hk => ?_, rfl⟩
      obtain ⟨v, v', a, b, d⟩ := hz k hk
      exact ⟨_, v, v', by simpa using a, b, d⟩
    · rename_i e1; rw [Rho.put_ne _ _ e1] at h3
      rw [Go.RowKit.Below.heap_alloc _ _ _ (hblk h1 h3)] at h4
      exact (R.hid n B L c' e' fz' h1 h2 h3 h4).mono hle
  · refine ⟨hle, Nat.le_refl _, by simp, rfl, rfl, rfl, fun b hb _ => Go.RowKit.Below.heap_alloc _ _ _ hb, fun n B L h1 h2 h3 h4 => ?_⟩
    rw [H.get_set] at h1
    split at h1
    · rename_i e1; subst e1; rw [Rho.put_same] at h3; cases h3; simp only at h4; omega
    · rename_i e1; rw [Rho.put_ne _ _ e1] at h3; exact ⟨n, B, L, h1, h2, h3, rfl⟩
end Go.Proofs.Ytkfjlbdedjoojaa.Am
namespace Go.Proofs.Ytkfjlbdedjoojaa.Am
open Go
set_option linter.unusedVariables false
set_option linter.unusedSimpArgs false
variable {P : Program} {base : Nat} {r : Rho} {h : H} {w : World}
def H.ld (h : H) (a : Addr) : Option Value :=
  match a.spot with
  | some _ => none
  | none => match h.get a.block with
    | some B => B.cells[a.off]?
    | none => none
def H.lds (h : H) (a : Addr) (n : Nat) : Option (List Value) :=
  if n = 0 then some [] else
  match a.spot with
  | some _ => none
  | none => match h.get a.block with
    | some B => if a.off + n ≤ B.cells.length then some ((B.cells.drop a.off).take n) else none
    | none => none
def splice (l : List Value) (i : Nat) (vs : List Value) : List Value := l.take i ++ vs ++ l.drop (i + vs.length)
def H.sts (h : H) (a : Addr) (vs : List Value) : Option H :=
  match vs with
  | [] => some h
  | _ => match a.spot with
    | some _ => none
    | none => match h.get a.block with
      | some B => if B.ro then none else if a.off + vs.length ≤ B.cells.length ∧ vs.all (·.oneCell') = true then some (h.set a.block (some ⟨splice B.cells a.off vs, B.es, false⟩)) else none
      | none => none
theorem splice_length {l : List Value} {i : Nat} {vs : List Value} (hh : i + vs.length ≤ l.length) : (splice l i vs).length = l.length := by
  simp [splice]; omega
theorem splice_get {l : List Value} {i : Nat} {vs : List Value} (hh : i + vs.length ≤ l.length) (k : Nat) :
    (splice l i vs)[k]? = if i ≤ k ∧ k < i + vs.length then vs[k - i]? else l[k]? := by
  unfold splice
  have h1 : (l.take i).length = i := by simp; omega
  rw [List.getElem?_append, List.getElem?_append]
  simp only [List.length_append, h1]
  by_cases a : k < i
  · rw [if_pos (by omega), if_pos a, if_neg (by omega), List.getElem?_take, if_pos a]
  · by_cases b : k < i + vs.length
    · rw [if_pos b, if_neg a, if_pos (by omega)]
    · rw [if_neg b, if_neg (by omega), List.getElem?_drop]; congr 1; omega
theorem Rel.sub {h2 : H} (R : Rel base r h w) (hs : ∀ n B, h2.get n = some B → h.get n = some B) (hn : h.next ≤ h2.next) : Rel base r h2 w :=
  ⟨fun n B e => R.cells n B (hs n B e), fun n m Bn Bm L M e1 e2 => R.inj n m Bn Bm L M (hs _ _ e1) (hs _ _ e2), fun n k => R.new n (by omega), R.size, fun n B L e => R.ro n B L (hs _ _ e), fun n B L c e fz q => R.hid n B L c e fz (hs _ _ q)⟩
theorem cell_of_heap {b k : Nat} {c : Array Value} {e : TypeId} {fz : Nat × Nat} (hb : w.heap[b]? = some (.cells c e fz)) : w.cell? ⟨b, k, none⟩ = c[k]? := by
  simp [World.cell?, hb]
theorem frozen_of_heap {b k : Nat} {c : Array Value} {e : TypeId} {fz : Nat × Nat} (hb : w.heap[b]? = some (.cells c e fz)) (hn : ¬ (fz.1 ≤ k ∧ k < fz.2)) : w.frozen? ⟨b, k, none⟩ = false := by
  obtain ⟨lo, hi⟩ := fz
  simp only [World.frozen?, hb]
  simpa using hn
theorem ld_run (R : Rel base r h w) {a a' : Addr} (ha : AR r a a') {v : Value} (e : h.ld a = some v) : ∃ v', w.cell? a' = some v' ∧ VR r v v' ∧ v.oneCell' = true := by
  obtain ⟨hs, L, hr, rfl⟩ := ha
  simp only [H.ld, hs] at e
  cases hg : h.get a.block with
  | none => rw [hg] at e; cases e
  | some B =>
    rw [hg] at e
    obtain ⟨L', c, et, fz, g1, g2, _, _, _, g3, g4⟩ := R.cells _ B hg
    rw [hr] at g1; cases g1
    obtain ⟨k1, v', k2, k3⟩ := g4 _ v e
    exact ⟨v', by rw [cell_of_heap g2]; exact k2, k3, k1⟩
theorem lds_run (R : Rel base r h w) {a a' : Addr} {n : Nat} (ha : n = 0 ∨ AR r a a') {vs : List Value} (e : h.lds a n = some vs) :
    ∃ vs', (∀ w2 : World, w2.heap = w.heap → (loadCells a' n).run P w2 = .ok vs'.toArray w2) ∧ VL r vs vs' ∧ vs.length = n ∧ ∀ v ∈ vs, v.oneCell' = true := by
  by_cases hn : n = 0
  · subst hn
    simp only [H.lds, if_true] at e; cases e
    exact ⟨[], fun _ _ => rfl, VL.nil r, rfl, fun v hv => by simp at hv⟩
  · obtain ⟨hs, L, hr, rfl⟩ := ha.resolve_left hn
    obtain ⟨b, o, lim, es⟩ := L
    simp only [H.lds, if_neg hn, hs] at e
    cases hg : h.get a.block with
    | none => rw [hg] at e; cases e
    | some B =>
      rw [hg] at e; simp only at e
      split at e
      · rename_i hle; cases e
        obtain ⟨L', c, et, fz, g1, g2, _, _, _, g3, g4⟩ := R.cells _ B hg
        rw [hr] at g1; cases g1
        have hval : ∀ j, j < n → ∃ v v', B.cells[a.off + j]? = some v ∧ v.oneCell' = true ∧ c[o + (a.off + j)]? = some v' ∧ VR r v v' := fun j hj => by
          have hlt : a.off + j < B.cells.length := by omega
          obtain ⟨k1, v', k2, k3⟩ := g4 _ _ (List.getElem?_eq_getElem hlt)
          exact ⟨_, v', List.getElem?_eq_getElem hlt, k1, k2, k3⟩
        have hsz : o + a.off + n ≤ c.size := by
          obtain ⟨v, v', q1, q2, q3, q4⟩ := hval (n - 1) (by omega)
          have := (Array.getElem?_eq_some_iff.1 q3).1
          omega
        refine ⟨(c.toList.drop (o + a.off)).take n, ?_, VL.of_get (by simp; omega) fun i v hv => ?_, by simp; omega, fun v hv => ?_⟩
        · intro w2 hw2
          have g2 : w2.heap[b]? = some (.cells c et fz) := by rw [hw2]; exact g2
          have hl : ((c.toList.drop (o + a.off)).take n).length = n := by simp; omega
          have := run_loadCells_list (P := P) (w := w2) ⟨b, o + a.off, none⟩ ((c.toList.drop (o + a.off)).take n) (fun j v hv => by
            rw [List.getElem?_take] at hv
            split at hv
            · rw [List.getElem?_drop] at hv
              have e1 : (⟨b, o + a.off, none⟩ : Addr).add j = ⟨b, o + a.off + j, none⟩ := by
                unfold Addr.add; split
                · rename_i h0; subst h0; rfl
                · rfl
              rw [e1, cell_of_heap g2]; simpa using hv
            · cases hv)
          rw [hl] at this; exact this
        · rw [List.getElem?_take] at hv
          split at hv
          · rename_i hi
            rw [List.getElem?_drop] at hv
            obtain ⟨u, v', q1, q2, q3, q4⟩ := hval i hi
            rw [q1] at hv; cases hv
            refine ⟨v', ?_, q4⟩
            rw [List.getElem?_take, if_pos hi, List.getElem?_drop, Array.getElem?_toList, Nat.add_assoc]; exact q3
          · cases hv
        · obtain ⟨i, hi, rfl⟩ := List.getElem_of_mem hv
          simp at hi
          obtain ⟨u, v', q1, q2, q3, q4⟩ := hval i (by omega)
          rw [List.getElem?_eq_getElem (by omega)] at q1
          simp only [List.getElem_take, List.getElem_drop]
          cases q1; exact q2
      · cases e
structure Wr (w w2 : World) (b : Nat) (e : TypeId) (fz : Nat × Nat) (c2 : Array Value) : Prop where
  row : w2.heap[b]? = some (.cells c2 e fz)
  other : ∀ b', b' ≠ b → w2.heap[b']? = w.heap[b']?
  size : w2.heap.size = w.heap.size
  os : w2.os = w.os
  tape : w2.tape = w.tape
  output : w2.output = w.output
theorem run_storeCells : ∀ (vs : List Value) (i b o : Nat) (w : World) (c : Array Value) (e : TypeId) (fz : Nat × Nat), w.heap[b]? = some (.cells c e fz) → o + i + vs.length ≤ c.size →
    (∀ v ∈ vs, v.oneCell' = true) → (∀ k, o + i ≤ k → k < o + i + vs.length → ¬ (fz.1 ≤ k ∧ k < fz.2)) →
    ∃ w2 c2, (storeCells ⟨b, o, none⟩ vs i).run P w = .ok () w2 ∧ Wr w w2 b e fz c2 ∧ c2.size = c.size ∧ ∀ k, c2[k]? = if o + i ≤ k ∧ k < o + i + vs.length then vs[k - (o + i)]? else c[k]? := by
  intro vs
  induction vs with
  | nil => intro i b o w c e fz hb _ _ _; exact ⟨w, c, rfl, ⟨hb, fun _ _ => rfl, rfl, rfl, rfl, rfl⟩, rfl, fun k => by rw [if_neg (by simp)]⟩
  | cons v vs ih =>
    intro i b o w c e fz hb hle h1 hf
    simp only [List.length_cons] at hle hf
    have ea : (⟨b, o, none⟩ : Addr).add i = ⟨b, o + i, none⟩ := by
      unfold Addr.add; split
      · rename_i h0; subst h0; rfl
      · rfl
    have hc : w.cell? ⟨b, o + i, none⟩ = some c[o + i] := by rw [cell_of_heap hb]; exact Array.getElem?_eq_getElem (by omega)
    have hfz := frozen_of_heap hb (hf (o + i) (by omega) (by omega))
    have hb2 : (w.setCell ⟨b, o + i, none⟩ v).heap[b]? = some (.cells (c.setIfInBounds (o + i) v) e fz) := by
      simp [World.setCell, Array.getElem?_modify, hb]
    obtain ⟨w2, c2, r1, r2, r3, r4⟩ := ih (i + 1) b o (w.setCell ⟨b, o + i, none⟩ v) (c.setIfInBounds (o + i) v) e fz hb2 (by simp; omega) (fun u hu => h1 u (List.mem_cons_of_mem _ hu)) (fun k q1 q2 => hf k (by omega) (by omega))
    refine ⟨w2, c2, ?_, ⟨r2.row, fun b' hb' => ?_, ?_, r2.os, r2.tape, r2.output⟩, by rw [r3]; simp, fun k => ?_⟩
    · simp only [storeCells, ea, Sem.run_bind, run_store P w _ v _ (h1 v (List.mem_cons_self ..)), hc, hfz, Result.andThen_ok]
      simpa using r1
    · rw [r2.other b' hb']; exact Go.RowKit.Below.heap_setCell _ _ _ _ hb'
    · rw [r2.size]; simp
    · rw [r4 k]
      by_cases q : k = o + i
      · subst q
        rw [if_neg (by omega), if_pos (by simp), Array.getElem?_setIfInBounds_self_of_lt (by omega), Nat.sub_self, List.getElem?_cons_zero]
      · by_cases q2 : o + (i + 1) ≤ k ∧ k < o + (i + 1) + vs.length
        · rw [if_pos q2, if_pos (by simp; omega)]
          have : k - (o + i) = (k - (o + (i + 1))) + 1 := by omega
          rw [this]; simp
        · rw [if_neg q2, if_neg (by simp; omega), Array.getElem?_setIfInBounds_ne (by omega)]
theorem Rel.write (R : Rel base r h w) {n : Nat} {B : Blk} (hg : h.get n = some B) (hro : B.ro = false) {L : Loc} (hr : r n = some L) {w2 : World} {c : Array Value} {e : TypeId} {fz : Nat × Nat} {c2 : Array Value} (hb : w.heap[L.b]? = some (.cells c e fz))
    (W : Wr w w2 L.b e fz c2) (hsz : c2.size = c.size) {cs : List Value} (hl : cs.length ≤ L.lim) (hc : ∀ (i : Nat) (v : Value), cs[i]? = some v → v.oneCell' = true ∧ ∃ v', c2[L.o + i]? = some v' ∧ VR r v v') (hz : HidC r c2 L fz) :
    Rel base r (h.set n (some ⟨cs, B.es, false⟩)) w2 ∧ Fr base r h w r (h.set n (some ⟨cs, B.es, false⟩)) w2 := by
  refine ⟨⟨fun m Bm he => ?_, fun m k Bm Bk L1 L2 h1 h2 hne h3 h4 h5 => ?_, R.new, by rw [W.size]; exact R.size, fun m Bm M h1 h2 h3 => by
    rw [H.get_set] at h1
    split at h1
    · cases h1; cases h2
    · exact R.ro m Bm M h1 h2 h3, fun m Bm M c' e' fz' h1 h2 h3 h4 => by
    rw [H.get_set] at h1
    split at h1
    · rename_i e1; subst e1; rw [hr] at h3; cases h3
      rw [W.row] at h4; cases h4; exact hz
    · rename_i e1
      rw [W.other _ (R.inj n m B Bm L M hg h1 (fun q => e1 q.symm) hro hr h3).symm] at h4
      exact R.hid m Bm M c' e' fz' h1 h2 h3 h4⟩, ⟨Rho.le_refl r, Nat.le_refl _, by rw [W.size]; exact Nat.le_refl _, W.os, W.tape, W.output, fun q hq hn => ?_, fun m Bm M h1 h2 h3 h4 => ?_⟩⟩
  · rw [H.get_set] at he
    split at he
    · rename_i hm; subst hm; cases he
      obtain ⟨L', c', e', fz', g1, g2, g3, g4, g5, g6, g7⟩ := R.cells _ B hg
      rw [hr] at g1; cases g1
      rw [hb] at g2; cases g2
      exact ⟨L, c2, e, fz, hr, W.row, g3, hl, by rw [hsz]; exact g5, fun _ => g6 hro, hc⟩
    · rename_i hm
      obtain ⟨L', c', e', fz', g1, g2, g3⟩ := R.cells _ Bm he
      refine ⟨L', c', e', fz', g1, ?_, g3⟩
      rw [W.other]; exact g2
      exact (R.inj n m B Bm L L' hg he (fun q => hm q.symm) hro hr g1).symm
  · rw [H.get_set] at h1 h2
    have back : ∀ {k : Nat} {Bk : Blk}, (if k = n then some (⟨cs, B.es, false⟩ : Blk) else h.get k) = some Bk → ∃ Bk', h.get k = some Bk' ∧ (Bk.ro = false → Bk'.ro = false) := fun {k Bk} q => by
      split at q
      · rename_i e1; subst e1; exact ⟨B, hg, fun _ => hro⟩
      · exact ⟨Bk, q, id⟩
    obtain ⟨B1, q1, q2⟩ := back h1
    obtain ⟨B2, q3, _⟩ := back h2
    exact R.inj m k B1 B2 L1 L2 q1 q3 hne (q2 h3) h4 h5
  · exact W.other q fun e1 => hn n B L hg hro hr e1.symm
  · rw [H.get_set] at h1
    split at h1
    · rename_i e1; subst e1; rw [hr] at h3; cases h3; exact ⟨m, B, L, hg, hro, hr, rfl⟩
    · exact ⟨m, Bm, M, h1, h2, h3, rfl⟩
theorem sts_run (R : Rel base r h w) {a a' : Addr} {vs vs' : List Value} (ha : vs = [] ∨ AR r a a') (hv : VL r vs vs') {h2 : H} (e : h.sts a vs = some h2) :
    ∃ w2, (storeCells a' vs').run P w = .ok () w2 ∧ Rel base r h2 w2 ∧ Fr base r h w r h2 w2 := by
  by_cases hn : vs = []
  · subst hn
    have : vs' = [] := by have := hv.1; simpa using this.symm
    subst this
    simp only [H.sts] at e; cases e
    exact ⟨w, rfl, R, Fr.refl ..⟩
  · obtain ⟨hs, L, hr, rfl⟩ := ha.resolve_left hn
    have e' : (match h.get a.block with
      | some B => if B.ro then none else if a.off + vs.length ≤ B.cells.length ∧ vs.all (·.oneCell') = true then some (h.set a.block (some ⟨splice B.cells a.off vs, B.es, false⟩)) else none
      | none => none) = some h2 := by
      rw [← e]; unfold H.sts
      cases vs with
      | nil => exact absurd rfl hn
      | cons x xs => simp only [hs]
    clear e
    cases hg : h.get a.block with
    | none => rw [hg] at e'; cases e'
    | some B =>
      rw [hg] at e'; simp only at e'
      split at e'
      · cases e'
      · rename_i hro
        have hro : B.ro = false := by simpa using hro
        split at e'
        · rename_i hle; obtain ⟨hle, h1⟩ := hle; cases e'
          obtain ⟨L', c, et, fz, g1, g2, g3, g4, g5, g6, g7⟩ := R.cells _ B hg
          rw [hr] at g1; cases g1
          have hl := hv.1
          obtain ⟨w2, c2, r1, r2, r3, r4⟩ := run_storeCells (P := P) vs' 0 L.b (L.o + a.off) w c et fz g2 (by omega) (fun v' hv' => by
            obtain ⟨i, hi, rfl⟩ := List.getElem_of_mem hv'
            obtain ⟨v, q1, q2⟩ := hv.get' (List.getElem?_eq_getElem hi)
            rw [q2.oneCell]
            exact List.all_eq_true.1 h1 v (List.mem_of_getElem? q1)) (fun k q1 q2 => (g6 hro).2 k (by omega) (by omega))
          refine ⟨w2, r1, ?_⟩
          exact R.write hg hro hr g2 r2 r3 (by rw [splice_length hle]; exact g4) (fun i v hi => by
            rw [splice_get hle] at hi
            split at hi
            · rename_i q
              obtain ⟨v', q1, q2⟩ := hv.get hi
              refine ⟨List.all_eq_true.1 h1 v (List.mem_of_getElem? hi), v', ?_, q2⟩
              rw [r4, if_pos (by omega)]; rw [← q1]; congr 1; omega
            · rename_i q
              obtain ⟨k1, v', k2, k3⟩ := g7 i v hi
              refine ⟨k1, v', ?_, k3⟩
              rw [r4, if_neg (by omega)]; exact k2) ⟨fun k hk => by
            by_cases q : L.o + a.off ≤ L.o + k ∧ L.o + k < L.o + a.off + vs'.length
            · have hi : L.o + k - (L.o + a.off) < vs'.length := by omega
              obtain ⟨v, q1, q2⟩ := hv.get' (List.getElem?_eq_getElem hi)
              exact ⟨_, v, _, by rw [r4, if_pos (by omega)]; exact List.getElem?_eq_getElem hi, List.all_eq_true.1 h1 v (List.mem_of_getElem? q1), q2⟩
            · obtain ⟨s, v, v', k1, k2, k3⟩ := (R.hid _ B L c et fz hg hro hr g2).1 k hk
              exact ⟨s, v, v', by rw [r4, if_neg (by omega)]; exact k1, k2, k3⟩, (R.hid _ B L c et fz hg hro hr g2).2⟩
        · cases e'
end Go.Proofs.Ytkfjlbdedjoojaa.Am
