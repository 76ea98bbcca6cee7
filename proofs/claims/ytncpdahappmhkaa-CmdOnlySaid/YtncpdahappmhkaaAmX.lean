/- Arguments that come in, for the abstract machine: each slice a block that nobody writes. -/
import Derived.Test.YtncpdahappmhkaaAmW
namespace Go.Proofs.Ytncpdahappmhkaa.Am
open Go
set_option linter.unusedVariables false
set_option linter.unusedSimpArgs false
/-- A block of the model's that nobody writes. -/
def RoBlk (W : World) (L : Am.Loc) (B : Blk) : Prop := ∃ c e fz, W.heap[L.b]? = some (.cells c e fz) ∧ L.es = B.es ∧ B.cells.length ≤ L.lim ∧ L.o + L.lim ≤ c.size ∧ B.ro = true ∧ ∀ (i : Nat) (v : Value), B.cells[i]? = some v → plain1 v = true ∧ c[L.o + i]? = some v
/-- The memory of given blocks, under the names 0, 1, .. -/
def H.ofL (n : Nat) : Nat → List (Option Blk) → H
  | _, [] => ⟨.leaf, n⟩
  | k, o :: os => (H.ofL n (k + 1) os).set k o
theorem H.ofL_get (n : Nat) : ∀ (os : List (Option Blk)) (k m : Nat), (H.ofL n k os).get m = if k ≤ m then (os[m - k]?).join else none := by
  intro os
  induction os with
  | nil => intro k m; simp only [H.ofL]; split <;> rfl
  | cons o os ih =>
    intro k m
    simp only [H.ofL]; rw [H.get_set, ih]
    by_cases h : m = k
    · subst h; simp
    · rw [if_neg h]
      by_cases h2 : k ≤ m
      · rw [if_pos (by omega), if_pos h2, show m - k = (m - (k + 1)) + 1 by omega]; simp
      · rw [if_neg (by omega), if_neg h2]
theorem H.ofL_next (n : Nat) : ∀ (os : List (Option Blk)) (k : Nat), (H.ofL n k os).next = n := by
  intro os
  induction os with
  | nil => intro k; rfl
  | cons o os ih => intro k; simp only [H.ofL]; rw [H.next_set]; exact ih _
def args (os : List (Option Blk)) : H := H.ofL os.length 0 os
theorem args_get (os : List (Option Blk)) (m : Nat) : (args os).get m = (os[m]?).join := by unfold args; rw [H.ofL_get]; simp
theorem args_next (os : List (Option Blk)) : (args os).next = os.length := H.ofL_next ..
def rhoL (rs : List (Option Am.Loc)) : Rho := fun k => (rs[k]?).join
theorem rel_args {W : World} {os : List (Option Blk)} {rs : List (Option Am.Loc)} (hl : rs.length = os.length) (h : ∀ (k : Nat) (B : Blk), os[k]? = some (some B) → ∃ L, rs[k]? = some (some L) ∧ RoBlk W L B) : Rel W.heap.size (rhoL rs) (args os) W := by
  have pick : ∀ k B, (args os).get k = some B → ∃ L, rhoL rs k = some L ∧ RoBlk W L B := fun k B e => by
    rw [args_get] at e
    have e2 : os[k]? = some (some B) := by
      cases ho : os[k]? with
      | none => rw [ho] at e; cases e
      | some o => rw [ho] at e; simp at e; rw [e]
    obtain ⟨L, h1, h2⟩ := h k B e2
    exact ⟨L, by simp [rhoL, h1], h2⟩
  refine ⟨fun k B e => ?_, fun n m Bn Bm L M e1 e2 hne hro => ?_, fun n hn => ?_, Nat.le_refl _, fun n B L e hro hL => ?_⟩
  · obtain ⟨L, e1, c, el, fz, k1, k2, k3, k4, k5, k6⟩ := pick k B e
    exact ⟨L, c, el, fz, e1, k1, k2, k3, k4, fun q => by (rw [k5] at q; cases q), fun i v hv => ⟨oneCell_of_plain1 (k6 i v hv).1, v, (k6 i v hv).2, VR.of_plain1 (k6 i v hv).1⟩⟩
  · obtain ⟨_, _, _, _, _, _, _, _, _, k5, _⟩ := pick n Bn e1
    rw [k5] at hro; cases hro
  · rw [args_next] at hn
    simp [rhoL, List.getElem?_eq_none (by omega : rs.length ≤ n)]
  · obtain ⟨L', e1, c, el, fz, k1, _⟩ := pick n B e
    rw [hL] at e1; cases e1
    exact (Array.getElem?_eq_some_iff.1 k1).1
theorem cell_heap {w : World} {a : Addr} {v : Value} (h : w.cell? a = some v) : a.spot = none ∧ ∃ c el fz, w.heap[a.block]? = some (.cells c el fz) ∧ c[a.off]? = some v := by
  unfold World.cell? at h
  split at h
  · rename_i c el fz hc
    split at h
    · cases h
    · rename_i hs; exact ⟨by simpa using hs, c, el, fz, hc, h⟩
  · cases h
theorem add_block (a : Addr) (n : Nat) : (a.add n).block = a.block ∧ (a.add n).off = a.off + n := by
  unfold Addr.add; split
  · rename_i h; subst h; exact ⟨rfl, rfl⟩
  · exact ⟨rfl, rfl⟩
/-- A slice that came in, its elements each of n plain cells. -/
theorem open_rows {α Hh : Type} {P : Program} {enc : TypeId × Value → Hh} {w : World} {base fuel : Nat} {held : Bool} {t e : TypeId} {cs : List Value} {x : DataW Hh × List MemPlace} (ht : P.underlying t = some (.slice e)) (cells : α → List Value) (n : Nat) (hlen : ∀ y, (cells y).length = n) (hpos : 0 < n) (hc : P.cellsOf e = n)
    (hel : ∀ fuel cs x, DataW.trod enc P w base (fun _ => true) held fuel e cs = some x → ∃ y : α, cs = cells y) (hx : DataW.trod enc P w base (fun _ => true) held fuel t cs = some x) :
    cs = [.slice none 0 0] ∨ ∃ (a : Addr) (len cap : Nat) (l : List α), cs = [.slice (some a) len cap] ∧ l.length = len ∧ len ≤ cap ∧ cap ≤ 9223372036854775807 ∧ (cap ≠ 0 → a.spot = none ∧ ∃ c el fz, w.heap[a.block]? = some (.cells c el fz) ∧ a.off + len * n ≤ c.size ∧
      ∀ (j : Nat) (y : α), l[j]? = some y → ∀ (i : Nat) (v : Value), (cells y)[i]? = some v → c[a.off + (j * n + i)]? = some v) := by
  rcases Go.Deep.open_slice ht hx with ⟨h0, _⟩ | ⟨a, len, cap, m, k, D, Pl, rfl, hb, hl, hm, hmm, _, hel2⟩
  · exact .inl h0
  right
  have hmc : m = cap := by simpa using hmm
  subst hmc
  have hq : ∀ i, i < m → ∃ y : α, w.cells? base (a.add (i * n)) n = some (cells y) := fun i hi => by
    obtain ⟨cs', h1, h2⟩ := hel2 i hi
    obtain ⟨y, rfl⟩ := hel _ _ _ h2
    rw [hc] at h1; exact ⟨y, h1⟩
  have hl2 : ∀ q, q ≤ len → ∃ l : List α, l.length = q ∧ ∀ j y, l[j]? = some y → w.cells? base (a.add (j * n)) n = some (cells y) := by
    intro q
    induction q with
    | zero => intro _; exact ⟨[], rfl, fun j y h => by simp at h⟩
    | succ q ih =>
      intro hq2
      obtain ⟨l, h1, h2⟩ := ih (by omega)
      obtain ⟨y, hy⟩ := hq q (by omega)
      refine ⟨l ++ [y], by simp [h1], fun j z hj => ?_⟩
      rw [List.getElem?_append] at hj
      split at hj
      · exact h2 j z hj
      · rename_i hge
        have hj2 := (List.getElem?_eq_some_iff.1 hj).1
        simp at hj2
        have : j = q := by omega
        subst this
        simp [h1] at hj; subst hj; exact hy
  obtain ⟨l, h1, h2⟩ := hl2 len (Nat.le_refl _)
  refine ⟨a, len, m, l, rfl, h1, hl, hm, fun hcap => ?_⟩
  obtain ⟨y0, hy0⟩ := hq 0 (by omega)
  obtain ⟨_, _, g3⟩ := World.cells?_some hy0
  have g4 := g3 0 hpos
  obtain ⟨v0, hv0⟩ : ∃ v, (cells y0)[0]? = some v := ⟨_, List.getElem?_eq_getElem (by rw [hlen]; exact hpos)⟩
  rw [hv0] at g4
  obtain ⟨hs, c, el, fz, hh, hcell⟩ := cell_heap g4
  have hblk : ((a.add (0 * n)).add 0).block = a.block := by rw [(add_block _ _).1, (add_block _ _).1]
  rw [hblk] at hh
  have hspot : a.spot = none := by
    have : (a.add (0 * n)).add 0 = a := by rw [Nat.zero_mul]; rfl
    rw [this] at hs; exact hs
  have all : ∀ (j : Nat) (y : α), w.cells? base (a.add (j * n)) n = some (cells y) → ∀ (i : Nat) (v : Value), (cells y)[i]? = some v → c[a.off + (j * n + i)]? = some v := fun j y hy i v hv => by
    obtain ⟨_, _, q3⟩ := World.cells?_some hy
    have hi : i < n := by have := (List.getElem?_eq_some_iff.1 hv).1; rw [hlen] at this; exact this
    have q4 := q3 i hi
    rw [hv] at q4
    obtain ⟨_, c2, el2, fz2, hh2, hcell2⟩ := cell_heap q4
    rw [(add_block _ _).1, (add_block _ _).1, hh] at hh2
    cases hh2
    rw [(add_block _ _).2, (add_block _ _).2] at hcell2
    rw [← hcell2]; congr 1; omega
  refine ⟨hspot, c, el, fz, hh, ?_, fun j y hj => all j y (h2 j y hj)⟩
  by_cases hz : len = 0
  · rw [hz]
    rw [(add_block _ _).2, (add_block _ _).2] at hcell
    have := (Array.getElem?_eq_some_iff.1 hcell).1; omega
  · have hj : len - 1 < l.length := by omega
    have hy := h2 (len - 1) _ (List.getElem?_eq_getElem hj)
    have hv := all (len - 1) _ hy (n - 1) _ (List.getElem?_eq_getElem (by rw [hlen]; omega))
    have := (Array.getElem?_eq_some_iff.1 hv).1
    have e1 : (len - 1) * n + (n - 1) + 1 = len * n := by
      obtain ⟨q, rfl⟩ : ∃ q, len = q + 1 := ⟨len - 1, by omega⟩
      simp only [Nat.add_sub_cancel, Nat.add_mul, Nat.one_mul]; omega
    omega
/-- The same, as an argument of the machine under the name k: its value, its block (if it needs one), the block's place; the slice is nil, or empty without room (cap 1 then: just none), or has its block. -/
theorem arg_rows {α Hh : Type} (K : Row α) (k : Nat) {P : Program} {enc : TypeId × Value → Hh} {W : World} {fuel : Nat} {held : Bool} {t e : TypeId} {V : Value} {x : DataW Hh × List MemPlace} (ht : P.underlying t = some (.slice e)) (hc : P.cellsOf e = K.n)
    (hel : ∀ fuel cs x, DataW.trod enc P W 0 (fun _ => true) held fuel e cs = some x → ∃ y : α, cs = K.cells y) (hx : DataW.trod enc P W 0 (fun _ => true) held fuel t [V] = some x) :
    ∃ (P0 : Option Addr) (c : Nat) (l : List α) (z : Bool) (o0 : Option Blk) (r0 : Option Am.Loc), ((z = false ∧ l = [] ∧ ((P0 = none ∧ c = 0) ∨ (P0 = some ⟨k, 0, none⟩ ∧ c = 1))) ∨ (z = true ∧ P0 = some ⟨k, 0, none⟩)) ∧ l.length < 9223372036854775808 ∧
      (∀ B, o0 = some B → ∃ L, r0 = some L ∧ RoBlk W L B) ∧ (z = true → o0 = some ⟨K.flat l, K.n, true⟩) ∧ (∀ r : Rho, r k = r0 → VR r (.slice P0 l.length c) V) := by
  rcases open_rows ht K.cells K.n K.len K.pos hc hel hx with h | ⟨a, len, cap, l, h, h1, h2, h3, h4⟩
  · simp at h; subst h
    exact ⟨none, 0, [], false, none, none, .inl ⟨rfl, rfl, .inl ⟨rfl, rfl⟩⟩, by simp, fun B q => by (cases q), fun q => by (cases q), fun r _ => .sl0⟩
  · simp at h; subst h
    by_cases hcap : cap = 0
    · subst hcap
      have : l = [] := List.eq_nil_of_length_eq_zero (by omega)
      subst this
      have hlen : len = 0 := by omega
      subst hlen
      exact ⟨some ⟨k, 0, none⟩, 1, [], false, none, none, .inl ⟨rfl, rfl, .inr ⟨rfl, rfl⟩⟩, by simp, fun B q => by (cases q), fun q => by (cases q), fun r _ => .sl (.inr rfl) (Nat.le_refl _) (by omega) (fun _ => rfl) (fun q => by omega)⟩
    · obtain ⟨hs, c, el, fz, k1, k2, k3⟩ := h4 hcap
      refine ⟨some ⟨k, 0, none⟩, 2 * cap + 1, l, true, some ⟨K.flat l, K.n, true⟩, some ⟨a.block, a.off, l.length * K.n, K.n⟩, .inr ⟨rfl, rfl⟩, by omega, fun B q => ?_, fun _ => rfl, fun r hr => ?_⟩
      · cases q
        refine ⟨_, rfl, c, el, fz, k1, rfl, by rw [K.flat_length]; exact Nat.le_refl _, by show a.off + l.length * K.n ≤ c.size; rw [h1]; exact k2, rfl, fun i v hv => ⟨List.all_eq_true.1 (K.flat_plain l) v (List.mem_of_getElem? hv), ?_⟩⟩
        obtain ⟨j, q, y, rfl, q1, q2⟩ := K.flat_cell hv
        exact k3 j y q1 q v q2
      · subst h1
        refine .sl (.inl ⟨rfl, _, hr, ?_⟩) h2 (by omega) (fun _ => by omega) (fun q => by omega)
        obtain ⟨ab, ao, asp⟩ := a
        simp only at hs; subst hs; rfl
/-- SoundF.quiet, where a name may stand for a place without its block being looked at (an empty slice that has room). -/
theorem SoundF.quiet2 {P : Program} {tab : Nat → Option FD} (hD : DrawOK P) (ht : TabOK P tab) {f : Nat} {g : List Value → H → Option (Value × H)}
    (hg : ∀ us h v h2, g us h = some (v, h2) → h2 = h ∧ Am.plain v = true ∧ ∃ (us0 : List Value) (h0 h3 : H) (m : Nat → Nat), Ran tab f us0 h0 v h3 ∧
      (∀ k, h0.next ≤ k → h0.get k = none) ∧ (∀ k B, h0.get k = some B → B.ro = true ∧ ∃ B', h.get (m k) = some B' ∧ B'.es = B.es ∧ B'.cells = B.cells ∧ B.cells.all plain1 = true) ∧
      (∀ r us', VL r us us' → VL (fun k => if k < h0.next then r (m k) else none) us0 us')) : SoundF P f g := by
  intro base r h w us us' v h2 E hv R
  obtain ⟨rfl, hp, us0, h0, h3, m, ⟨n, hrun⟩, e1, e2, e3⟩ := hg us h v h2 E
  have lt : ∀ k B, h0.get k = some B → k < h0.next := fun k B hB => by
    rcases Nat.lt_or_ge k h0.next with q | q
    · exact q
    · rw [e1 k q] at hB; cases hB
  have R0 : Rel w.heap.size (fun k => if k < h0.next then r (m k) else none) h0 w := by
    refine ⟨fun k B hB => ?_, fun k j Bk Bj L M q1 q2 q3 q4 => ?_, fun k hk => if_neg (by omega), Nat.le_refl _, fun k B L hB hro hL => ?_⟩
    · obtain ⟨hro, B', g1, g2, g3, g4⟩ := e2 k B hB
      obtain ⟨L, c, el, fz, k1, k2, k3, k4, k5, k6, k7⟩ := R.cells _ B' g1
      refine ⟨L, c, el, fz, by rw [if_pos (lt k B hB)]; exact k1, k2, by rw [k3, g2], by rw [← g3]; exact k4, k5, fun q => by (rw [hro] at q; cases q), fun i u hu => ?_⟩
      rw [← g3] at hu
      obtain ⟨j1, u', j2, j3⟩ := k7 i u hu
      have hpu := List.all_eq_true.1 g4 u (by rw [← g3]; exact List.mem_of_getElem? hu)
      rw [VR.plain1_inv hpu j3] at j2
      exact ⟨j1, u, j2, VR.of_plain1 hpu⟩
    · rw [(e2 k Bk q1).1] at q4; cases q4
    · obtain ⟨_, B', g1, _⟩ := e2 k B hB
      obtain ⟨L', c, el, fz, k1, k2, _⟩ := R.cells _ B' g1
      rw [if_pos (lt k B hB), k1] at hL; cases hL
      exact (Array.getElem?_eq_some_iff.1 k2).1
  obtain ⟨hc, hcalls⟩ := run_table hD ht n f w.heap.size _ h0 w us0 us' v h3 hrun (e3 r us' hv) R0
  refine ⟨hc, hcalls.mono fun x w2 hx => ?_⟩
  obtain ⟨r2, v', rfl, hvv, _, F, _⟩ := hx
  have hv' := VR.plain_inv hp hvv
  subst hv'
  obtain ⟨B1, B2⟩ := R.below (F.below R0)
  exact ⟨r, v', rfl, VR.of_plain hp, B1, B2, Fsh.refl none r h2⟩
/-- A slice's value under another naming. -/
theorem VR.slice_as {r s : Rho} {a : Addr} {n c k : Nat} {v' : Value} (h : VR r (.slice (some a) n c) v') (ha : a.off = 0) (hs : s k = r a.block) : VR s (.slice (some ⟨k, 0, none⟩) n c) v' := by
  cases h with
  | sl g g1 g2 g3 g4 =>
    refine .sl (g.imp (fun g => ?_) id) g1 g2 g3 (fun q => ?_)
    · obtain ⟨_, L, e1, e2⟩ := g
      exact ⟨rfl, L, by show s k = some L; rw [hs]; exact e1, by rw [e2, ha]⟩
    · obtain ⟨L, e1, e2⟩ := g4 q
      exact ⟨L, by show s k = some L; rw [hs]; exact e1, by rw [ha] at e2; exact e2⟩
/-! ### The list that a slice holds -/
section
variable {α : Type} (K : Row α)
theorem Row.flat_inj (inj : ∀ x y, K.cells x = K.cells y → x = y) {l m : List α} (h : K.flat l = K.flat m) : l = m := by
  have hlen : l.length = m.length := by
    have := congrArg List.length h
    rw [K.flat_length, K.flat_length] at this
    exact Nat.eq_of_mul_eq_mul_right K.pos this
  apply List.ext_getElem?
  intro j
  by_cases hj : j < l.length
  · have hm : j < m.length := by omega
    rw [List.getElem?_eq_getElem hj, List.getElem?_eq_getElem hm]
    congr 1
    apply inj
    rw [← K.flat_get l j _ (List.getElem?_eq_getElem hj), ← K.flat_get m j _ (List.getElem?_eq_getElem hm), h]
  · rw [List.getElem?_eq_none (by omega), List.getElem?_eq_none (by omega)]
/-- The memory has the list behind the address (an empty one needs no block). -/
def Row.Holds (h : H) (P : Option Addr) (l : List α) : Prop := l ≠ [] → ∃ b ro, P = some ⟨b, 0, none⟩ ∧ h.get b = some ⟨K.flat l, K.n, ro⟩
theorem Row.Holds.same {K : Row α} {h h' : H} {P : Option Addr} {l : List α} (A : K.Holds h P l) (hk : ∀ b, P = some ⟨b, 0, none⟩ → ∀ B, h.get b = some B → h'.get b = some B) : K.Holds h' P l := fun hne => by
  obtain ⟨b, ro, e1, e2⟩ := A hne
  exact ⟨b, ro, e1, hk b e1 _ e2⟩
open Classical in
/-- The list of n records that a slice holds, if there is one. -/
noncomputable def Row.read (h : H) (P : Option Addr) (n : Nat) : Option (List α) := if q : ∃ l : List α, l.length = n ∧ K.Holds h P l then some (Classical.choose q) else none
theorem Row.read_spec {h : H} {P : Option Addr} {n : Nat} {l : List α} (e : K.read h P n = some l) : l.length = n ∧ K.Holds h P l := by
  unfold Row.read at e
  split at e
  · rename_i q; cases e; exact Classical.choose_spec q
  · cases e
theorem Row.read_eq (inj : ∀ x y, K.cells x = K.cells y → x = y) {h : H} {P : Option Addr} {l : List α} (A : K.Holds h P l) : K.read h P l.length = some l := by
  have q : ∃ m : List α, m.length = l.length ∧ K.Holds h P m := ⟨l, rfl, A⟩
  unfold Row.read
  rw [dif_pos q]
  obtain ⟨h1, h2⟩ := Classical.choose_spec q
  generalize Classical.choose q = m at h1 h2
  congr 1
  by_cases hl : l = []
  · subst hl; exact List.eq_nil_of_length_eq_zero h1
  · have hm : m ≠ [] := fun e => hl (List.eq_nil_of_length_eq_zero (by rw [← h1, e]; rfl))
    obtain ⟨b, ro, e1, e2⟩ := A hl
    obtain ⟨b', ro', e3, e4⟩ := h2 hm
    rw [e1] at e3; cases e3
    rw [e2] at e4
    have hf : K.flat l = K.flat m := by
      have := congrArg (fun o : Option Blk => o.map Blk.cells) e4
      simpa using this
    exact (K.flat_inj inj hf).symm
end
end Go.Proofs.Ytncpdahappmhkaa.Am
