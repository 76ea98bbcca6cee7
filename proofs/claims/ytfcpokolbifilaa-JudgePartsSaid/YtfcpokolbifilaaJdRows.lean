/- Slices that come in, for the abstract machine: read-only blocks. -/
import Derived.Test.YtfcpokolbifilaaJdTab
import Derived.Test.YtfcpokolbifilaaRows
import Derived.WalkKit
import Derived.ProofKit
import Derived.OpenShut
import Derived.ShutString
import Derived.ChangeOld
import Derived.Below
import Derived.SizedLaws
import Derived.Deep.Slices
import Derived.DataReads
namespace Go.Proofs.Ytfcpokolbifilaa.Jd
open Go Go.Proofs.Ytfcpokolbifilaa.Am
set_option linter.unusedVariables false
set_option linter.unusedSimpArgs false
/-- A block of the model's that nobody writes. -/
def RoBlk (W : World) (L : Am.Loc) (B : Blk) : Prop := ∃ c e fz, W.heap[L.b]? = some (.cells c e fz) ∧ L.es = B.es ∧ B.cells.length ≤ L.lim ∧ L.o + L.lim ≤ c.size ∧ B.ro = true ∧ ∀ (i : Nat) (v : Value), B.cells[i]? = some v → plain1 v = true ∧ c[L.o + i]? = some v
def two (o0 o1 : Option Blk) : H := ((⟨.leaf, 2⟩ : H).set 0 o0).set 1 o1
def rho2 (r0 r1 : Option Am.Loc) : Rho := fun k => if k = 0 then r0 else if k = 1 then r1 else none
theorem two_get (o0 o1 : Option Blk) (k : Nat) : (two o0 o1).get k = if k = 1 then o1 else if k = 0 then o0 else none := by
  unfold two; rw [H.get_set]; split
  · rfl
  · rw [H.get_set]; split <;> rfl
theorem rel_two {W : World} {r0 r1 : Option Am.Loc} {o0 o1 : Option Blk} (h0 : ∀ B, o0 = some B → ∃ L, r0 = some L ∧ RoBlk W L B) (h1 : ∀ B, o1 = some B → ∃ L, r1 = some L ∧ RoBlk W L B) : Rel W.heap.size (rho2 r0 r1) (two o0 o1) W := by
  have pick : ∀ k B, (two o0 o1).get k = some B → ∃ L, rho2 r0 r1 k = some L ∧ RoBlk W L B := fun k B e => by
    rw [two_get] at e
    unfold rho2
    split at e
    · rename_i hk; subst hk; obtain ⟨L, e1, e2⟩ := h1 B e; exact ⟨L, by simpa using e1, e2⟩
    · split at e
      · rename_i hk; subst hk; obtain ⟨L, e1, e2⟩ := h0 B e; exact ⟨L, by simpa using e1, e2⟩
      · cases e
  refine ⟨fun k B e => ?_, fun n m Bn Bm L M e1 e2 hne hro => ?_, fun n hn => ?_, Nat.le_refl _, fun n B L e hro hL => ?_⟩
  · obtain ⟨L, e1, c, el, fz, k1, k2, k3, k4, k5, k6⟩ := pick k B e
    exact ⟨L, c, el, fz, e1, k1, k2, k3, k4, fun q => by (rw [k5] at q; cases q), fun i v hv => ⟨oneCell_of_plain1 (k6 i v hv).1, v, (k6 i v hv).2, VR.of_plain1 (k6 i v hv).1⟩⟩
  · obtain ⟨_, _, _, _, _, _, _, _, _, k5, _⟩ := pick n Bn e1
    rw [k5] at hro; cases hro
  · have : 2 ≤ n := hn
    unfold rho2; rw [if_neg (by omega), if_neg (by omega)]
  · obtain ⟨L', e1, c, el, fz, k1, _⟩ := pick n B e
    rw [hL] at e1; cases e1
    exact (Array.getElem?_eq_some_iff.1 k1).1
theorem cell_heap {w : World} {a : Addr} {v : Value} (h : w.cell? a = some v) : a.spot = none ∧ ∃ c el fz, w.heap[a.block]? = some (.cells c el fz) ∧ c[a.off]? = some v := by
  unfold World.cell? at h
  split at h
  · rename_i c el fz hc
    split at h
    · cases h
    · rename_i hs; exact ⟨by simpa using hs, c, el, fz, hc, h⟩
  · cases h
theorem add_block (a : Addr) (n : Nat) : (a.add n).block = a.block ∧ (a.add n).off = a.off + n := by
  unfold Addr.add; split
  · rename_i h; subst h; exact ⟨rfl, rfl⟩
  · exact ⟨rfl, rfl⟩
/-- A slice that came in, its elements each of n plain cells. -/
theorem open_rows {α Hh : Type} {P : Program} {enc : TypeId × Value → Hh} {w : World} {base fuel : Nat} {held : Bool} {t e : TypeId} {cs : List Value} {x : DataW Hh × List MemPlace} (ht : P.underlying t = some (.slice e)) (cells : α → List Value) (n : Nat) (hlen : ∀ y, (cells y).length = n) (hpos : 0 < n) (hc : P.cellsOf e = n)
    (hel : ∀ fuel cs x, DataW.trod enc P w base (fun _ => true) held fuel e cs = some x → ∃ y : α, cs = cells y) (hx : DataW.trod enc P w base (fun _ => true) held fuel t cs = some x) :
    cs = [.slice none 0 0] ∨ ∃ (a : Addr) (len cap : Nat) (l : List α), cs = [.slice (some a) len cap] ∧ l.length = len ∧ len ≤ cap ∧ cap ≤ 9223372036854775807 ∧ (cap ≠ 0 → a.spot = none ∧ ∃ c el fz, w.heap[a.block]? = some (.cells c el fz) ∧ a.off + len * n ≤ c.size ∧
      ∀ (j : Nat) (y : α), l[j]? = some y → ∀ (i : Nat) (v : Value), (cells y)[i]? = some v → c[a.off + (j * n + i)]? = some v) := by
  rcases Go.Deep.open_slice ht hx with ⟨h0, _⟩ | ⟨a, len, cap, m, k, D, Pl, rfl, hb, hl, hm, hmm, _, hel2⟩
  · exact .inl h0
  right
  have hmc : m = cap := by simpa using hmm
  subst hmc
  have hq : ∀ i, i < m → ∃ y : α, w.cells? base (a.add (i * n)) n = some (cells y) := fun i hi => by
    obtain ⟨cs', h1, h2⟩ := hel2 i hi
    obtain ⟨y, rfl⟩ := hel _ _ _ h2
    rw [hc] at h1; exact ⟨y, h1⟩
  have hl2 : ∀ q, q ≤ len → ∃ l : List α, l.length = q ∧ ∀ j y, l[j]? = some y → w.cells? base (a.add (j * n)) n = some (cells y) := by
    intro q
    induction q with
    | zero => intro _; exact ⟨[], rfl, fun j y h => by simp at h⟩
    | succ q ih =>
      intro hq2
      obtain ⟨l, h1, h2⟩ := ih (by omega)
      obtain ⟨y, hy⟩ := hq q (by omega)
      refine ⟨l ++ [y], by simp [h1], fun j z hj => ?_⟩
      rw [List.getElem?_append] at hj
      split at hj
      · exact h2 j z hj
      · rename_i hge
        have hj2 := (List.getElem?_eq_some_iff.1 hj).1
        simp at hj2
        have : j = q := by omega
        subst this
        simp [h1] at hj; subst hj; exact hy
  obtain ⟨l, h1, h2⟩ := hl2 len (Nat.le_refl _)
  refine ⟨a, len, m, l, rfl, h1, hl, hm, fun hcap => ?_⟩
  obtain ⟨y0, hy0⟩ := hq 0 (by omega)
  obtain ⟨_, _, g3⟩ := World.cells?_some hy0
  have g4 := g3 0 hpos
  obtain ⟨v0, hv0⟩ : ∃ v, (cells y0)[0]? = some v := ⟨_, List.getElem?_eq_getElem (by rw [hlen]; exact hpos)⟩
  rw [hv0] at g4
  obtain ⟨hs, c, el, fz, hh, hcell⟩ := cell_heap g4
  have hblk : ((a.add (0 * n)).add 0).block = a.block := by rw [(add_block _ _).1, (add_block _ _).1]
  rw [hblk] at hh
  have hspot : a.spot = none := by
    have : (a.add (0 * n)).add 0 = a := by rw [Nat.zero_mul]; rfl
    rw [this] at hs; exact hs
  have all : ∀ (j : Nat) (y : α), w.cells? base (a.add (j * n)) n = some (cells y) → ∀ (i : Nat) (v : Value), (cells y)[i]? = some v → c[a.off + (j * n + i)]? = some v := fun j y hy i v hv => by
    obtain ⟨_, _, q3⟩ := World.cells?_some hy
    have hi : i < n := by have := (List.getElem?_eq_some_iff.1 hv).1; rw [hlen] at this; exact this
    have q4 := q3 i hi
    rw [hv] at q4
    obtain ⟨_, c2, el2, fz2, hh2, hcell2⟩ := cell_heap q4
    rw [(add_block _ _).1, (add_block _ _).1, hh] at hh2
    cases hh2
    rw [(add_block _ _).2, (add_block _ _).2] at hcell2
    rw [← hcell2]; congr 1; omega
  refine ⟨hspot, c, el, fz, hh, ?_, fun j y hj => all j y (h2 j y hj)⟩
  by_cases hz : len = 0
  · rw [hz]
    rw [(add_block _ _).2, (add_block _ _).2] at hcell
    have := (Array.getElem?_eq_some_iff.1 hcell).1; omega
  · have hj : len - 1 < l.length := by omega
    have hy := h2 (len - 1) _ (List.getElem?_eq_getElem hj)
    have hv := all (len - 1) _ hy (n - 1) _ (List.getElem?_eq_getElem (by rw [hlen]; omega))
    have := (Array.getElem?_eq_some_iff.1 hv).1
    have e1 : (len - 1) * n + (n - 1) + 1 = len * n := by
      obtain ⟨q, rfl⟩ : ∃ q, len = q + 1 := ⟨len - 1, by omega⟩
      simp only [Nat.add_sub_cancel, Nat.add_mul, Nat.one_mul]; omega
    omega
end Go.Proofs.Ytfcpokolbifilaa.Jd

