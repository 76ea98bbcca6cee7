/- Loads and stores of the abstract machine, and the model's. -/
import Derived.Test.YtncpdahappmhkaaAmA
namespace Go.Proofs.Ytncpdahappmhkaa.Am
open Go
set_option linter.unusedVariables false
set_option linter.unusedSimpArgs false
variable {P : Program} {base : Nat} {r : Rho} {h : H} {w : World}

def H.ld (h : H) (a : Addr) : Option Value :=
  match a.spot with
  | some _ => none
  | none => match h.get a.block with
    | some B => B.cells[a.off]?
    | none => none
def H.lds (h : H) (a : Addr) (n : Nat) : Option (List Value) :=
  if n = 0 then some [] else
  match a.spot with
  | some _ => none
  | none => match h.get a.block with
    | some B => if a.off + n ≤ B.cells.length then some ((B.cells.drop a.off).take n) else none
    | none => none
def splice (l : List Value) (i : Nat) (vs : List Value) : List Value := l.take i ++ vs ++ l.drop (i + vs.length)
def H.sts (h : H) (a : Addr) (vs : List Value) : Option H :=
  match vs with
  | [] => some h
  | _ => match a.spot with
    | some _ => none
    | none => match h.get a.block with
      | some B => if B.ro then none else if a.off + vs.length ≤ B.cells.length ∧ vs.all (·.oneCell') = true then some (h.set a.block (some ⟨splice B.cells a.off vs, B.es, false⟩)) else none
      | none => none

theorem splice_length {l : List Value} {i : Nat} {vs : List Value} (hh : i + vs.length ≤ l.length) : (splice l i vs).length = l.length := by
  simp [splice]; omega
theorem splice_get {l : List Value} {i : Nat} {vs : List Value} (hh : i + vs.length ≤ l.length) (k : Nat) :
    (splice l i vs)[k]? = if i ≤ k ∧ k < i + vs.length then vs[k - i]? else l[k]? := by
  unfold splice
  have h1 : (l.take i).length = i := by simp; omega
  rw [List.getElem?_append, List.getElem?_append]
  simp only [List.length_append, h1]
  by_cases a : k < i
  · rw [if_pos (by omega), if_pos a, if_neg (by omega), List.getElem?_take, if_pos a]
  · by_cases b : k < i + vs.length
    · rw [if_pos b, if_neg a, if_pos (by omega)]
    · rw [if_neg b, if_neg (by omega), List.getElem?_drop]; congr 1; omega

theorem Rel.sub {h2 : H} (R : Rel base r h w) (hs : ∀ n B, h2.get n = some B → h.get n = some B) (hn : h.next ≤ h2.next) : Rel base r h2 w :=
  ⟨fun n B e => R.cells n B (hs n B e), fun n m Bn Bm L M e1 e2 => R.inj n m Bn Bm L M (hs _ _ e1) (hs _ _ e2), fun n k => R.new n (by omega), R.size, fun n B L e => R.ro n B L (hs _ _ e)⟩

theorem cell_of_heap {b k : Nat} {c : Array Value} {e : TypeId} {fz : Nat × Nat} (hb : w.heap[b]? = some (.cells c e fz)) : w.cell? ⟨b, k, none⟩ = c[k]? := by
  simp [World.cell?, hb]
theorem frozen_of_heap {b k : Nat} {c : Array Value} {e : TypeId} {fz : Nat × Nat} (hb : w.heap[b]? = some (.cells c e fz)) (hn : ¬ (fz.1 ≤ k ∧ k < fz.2)) : w.frozen? ⟨b, k, none⟩ = false := by
  obtain ⟨lo, hi⟩ := fz
  simp only [World.frozen?, hb]
  simpa using hn

theorem ld_run (R : Rel base r h w) {a a' : Addr} (ha : AR r a a') {v : Value} (e : h.ld a = some v) : ∃ v', w.cell? a' = some v' ∧ VR r v v' ∧ v.oneCell' = true := by
  obtain ⟨hs, L, hr, rfl⟩ := ha
  simp only [H.ld, hs] at e
  cases hg : h.get a.block with
  | none => rw [hg] at e; cases e
  | some B =>
    rw [hg] at e
    obtain ⟨L', c, et, fz, g1, g2, _, _, _, g3, g4⟩ := R.cells _ B hg
    rw [hr] at g1; cases g1
    obtain ⟨k1, v', k2, k3⟩ := g4 _ v e
    exact ⟨v', by rw [cell_of_heap g2]; exact k2, k3, k1⟩

theorem lds_run (R : Rel base r h w) {a a' : Addr} {n : Nat} (ha : n = 0 ∨ AR r a a') {vs : List Value} (e : h.lds a n = some vs) :
    ∃ vs', (∀ w2 : World, w2.heap = w.heap → (loadCells a' n).run P w2 = .ok vs'.toArray w2) ∧ VL r vs vs' ∧ vs.length = n ∧ ∀ v ∈ vs, v.oneCell' = true := by
  by_cases hn : n = 0
  · subst hn
    simp only [H.lds, if_true] at e; cases e
    exact ⟨[], fun _ _ => rfl, VL.nil r, rfl, fun v hv => by simp at hv⟩
  · obtain ⟨hs, L, hr, rfl⟩ := ha.resolve_left hn
    obtain ⟨b, o, lim, es⟩ := L
    simp only [H.lds, if_neg hn, hs] at e
    cases hg : h.get a.block with
    | none => rw [hg] at e; cases e
    | some B =>
      rw [hg] at e; simp only at e
      split at e
      · rename_i hle; cases e
        obtain ⟨L', c, et, fz, g1, g2, _, _, _, g3, g4⟩ := R.cells _ B hg
        rw [hr] at g1; cases g1
        have hval : ∀ j, j < n → ∃ v v', B.cells[a.off + j]? = some v ∧ v.oneCell' = true ∧ c[o + (a.off + j)]? = some v' ∧ VR r v v' := fun j hj => by
          have hlt : a.off + j < B.cells.length := by omega
          obtain ⟨k1, v', k2, k3⟩ := g4 _ _ (List.getElem?_eq_getElem hlt)
          exact ⟨_, v', List.getElem?_eq_getElem hlt, k1, k2, k3⟩
        have hsz : o + a.off + n ≤ c.size := by
          obtain ⟨v, v', q1, q2, q3, q4⟩ := hval (n - 1) (by omega)
          have := (Array.getElem?_eq_some_iff.1 q3).1
          omega
        refine ⟨(c.toList.drop (o + a.off)).take n, ?_, VL.of_get (by simp; omega) fun i v hv => ?_, by simp; omega, fun v hv => ?_⟩
        · intro w2 hw2
          have g2 : w2.heap[b]? = some (.cells c et fz) := by rw [hw2]; exact g2
          have hl : ((c.toList.drop (o + a.off)).take n).length = n := by simp; omega
          have := run_loadCells_list (P := P) (w := w2) ⟨b, o + a.off, none⟩ ((c.toList.drop (o + a.off)).take n) (fun j v hv => by
            rw [List.getElem?_take] at hv
            split at hv
            · rw [List.getElem?_drop] at hv
              have e1 : (⟨b, o + a.off, none⟩ : Addr).add j = ⟨b, o + a.off + j, none⟩ := by
                unfold Addr.add; split
                · rename_i h0; subst h0; rfl
                · rfl
              rw [e1, cell_of_heap g2]; simpa using hv
            · cases hv)
          rw [hl] at this; exact this
        · rw [List.getElem?_take] at hv
          split at hv
          · rename_i hi
            rw [List.getElem?_drop] at hv
            obtain ⟨u, v', q1, q2, q3, q4⟩ := hval i hi
            rw [q1] at hv; cases hv
            refine ⟨v', ?_, q4⟩
            rw [List.getElem?_take, if_pos hi, List.getElem?_drop, Array.getElem?_toList, Nat.add_assoc]; exact q3
          · cases hv
        · obtain ⟨i, hi, rfl⟩ := List.getElem_of_mem hv
          simp at hi
          obtain ⟨u, v', q1, q2, q3, q4⟩ := hval i (by omega)
          rw [List.getElem?_eq_getElem (by omega)] at q1
          simp only [List.getElem_take, List.getElem_drop]
          cases q1; exact q2
      · cases e

/-- One block's cells written; all else as it was. -/
structure Wr (w w2 : World) (b : Nat) (e : TypeId) (fz : Nat × Nat) (c2 : Array Value) : Prop where
  row : w2.heap[b]? = some (.cells c2 e fz)
  other : ∀ b', b' ≠ b → w2.heap[b']? = w.heap[b']?
  size : w2.heap.size = w.heap.size
  os : w2.os = w.os
  tape : w2.tape = w.tape
  output : w2.output = w.output

theorem run_storeCells : ∀ (vs : List Value) (i b o : Nat) (w : World) (c : Array Value) (e : TypeId) (fz : Nat × Nat), w.heap[b]? = some (.cells c e fz) → o + i + vs.length ≤ c.size →
    (∀ v ∈ vs, v.oneCell' = true) → (∀ k, o + i ≤ k → k < o + i + vs.length → ¬ (fz.1 ≤ k ∧ k < fz.2)) →
    ∃ w2 c2, (storeCells ⟨b, o, none⟩ vs i).run P w = .ok () w2 ∧ Wr w w2 b e fz c2 ∧ c2.size = c.size ∧ ∀ k, c2[k]? = if o + i ≤ k ∧ k < o + i + vs.length then vs[k - (o + i)]? else c[k]? := by
  intro vs
  induction vs with
  | nil => intro i b o w c e fz hb _ _ _; exact ⟨w, c, rfl, ⟨hb, fun _ _ => rfl, rfl, rfl, rfl, rfl⟩, rfl, fun k => by rw [if_neg (by simp)]⟩
  | cons v vs ih =>
    intro i b o w c e fz hb hle h1 hf
    simp only [List.length_cons] at hle hf
    have ea : (⟨b, o, none⟩ : Addr).add i = ⟨b, o + i, none⟩ := by
      unfold Addr.add; split
      · rename_i h0; subst h0; rfl
      · rfl
    have hc : w.cell? ⟨b, o + i, none⟩ = some c[o + i] := by rw [cell_of_heap hb]; exact Array.getElem?_eq_getElem (by omega)
    have hfz := frozen_of_heap hb (hf (o + i) (by omega) (by omega))
    have hb2 : (w.setCell ⟨b, o + i, none⟩ v).heap[b]? = some (.cells (c.setIfInBounds (o + i) v) e fz) := by
      simp [World.setCell, Array.getElem?_modify, hb]
    obtain ⟨w2, c2, r1, r2, r3, r4⟩ := ih (i + 1) b o (w.setCell ⟨b, o + i, none⟩ v) (c.setIfInBounds (o + i) v) e fz hb2 (by simp; omega) (fun u hu => h1 u (List.mem_cons_of_mem _ hu)) (fun k q1 q2 => hf k (by omega) (by omega))
    refine ⟨w2, c2, ?_, ⟨r2.row, fun b' hb' => ?_, ?_, r2.os, r2.tape, r2.output⟩, by rw [r3]; simp, fun k => ?_⟩
    · simp only [storeCells, ea, Sem.run_bind, run_store P w _ v _ (h1 v (List.mem_cons_self ..)), hc, hfz, Result.andThen_ok]
      simpa using r1
    · rw [r2.other b' hb']; exact Go.RowKit.Below.heap_setCell _ _ _ _ hb'
    · rw [r2.size]; simp
    · rw [r4 k]
      by_cases q : k = o + i
      · subst q
        rw [if_neg (by omega), if_pos (by simp), Array.getElem?_setIfInBounds_self_of_lt (by omega), Nat.sub_self, List.getElem?_cons_zero]
      · by_cases q2 : o + (i + 1) ≤ k ∧ k < o + (i + 1) + vs.length
        · rw [if_pos q2, if_pos (by simp; omega)]
          have : k - (o + i) = (k - (o + (i + 1))) + 1 := by omega
          rw [this]; simp
        · rw [if_neg q2, if_neg (by simp; omega), Array.getElem?_setIfInBounds_ne (by omega)]

/-- A written block: what its name stands for then. -/
theorem Rel.write (R : Rel base r h w) {n : Nat} {B : Blk} (hg : h.get n = some B) (hro : B.ro = false) {L : Loc} (hr : r n = some L) {w2 : World} {c : Array Value} {e : TypeId} {fz : Nat × Nat} {c2 : Array Value} (hb : w.heap[L.b]? = some (.cells c e fz))
    (W : Wr w w2 L.b e fz c2) (hsz : c2.size = c.size) {cs : List Value} (hl : cs.length ≤ L.lim) (hc : ∀ (i : Nat) (v : Value), cs[i]? = some v → v.oneCell' = true ∧ ∃ v', c2[L.o + i]? = some v' ∧ VR r v v') :
    Rel base r (h.set n (some ⟨cs, B.es, false⟩)) w2 ∧ Fr base r h w r (h.set n (some ⟨cs, B.es, false⟩)) w2 := by
  refine ⟨⟨fun m Bm he => ?_, fun m k Bm Bk L1 L2 h1 h2 hne h3 h4 h5 => ?_, R.new, by rw [W.size]; exact R.size, fun m Bm M h1 h2 h3 => by
    rw [H.get_set] at h1
    split at h1
    · cases h1; cases h2
    · exact R.ro m Bm M h1 h2 h3⟩, ⟨Rho.le_refl r, Nat.le_refl _, by rw [W.size]; exact Nat.le_refl _, W.os, W.tape, W.output, fun q hq hn => ?_, fun m Bm M h1 h2 h3 h4 => ?_⟩⟩
  · rw [H.get_set] at he
    split at he
    · rename_i hm; subst hm; cases he
      obtain ⟨L', c', e', fz', g1, g2, g3, g4, g5, g6, g7⟩ := R.cells _ B hg
      rw [hr] at g1; cases g1
      rw [hb] at g2; cases g2
      exact ⟨L, c2, e, fz, hr, W.row, g3, hl, by rw [hsz]; exact g5, fun _ => g6 hro, hc⟩
    · rename_i hm
      obtain ⟨L', c', e', fz', g1, g2, g3⟩ := R.cells _ Bm he
      refine ⟨L', c', e', fz', g1, ?_, g3⟩
      rw [W.other]; exact g2
      exact (R.inj n m B Bm L L' hg he (fun q => hm q.symm) hro hr g1).symm
  · rw [H.get_set] at h1 h2
    have back : ∀ {k : Nat} {Bk : Blk}, (if k = n then some (⟨cs, B.es, false⟩ : Blk) else h.get k) = some Bk → ∃ Bk', h.get k = some Bk' ∧ (Bk.ro = false → Bk'.ro = false) := fun {k Bk} q => by
      split at q
      · rename_i e1; subst e1; exact ⟨B, hg, fun _ => hro⟩
      · exact ⟨Bk, q, id⟩
    obtain ⟨B1, q1, q2⟩ := back h1
    obtain ⟨B2, q3, _⟩ := back h2
    exact R.inj m k B1 B2 L1 L2 q1 q3 hne (q2 h3) h4 h5
  · exact W.other q fun e1 => hn n B L hg hro hr e1.symm
  · rw [H.get_set] at h1
    split at h1
    · rename_i e1; subst e1; rw [hr] at h3; cases h3; exact ⟨m, B, L, hg, hro, hr, rfl⟩
    · exact ⟨m, Bm, M, h1, h2, h3, rfl⟩

theorem sts_run (R : Rel base r h w) {a a' : Addr} {vs vs' : List Value} (ha : vs = [] ∨ AR r a a') (hv : VL r vs vs') {h2 : H} (e : h.sts a vs = some h2) :
    ∃ w2, (storeCells a' vs').run P w = .ok () w2 ∧ Rel base r h2 w2 ∧ Fr base r h w r h2 w2 := by
  by_cases hn : vs = []
  · subst hn
    have : vs' = [] := by have := hv.1; simpa using this.symm
    subst this
    simp only [H.sts] at e; cases e
    exact ⟨w, rfl, R, Fr.refl ..⟩
  · obtain ⟨hs, L, hr, rfl⟩ := ha.resolve_left hn
    have e' : (match h.get a.block with
      | some B => if B.ro then none else if a.off + vs.length ≤ B.cells.length ∧ vs.all (·.oneCell') = true then some (h.set a.block (some ⟨splice B.cells a.off vs, B.es, false⟩)) else none
      | none => none) = some h2 := by
      rw [← e]; unfold H.sts
      cases vs with
      | nil => exact absurd rfl hn
      | cons x xs => simp only [hs]
    clear e
    cases hg : h.get a.block with
    | none => rw [hg] at e'; cases e'
    | some B =>
      rw [hg] at e'; simp only at e'
      split at e'
      · cases e'
      · rename_i hro
        have hro : B.ro = false := by simpa using hro
        split at e'
        · rename_i hle; obtain ⟨hle, h1⟩ := hle; cases e'
          obtain ⟨L', c, et, fz, g1, g2, g3, g4, g5, g6, g7⟩ := R.cells _ B hg
          rw [hr] at g1; cases g1
          have hl := hv.1
          obtain ⟨w2, c2, r1, r2, r3, r4⟩ := run_storeCells (P := P) vs' 0 L.b (L.o + a.off) w c et fz g2 (by omega) (fun v' hv' => by
            obtain ⟨i, hi, rfl⟩ := List.getElem_of_mem hv'
            obtain ⟨v, q1, q2⟩ := hv.get' (List.getElem?_eq_getElem hi)
            rw [q2.oneCell]
            exact List.all_eq_true.1 h1 v (List.mem_of_getElem? q1)) (fun k q1 q2 => (g6 hro).2 k (by omega) (by omega))
          refine ⟨w2, r1, ?_⟩
          exact R.write hg hro hr g2 r2 r3 (by rw [splice_length hle]; exact g4) fun i v hi => by
            rw [splice_get hle] at hi
            split at hi
            · rename_i q
              obtain ⟨v', q1, q2⟩ := hv.get hi
              refine ⟨List.all_eq_true.1 h1 v (List.mem_of_getElem? hi), v', ?_, q2⟩
              rw [r4, if_pos (by omega)]; rw [← q1]; congr 1; omega
            · rename_i q
              obtain ⟨k1, v', k2, k3⟩ := g7 i v hi
              refine ⟨k1, v', ?_, k3⟩
              rw [r4, if_neg (by omega)]; exact k2
        · cases e'
end Go.Proofs.Ytncpdahappmhkaa.Am
