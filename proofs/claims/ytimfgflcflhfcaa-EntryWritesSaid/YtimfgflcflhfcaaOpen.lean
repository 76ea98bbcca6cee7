/- What comes in, opened by its type: a reading at a type tells a value of a kind. -/
import Derived.Test.YtimfgflcflhfcaaLex
import Derived.Deep.Slices
import Derived.ChangeArms
import Derived.OpenShut
import Derived.WideShapes
import Derived.DataReads
namespace Go.Proofs.Ytimfgflcflhfcaa.Open
set_option linter.unusedVariables false
set_option linter.unusedSimpArgs false
open Go.RowKit Go.Proofs.YtimfgflcflhfcaaW.PrintWords Go.Deep Go.WideShapes
/-- Whatever reads at type t is a value of kind d, and a good one. -/
def Opens {α : Type} (P : Program) (t : TypeId) (d : Kd α) (ok : α → Prop) : Prop :=
  ∀ {H : Type} (enc : TypeId × Value → H) (w : World) (base : Nat) (spare : Nat → Bool) (held : Bool) (fuel : Nat) (cs : List Value) (x : DataW H × List MemPlace),
    DataW.trod enc P w base spare held fuel t cs = some x → ∃ a, d.K w a cs ∧ ok a
section
variable {P : Program} {t e : TypeId}
theorem Opens.int {k : IntKind} (ht : P.underlying t = some (.int k)) : Opens P t (Kd.int k) (fun a => (Lit.int k a).wf = true) := by
  intro H enc w base spare held fuel cs x h
  obtain ⟨n, rfl, _, hw⟩ := DataW.trod_int ht h
  exact ⟨n, rfl, hw⟩
theorem Opens.bool (ht : P.underlying t = some .bool) : Opens P t Kd.bool (fun _ => True) := by
  intro H enc w base spare held fuel cs x h
  obtain ⟨b, rfl, _⟩ := DataW.trod_bool ht h
  exact ⟨b, rfl, trivial⟩
theorem Opens.string (ht : P.underlying t = some .string) : Opens P t Kd.string (fun a => a.size ≤ 9223372036854775807) := by
  intro H enc w base spare held fuel cs x h
  obtain ⟨s, rfl, _, hs⟩ := DataW.trod_string ht h
  exact ⟨s, rfl, hs⟩
theorem Opens.slice {α : Type} {d : Kd α} {ok : α → Prop} (ht : P.underlying t = some (.slice e)) (hc : P.cellsOf e = d.sz) (h : Opens P e d ok) :
    Opens P t (Kd.slice e d) (fun l => l.length ≤ 9223372036854775807 ∧ ∀ x ∈ l, ok x) := by
  intro H enc w base spare held fuel cs x hx
  rcases open_slice ht hx with ⟨rfl, _⟩ | ⟨a, len, cap, m, n, D, Pl, rfl, hb, hl, hm, hmm, _, hel⟩
  · exact ⟨[], ⟨none, 0, rfl, Nat.le_refl _, rfl, by simp, fun h => absurd h (by simp)⟩, by simp, by simp⟩
  · have hlm : len ≤ m := by rw [hmm]; split <;> omega
    have hq : ∀ i, i < len → ∃ y : α × List Value, w.cells? base (a.add (i * P.cellsOf e)) (P.cellsOf e) = some y.2 ∧ d.K w y.1 y.2 ∧ ok y.1 := by
      intro i hi
      obtain ⟨cs', h1, h2⟩ := hel i (by omega)
      obtain ⟨z, h3, h4⟩ := h enc w base spare held n cs' _ h2
      exact ⟨(z, cs'), h1, h3, h4⟩
    have hl2 : ∀ m, m ≤ len → ∃ l : List α, l.length = m ∧ (∀ x ∈ l, ok x) ∧ ∀ j p, l[j]? = some p → ∃ c, w.cells? base (a.add (j * P.cellsOf e)) (P.cellsOf e) = some c ∧ d.K w p c := by
      intro m
      induction m with
      | zero => intro _; exact ⟨[], rfl, by simp, by simp⟩
      | succ m ih =>
        intro hm
        obtain ⟨l, hl, ho, hg⟩ := ih (by omega)
        obtain ⟨y, h1, h2, h3⟩ := hq m (by omega)
        refine ⟨l ++ [y.1], by simp [hl], ?_, ?_⟩
        · intro x hx
          rcases List.mem_append.1 hx with hx | hx
          · exact ho x hx
          · rw [List.mem_singleton.1 hx]; exact h3
        · intro j p hj
          rcases Nat.lt_or_ge j l.length with hlt | hge
          · rw [List.getElem?_append_left hlt] at hj
            exact hg j p hj
          · have hjl : j = l.length := by
              have := (List.getElem?_eq_some_iff.1 hj).1
              simp at this
              omega
            subst hjl
            simp at hj
            subst hj
            rw [hl]
            exact ⟨y.2, h1, h2⟩
    obtain ⟨l, hl3, ho, hg⟩ := hl2 len (Nat.le_refl _)
    have hmx : cap ≤ 9223372036854775807 := hm
    refine ⟨l, ⟨some a, cap, by rw [hl3], by omega, rfl, by omega, fun _ => ⟨a, rfl, fun j p hj => ?_⟩⟩, by omega, ho⟩
    obtain ⟨c, h1, h2⟩ := hg j p hj
    obtain ⟨_, h4, h5⟩ := World.cells?_some h1
    refine ⟨c, by rw [h4, hc], h2, fun i u hu => ?_⟩
    have hi : i < P.cellsOf e := by
      have := (List.getElem?_eq_some_iff.1 hu).1
      omega
    have h6 := h5 i hi
    rw [Go.Deep.add_add] at h6
    rw [← hc, h6, hu]
/-- The fields of a struct, one behind the other: their types and where they begin. -/
def OpensF {α : Type} (P : Program) (fs : List (TypeId × Nat)) (o : Nat) (d : Kd α) (ok : α → Prop) : Prop :=
  ∀ {H : Type} (enc : TypeId × Value → H) (w : World) (base : Nat) (spare : Nat → Bool) (held : Bool) (fuel : Nat) (cs : List Value), cs.length = d.sz →
    (∀ f ∈ fs, ∃ x, DataW.trod enc P w base spare held fuel f.1 ((cs.drop (f.2 - o)).take (P.cellsOf f.1)) = some x) → ∃ a, d.K w a cs ∧ ok a
theorem OpensF.one {α : Type} {d : Kd α} {ok : α → Prop} {o : Nat} (hc : P.cellsOf t = d.sz) (h : Opens P t d ok) : OpensF P [(t, o)] o d ok := by
  intro H enc w base spare held fuel cs hl hf
  obtain ⟨x, hx⟩ := hf (t, o) (by simp)
  simp only [Nat.sub_self, List.drop_zero] at hx
  rw [List.take_of_length_le (by omega)] at hx
  exact h enc w base spare held fuel cs x hx
theorem OpensF.cons {α β : Type} {d : Kd α} {d' : Kd β} {ok : α → Prop} {ok' : β → Prop} {o o' : Nat} {fs : List (TypeId × Nat)} (ho : o' = o + d.sz) (hfs : ∀ f ∈ fs, o' ≤ f.2) (hc : P.cellsOf t = d.sz) (h : Opens P t d ok) (hr : OpensF P fs o' d' ok') :
    OpensF P ((t, o) :: fs) o (Kd.pair d d') (fun x => ok x.1 ∧ ok' x.2) := by
  intro H enc w base spare held fuel cs hl hf
  have hl' : cs.length = d.sz + d'.sz := hl
  obtain ⟨x, hx⟩ := hf (t, o) (by simp)
  simp only [Nat.sub_self, List.drop_zero] at hx
  rw [hc] at hx
  obtain ⟨a, ha, hao⟩ := h enc w base spare held fuel _ x hx
  obtain ⟨b, hb, hbo⟩ := hr enc w base spare held fuel (cs.drop d.sz) (by rw [List.length_drop]; omega) (fun f hm => by
    obtain ⟨y, hy⟩ := hf f (by simp [hm])
    have := hfs f hm
    refine ⟨y, ?_⟩
    rw [List.drop_drop, show d.sz + (f.2 - o') = f.2 - o from by omega]
    exact hy)
  exact ⟨(a, b), ⟨cs.take d.sz, cs.drop d.sz, (List.take_append_drop _ _).symm, ha, hb⟩, hao, hbo⟩
/-- a struct's fields' types and places -/
def fieldsOf (P : Program) (t : TypeId) : Option (List (TypeId × Nat)) :=
  match P.underlying t with
  | some (.struct fs) => some (fs.toList.map fun f => (f.type, f.offset))
  | _ => none
theorem Opens.struct {α β : Type} {d : Kd α} {ok : α → Prop} {fs : List (TypeId × Nat)} (f : β → α) (mk : α → β) (hmk : ∀ a, f (mk a) = a) (hfs : fieldsOf P t = some fs) (hc : P.cellsOf t = d.sz) (h : OpensF P fs 0 d ok) :
    Opens P t (Kd.iso d f) (fun x => ok (f x)) := by
  intro H enc w base spare held fuel cs x hx
  unfold fieldsOf at hfs
  cases hu : P.underlying t with
  | none => rw [hu] at hfs; cases hfs
  | some u =>
    rw [hu] at hfs
    cases u with
    | struct fa =>
      simp only [Option.some.injEq] at hfs
      obtain ⟨xs, n, _, _, hl, hlen, hget⟩ := DataW.trod_struct hu hx
      obtain ⟨a, ha, hao⟩ := h enc w base spare held n cs (by rw [hl, hc]) (fun g hg => by
        rw [← hfs] at hg
        obtain ⟨fl, hfl, rfl⟩ := List.mem_map.1 hg
        obtain ⟨i, hi, hgi⟩ := List.mem_iff_getElem.1 hfl
        have hia : i < fa.size := by simpa using hi
        have h1 : fa[i]? = some fl := by
          rw [Array.getElem?_eq_getElem hia]
          simpa using hgi
        have h2 := hget i fl h1
        have hix : i < xs.length := by omega
        rw [List.getElem?_eq_getElem hix] at h2
        exact ⟨xs[i], by simpa using h2⟩)
      exact ⟨mk a, (show d.K w (f (mk a)) cs from (hmk a).symm ▸ ha), (show ok (f (mk a)) from (hmk a).symm ▸ hao)⟩
    | _ => cases hfs
theorem Opens.array {α β : Type} {d : Kd α} {ok : α → Prop} {n : Nat} {fs : List (TypeId × Nat)} (f : β → α) (mk : α → β) (hmk : ∀ a, f (mk a) = a) (ht : P.underlying t = some (.array n e)) (hfs : (List.range n).map (fun i => (e, i * P.cellsOf e)) = fs) (hc : P.cellsOf t = d.sz) (h : OpensF P fs 0 d ok) :
    Opens P t (Kd.iso d f) (fun x => ok (f x)) := by
  intro H enc w base spare held fuel cs x hx
  obtain ⟨xs, m, _, _, hl, hlen, hget⟩ := DataW.trod_array ht hx
  obtain ⟨a, ha, hao⟩ := h enc w base spare held m cs (by rw [hl, hc]) (fun g hg => by
    rw [← hfs] at hg
    obtain ⟨i, hi, rfl⟩ := List.mem_map.1 hg
    have hi' : i < n := by simpa using hi
    have h2 := hget i hi'
    rw [List.getElem?_eq_getElem (show i < xs.length by omega)] at h2
    exact ⟨_, by simpa using h2⟩)
  exact ⟨mk a, (show d.K w (f (mk a)) cs from (hmk a).symm ▸ ha), (show ok (f (mk a)) from (hmk a).symm ▸ hao)⟩
theorem Opens.imp {α : Type} {d : Kd α} {ok ok' : α → Prop} (h : Opens P t d ok) (hi : ∀ x, ok x → ok' x) : Opens P t d ok' := by
  intro H enc w base spare held fuel cs x hx
  obtain ⟨a, ha, ho⟩ := h enc w base spare held fuel cs x hx
  exact ⟨a, ha, hi a ho⟩
/-- An argument that is no struct and no array. -/
theorem Opens.arg {α : Type} {d : Kd α} {ok : α → Prop} (h : Opens P t d ok) {H : Type} {enc : TypeId × Value → H} {w : World} {base : Nat} {spare : Nat → Bool} {held : Bool} {v : Value} {y : DataW H} {p : List MemPlace}
    (ht : DataW.Trod enc P w base spare held t v y p) : ∃ a, d.K w a v.cells.toList ∧ ok a := by
  obtain ⟨fuel, hf⟩ := ht
  exact h enc w base spare held fuel _ _ hf
end
end Go.Proofs.Ytimfgflcflhfcaa.Open
