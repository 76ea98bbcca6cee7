/- The law 'JudgeKeeps' returns true for all arguments: what its proof stands on, part 7. -/
import Derived.Test.YtfcpokolbifilaaZJudgeKeeps6
import Derived.OpenShut
namespace Go.Proofs.Ytfcpokolbifilaa.Am
open Go
set_option linter.unusedVariables false
set_option linter.unusedSimpArgs false
abbrev BL := List (Option Blk × Option Am.Loc)
def CompR (r : Rho) (k : Nat) (bl : BL) : Prop := ∀ i p, bl[i]? = some p → r (k + i) = p.2
def CompH (h : H) (k : Nat) (bl : BL) : Prop := ∀ i p, bl[i]? = some p → ∀ B, p.1 = some B → h.get (k + i) = some B
def BlkOK (W : World) (r : Rho) (p : Option Blk × Option Am.Loc) : Prop := ∀ B, p.1 = some B → ∃ L c e fz, p.2 = some L ∧ W.heap[L.b]? = some (.cells c e fz) ∧ L.es = B.es ∧ B.cells.length ≤ L.lim ∧ L.o + L.lim ≤ c.size ∧ B.ro = true ∧
  ∀ (i : Nat) (v : Value), B.cells[i]? = some v → v.oneCell' = true ∧ ∃ v', c[L.o + i]? = some v' ∧ VR r v v'
theorem CompR.left {r : Rho} {k : Nat} {a b : BL} (h : CompR r k (a ++ b)) : CompR r k a := fun i p hp => h i p (by rw [List.getElem?_append_left (List.getElem?_eq_some_iff.1 hp).1]; exact hp)
theorem CompR.right {r : Rho} {k : Nat} {a b : BL} (h : CompR r k (a ++ b)) : CompR r (k + a.length) b := fun i p hp => by
  have := h (a.length + i) p (by rw [List.getElem?_append_right (by omega), Nat.add_sub_cancel_left]; exact hp)
  rw [← this]; congr 1; omega
theorem CompH.left {r : H} {k : Nat} {a b : BL} (h : CompH r k (a ++ b)) : CompH r k a := fun i p hp => h i p (by rw [List.getElem?_append_left (List.getElem?_eq_some_iff.1 hp).1]; exact hp)
theorem CompH.right {r : H} {k : Nat} {a b : BL} (h : CompH r k (a ++ b)) : CompH r (k + a.length) b := fun i p hp B hB => by
  have := h (a.length + i) p (by rw [List.getElem?_append_right (by omega), Nat.add_sub_cancel_left]; exact hp) B hB
  rw [← this]; congr 1; omega
abbrev Lay (α : Type) := H → α → List Value → Prop
def Given (W : World) (k n : Nat) {α : Type} (L : Lay α) (ok : α → Prop) (cs : List Value) : Prop :=
  ∃ (a : α) (bl : BL) (acs : List Value), acs.length = n ∧ acs.all (·.oneCell') = true ∧ (∀ r, CompR r k bl → (∀ p ∈ bl, BlkOK W r p) ∧ VL r acs cs) ∧ (∀ h, CompH h k bl → L h a acs) ∧ ok a
def OpensL (P : Program) (t : TypeId) {α : Type} (L : Lay α) (n : Nat) (ok : α → Prop) : Prop :=
  P.cellsOf t = n ∧ ∀ {Hh : Type} (enc : TypeId × Value → Hh) (W : World) (held : Bool) (fuel : Nat) (cs : List Value) (x : DataW Hh × List MemPlace), DataW.trod enc P W 0 (fun _ => true) held fuel t cs = some x → ∀ k, Given W k n L ok cs
section
variable {P : Program} {t e : TypeId}
theorem given_plain {W : World} {k : Nat} {α : Type} {L : Lay α} {ok : α → Prop} {v : Value} (a : α) (hp : plain1 v = true) (hL : ∀ h, L h a [v]) (ho : ok a) : Given W k 1 L ok [v] :=
  ⟨a, [], [v], rfl, by simp [oneCell_of_plain1 hp], fun r _ => ⟨fun p hp => by simp at hp, VL.cons (VR.of_plain1 hp) (VL.nil r)⟩, fun h _ => hL h, ho⟩
def layU64 : Lay UInt64 := fun _ a cs => cs = [.int .u64 ((a.toNat : Nat) : Int)]
def layI64 : Lay Int64 := fun _ a cs => cs = [.int .i64 a.toInt]
def layBool : Lay Bool := fun _ a cs => cs = [.bool a]
theorem OpensL.u64 (ht : P.underlying t = some (.int .u64)) (hc : P.cellsOf t = 1) : OpensL P t layU64 1 (fun _ => True) := by
  refine ⟨hc, fun enc W held fuel cs x h k => ?_⟩
  obtain ⟨n, rfl, _, hw⟩ := DataW.trod_int ht h
  have hw : 0 ≤ n ∧ n ≤ 18446744073709551615 := by simpa [Lit.wf, IntKind.min, IntKind.max, IntKind.signed, IntKind.bits] using hw
  have e : n = (((UInt64.ofNat n.toNat).toNat : Nat) : Int) := by rw [UInt64.toNat_ofNat']; omega
  exact given_plain (UInt64.ofNat n.toNat) rfl (fun _ => by show _ = _; rw [← e]) trivial
theorem OpensL.i64 (ht : P.underlying t = some (.int .i64)) (hc : P.cellsOf t = 1) : OpensL P t layI64 1 (fun _ => True) := by
  refine ⟨hc, fun enc W held fuel cs x h k => ?_⟩
  obtain ⟨n, rfl, _, hw⟩ := DataW.trod_int ht h
  have hw : -9223372036854775808 ≤ n ∧ n ≤ 9223372036854775807 := by simpa [Lit.wf, IntKind.min, IntKind.max, IntKind.signed, IntKind.bits] using hw
  have e : (Int64.ofInt n).toInt = n := Int64.toInt_ofInt_of_le (by omega) (by omega)
  exact given_plain (Int64.ofInt n) rfl (fun _ => by show _ = _; rw [e]) trivial
theorem OpensL.bool (ht : P.underlying t = some .bool) (hc : P.cellsOf t = 1) : OpensL P t layBool 1 (fun _ => True) := by
  refine ⟨hc, fun enc W held fuel cs x h k => ?_⟩
  obtain ⟨b, rfl, _⟩ := DataW.trod_bool ht h
  exact given_plain b rfl (fun _ => rfl) trivial
inductive SlL {α : Type} (L : Lay α) (n : Nat) (h : H) : Value → List α → Prop
  | nil : SlL L n h (.slice none 0 0) []
  | emp (a : Addr) (c : Nat) : SlL L n h (.slice (some a) 0 c) []
  | row (b c : Nat) (l : List α) (cells : List Value) (hg : h.get b = some ⟨cells, n, true⟩) (hl : cells.length = l.length * n) (he : ∀ (j : Nat) (y : α), l[j]? = some y → L h y ((cells.drop (j * n)).take n)) : SlL L n h (.slice (some ⟨b, 0, none⟩) l.length c) l
def laySl {α : Type} (L : Lay α) (n : Nat) : Lay (List α) := fun h l cs => ∃ V, cs = [V] ∧ SlL L n h V l
theorem chunk_append {α : Type} {a b : List α} {n q j : Nat} (ha : a.length = q * n) (hj : j < q) : ((a ++ b).drop (j * n)).take n = (a.drop (j * n)).take n := by
  have : (j + 1) * n ≤ q * n := Nat.mul_le_mul_right n (by omega)
  rw [Nat.add_mul, Nat.one_mul] at this
  rw [List.drop_append_of_le_length (by omega), List.take_append_of_le_length (by rw [List.length_drop]; omega)]
theorem chunk_last {α : Type} {a b : List α} {n q : Nat} (ha : a.length = q * n) (hb : b.length = n) : ((a ++ b).drop (q * n)).take n = b := by
  rw [← ha, List.drop_left, List.take_of_length_le (by omega)]
theorem OpensL.slice {α : Type} {L : Lay α} {n : Nat} {ok : α → Prop} (ht : P.underlying t = some (.slice e)) (hct : P.cellsOf t = 1) (hn : 0 < n) (h : OpensL P e L n ok) : OpensL P t (laySl L n) 1 (fun l => l.length < 9223372036854775808 ∧ ∀ x ∈ l, ok x) := by
  obtain ⟨hc, h⟩ := h
  refine ⟨hct, fun {Hh} enc W held fuel cs x hx k => ?_⟩
  rcases Go.Deep.open_slice ht hx with ⟨rfl, _⟩ | ⟨a, len, cap, m, fu, D, Pl, rfl, hb, hl, hm, hmm, _, hel⟩
  · exact ⟨[], [], [.slice none 0 0], rfl, rfl, fun r _ => ⟨fun p hp => by simp at hp, VL.cons .sl0 (VL.nil r)⟩, fun h _ => ⟨_, rfl, .nil⟩, by simp, by simp⟩
  have hmc : m = cap := by simpa using hmm
  subst hmc
  have hmx : m ≤ 9223372036854775807 := hm
  by_cases hlen : len = 0
  · subst hlen
    by_cases hcap : m = 0
    · subst hcap
      exact ⟨[], [], [.slice (some ⟨0, 0, none⟩) 0 1], rfl, rfl, fun r _ => ⟨fun p hp => by simp at hp, VL.cons (.sl (.inr rfl) (Nat.le_refl _) (by omega) (fun _ => rfl) (fun q => by omega)) (VL.nil r)⟩, fun h _ => ⟨_, rfl, .emp _ _⟩, by simp, by simp⟩
    ·
      obtain ⟨cs0, g0, _⟩ := hel 0 (by omega)
      have g4 := (World.cells?_some g0).2.2 0 (by rw [hc]; exact hn)
      have hl0 := (World.cells?_some g0).2.1
      obtain ⟨v0, hv0⟩ : ∃ v, cs0[0]? = some v := ⟨_, List.getElem?_eq_getElem (by rw [hl0, hc]; exact hn)⟩
      rw [hv0] at g4
      obtain ⟨hs, _⟩ := cell_heap g4
      have hspot : a.spot = none := by
        have : (a.add (0 * P.cellsOf e)).add 0 = a := by rw [Nat.zero_mul]; rfl
        rw [this] at hs; exact hs
      refine ⟨[], [(none, some ⟨a.block, a.off, 0, n⟩)], [.slice (some ⟨k, 0, none⟩) 0 (2 * m + 1)], rfl, rfl, fun r hr => ⟨fun p hp B hB => (by simp at hp; subst hp; cases hB), VL.cons (.sl (.inl ⟨rfl, _, hr 0 _ rfl, ?_⟩) (by omega) (by omega) (fun _ => by omega) (fun q => by omega)) (VL.nil r)⟩, fun h _ => ⟨_, rfl, .emp _ _⟩, by simp, by simp⟩
      obtain ⟨ab, ao, asp⟩ := a
      simp only at hspot; subst hspot; rfl
  have hq : ∀ q, q ≤ len → ∃ (l : List α) (bl : BL) (acs : List Value), l.length = q ∧ acs.length = q * n ∧ acs.all (·.oneCell') = true ∧ (∀ r, CompR r (k + 1) bl → (∀ p ∈ bl, BlkOK W r p) ∧ ∀ j, j < q → ∃ cs', W.cells? 0 (a.add (j * n)) n = some cs' ∧ VL r ((acs.drop (j * n)).take n) cs') ∧
      (∀ h, CompH h (k + 1) bl → ∀ (j : Nat) (y : α), l[j]? = some y → L h y ((acs.drop (j * n)).take n)) ∧ ∀ x ∈ l, ok x := by
    intro q
    induction q with
    | zero => intro _; exact ⟨[], [], [], rfl, by simp, rfl, fun r _ => ⟨fun p hp => by simp at hp, fun j hj => by omega⟩, fun h _ j y hj => by simp at hj, by simp⟩
    | succ q ih =>
      intro hq2
      obtain ⟨l, bl, acs, l1, l2, l3, l4, l5, l6⟩ := ih (by omega)
      obtain ⟨cs', g1, g2⟩ := hel q (by omega)
      rw [hc] at g1
      obtain ⟨y, bl2, acs2, m1, m2, m3, m4, m5⟩ := h enc W held fu cs' _ g2 (k + 1 + bl.length)
      refine ⟨l ++ [y], bl ++ bl2, acs ++ acs2, by simp [l1], by rw [List.length_append, l2, m1, Nat.add_mul, Nat.one_mul], by rw [List.all_append, l3, m2]; rfl, fun r hr => ⟨fun p hp => ?_, fun j hj => ?_⟩, fun h hh j z hj => ?_, fun z hz => ?_⟩
      · rcases List.mem_append.1 hp with hp | hp
        · exact (l4 r hr.left).1 p hp
        · exact (m3 r hr.right).1 p hp
      · by_cases hjq : j < q
        · rw [chunk_append l2 hjq]; exact (l4 r hr.left).2 j hjq
        · have : j = q := by omega
          subst this
          rw [chunk_last l2 m1]; exact ⟨cs', g1, (m3 r hr.right).2⟩
      · have hj2 := (List.getElem?_eq_some_iff.1 hj).1
        rw [List.length_append, l1] at hj2; simp at hj2
        by_cases hjq : j < q
        · rw [List.getElem?_append_left (by omega)] at hj
          rw [chunk_append l2 hjq]; exact l5 h hh.left j z hj
        · have : j = q := by omega
          subst this
          rw [List.getElem?_append_right (by omega), l1, Nat.sub_self] at hj
          simp at hj; subst hj
          rw [chunk_last l2 m1]; exact m4 h hh.right
      · rcases List.mem_append.1 hz with hz | hz
        · exact l6 z hz
        · rw [List.mem_singleton.1 hz]; exact m5
  obtain ⟨l, bl, acs, l1, l2, l3, l4, l5, l6⟩ := hq len (Nat.le_refl _)
  obtain ⟨cs0, g0, _⟩ := hel 0 (by omega)
  have g4 := (World.cells?_some g0).2.2 0 (by rw [hc]; exact hn)
  have hl0 := (World.cells?_some g0).2.1
  obtain ⟨v0, hv0⟩ : ∃ v, cs0[0]? = some v := ⟨_, List.getElem?_eq_getElem (by rw [hl0, hc]; exact hn)⟩
  rw [hv0] at g4
  obtain ⟨hs, c, el, fz, hh, hcell⟩ := cell_heap g4
  rw [(add_block _ _).1, (add_block _ _).1] at hh
  have hspot : a.spot = none := by
    have : (a.add (0 * P.cellsOf e)).add 0 = a := by rw [Nat.zero_mul]; rfl
    rw [this] at hs; exact hs
  have all : ∀ (j : Nat) (cs' : List Value), W.cells? 0 (a.add (j * n)) n = some cs' → ∀ (i : Nat) (v : Value), cs'[i]? = some v → c[a.off + (j * n + i)]? = some v := fun j cs' hy i v hv => by
    obtain ⟨_, q2, q3⟩ := World.cells?_some hy
    have hi : i < n := by have := (List.getElem?_eq_some_iff.1 hv).1; omega
    have q4 := q3 i hi
    rw [hv] at q4
    obtain ⟨_, c2, el2, fz2, hh2, hcell2⟩ := cell_heap q4
    rw [(add_block _ _).1, (add_block _ _).1, hh] at hh2
    cases hh2
    rw [(add_block _ _).2, (add_block _ _).2] at hcell2
    rw [← hcell2]; congr 1; omega
  have hsz : a.off + len * n ≤ c.size := by
    obtain ⟨csl, e1, _⟩ := hel (len - 1) (by omega)
    rw [hc] at e1
    have q2 := (World.cells?_some e1).2.1
    have hv := all (len - 1) csl e1 (n - 1) _ (List.getElem?_eq_getElem (by omega))
    have := (Array.getElem?_eq_some_iff.1 hv).1
    have e2 : (len - 1) * n + n = len * n := by
      obtain ⟨q, rfl⟩ : ∃ q, len = q + 1 := ⟨len - 1, by omega⟩
      simp only [Nat.add_sub_cancel, Nat.add_mul, Nat.one_mul]
    omega
  refine ⟨l, (some ⟨acs, n, true⟩, some ⟨a.block, a.off, len * n, n⟩) :: bl, [.slice (some ⟨k, 0, none⟩) len (2 * m + 1)], rfl, rfl, fun r hr => ?_, fun h hH => ?_, by omega, l6⟩
  · have hr0 : r k = some ⟨a.block, a.off, len * n, n⟩ := hr 0 _ rfl
    have hr1 : CompR r (k + 1) bl := fun i p hp => by rw [Nat.add_assoc, Nat.add_comm 1 i]; exact hr (i + 1) p hp
    obtain ⟨r1, r2⟩ := l4 r hr1
    refine ⟨fun p hp => ?_, VL.cons (.sl (.inl ⟨rfl, _, hr0, ?_⟩) hl (by omega) (fun _ => by omega) (fun q => by omega)) (VL.nil r)⟩
    · rcases List.mem_cons.1 hp with rfl | hp
      · intro B hB
        cases hB
        refine ⟨_, c, el, fz, rfl, hh, rfl, by show acs.length ≤ len * n; omega, hsz, rfl, fun i v hv => ⟨List.all_eq_true.1 l3 v (List.mem_of_getElem? hv), ?_⟩⟩
        have hi := (List.getElem?_eq_some_iff.1 hv).1
        have hv : acs[i]? = some v := hv
        have hi : i < acs.length := hi
        have hj : i / n < len := Nat.div_lt_of_lt_mul (by rw [Nat.mul_comm]; omega)
        have he : i = i / n * n + i % n := by rw [Nat.mul_comm]; exact (Nat.div_add_mod i n).symm
        obtain ⟨cs', s1, s2⟩ := r2 (i / n) hj
        have hk : ((acs.drop (i / n * n)).take n)[i % n]? = some v := by
          rw [List.getElem?_take, if_pos (Nat.mod_lt _ hn), List.getElem?_drop, ← he]; exact hv
        obtain ⟨v', t1, t2⟩ := s2.get hk
        refine ⟨v', ?_, t2⟩
        have := all (i / n) cs' s1 (i % n) v' t1
        rw [← he] at this; exact this
      · exact r1 p hp
    · obtain ⟨ab, ao, asp⟩ := a
      simp only at hspot; subst hspot; rfl
  · have h0 : h.get k = some ⟨acs, n, true⟩ := hH 0 _ rfl _ rfl
    have h1 : CompH h (k + 1) bl := fun i p hp B hB => by rw [Nat.add_assoc, Nat.add_comm 1 i]; exact hH (i + 1) p hp B hB
    refine ⟨_, rfl, ?_⟩
    have := SlL.row (L := L) (n := n) (h := h) k (2 * m + 1) l acs h0 (by rw [l2, l1]) (l5 h h1)
    rw [l1] at this; exact this
def OpensLF (P : Program) (fs : List (TypeId × Nat)) (o : Nat) {α : Type} (L : Lay α) (n : Nat) (ok : α → Prop) : Prop :=
  ∀ {Hh : Type} (enc : TypeId × Value → Hh) (W : World) (held : Bool) (fuel : Nat) (cs : List Value), cs.length = n →
    (∀ f ∈ fs, ∃ x, DataW.trod enc P W 0 (fun _ => true) held fuel f.1 ((cs.drop (f.2 - o)).take (P.cellsOf f.1)) = some x) → ∀ k, Given W k n L ok cs
theorem OpensLF.one {α : Type} {L : Lay α} {n : Nat} {ok : α → Prop} {o : Nat} (h : OpensL P t L n ok) : OpensLF P [(t, o)] o L n ok := by
  intro Hh enc W held fuel cs hl hf
  obtain ⟨x, hx⟩ := hf (t, o) (by simp)
  simp only [Nat.sub_self, List.drop_zero] at hx
  rw [List.take_of_length_le (by rw [h.1]; omega)] at hx
  exact h.2 enc W held fuel cs x hx
def layP {α β : Type} (L : Lay α) (M : Lay β) : Lay (α × β) := fun h x cs => ∃ c1 c2, cs = c1 ++ c2 ∧ L h x.1 c1 ∧ M h x.2 c2
theorem OpensLF.cons {α β : Type} {L : Lay α} {M : Lay β} {n m : Nat} {ok : α → Prop} {ok' : β → Prop} {o o' : Nat} {fs : List (TypeId × Nat)} (ho : o' = o + n) (hfs : ∀ f ∈ fs, o' ≤ f.2) (h : OpensL P t L n ok) (hr : OpensLF P fs o' M m ok') :
    OpensLF P ((t, o) :: fs) o (layP L M) (n + m) (fun x => ok x.1 ∧ ok' x.2) := by
  intro Hh enc W held fuel cs hl hf k
  obtain ⟨x, hx⟩ := hf (t, o) (by simp)
  simp only [Nat.sub_self, List.drop_zero] at hx
  rw [h.1] at hx
  obtain ⟨a, bl, acs, a1, a2, a3, a4, a5⟩ := h.2 enc W held fuel _ x hx k
  obtain ⟨b, bl2, acs2, b1, b2, b3, b4, b5⟩ := hr enc W held fuel (cs.drop n) (by rw [List.length_drop]; omega) (fun f hm => by
    obtain ⟨y, hy⟩ := hf f (by simp [hm])
    have := hfs f hm
    refine ⟨y, ?_⟩
    rw [List.drop_drop, show n + (f.2 - o') = f.2 - o from by omega]
    exact hy) (k + bl.length)
  refine ⟨(a, b), bl ++ bl2, acs ++ acs2, by rw [List.length_append, a1, b1], by rw [List.all_append, a2, b2]; rfl, fun r hr2 => ⟨fun p hp => ?_, ?_⟩, fun h hh => ⟨acs, acs2, rfl, a4 h hh.left, b4 h hh.right⟩, a5, b5⟩
  · rcases List.mem_append.1 hp with hp | hp
    · exact (a3 r hr2.left).1 p hp
    · exact (b3 r hr2.right).1 p hp
  · have := (a3 r hr2.left).2.append (b3 r hr2.right).2
    rwa [List.take_append_drop] at this
def fieldsOf (P : Program) (t : TypeId) : Option (List (TypeId × Nat)) :=
  match P.underlying t with
  | some (.struct fs) => some (fs.toList.map fun f => (f.type, f.offset))
  | _ => none
theorem OpensL.struct {α β : Type} {L : Lay β} {M : Lay α} {n : Nat} {ok : β → Prop} {ok' : α → Prop} {fs : List (TypeId × Nat)} (mk : β → α) (hM : ∀ h b cs, L h b cs → M h (mk b) cs) (hok : ∀ b, ok b → ok' (mk b)) (hfs : fieldsOf P t = some fs) (hc : P.cellsOf t = n) (h : OpensLF P fs 0 L n ok) : OpensL P t M n ok' := by
  refine ⟨hc, fun {Hh} enc W held fuel cs x hx k => ?_⟩
  unfold fieldsOf at hfs
  cases hu : P.underlying t with
  | none => rw [hu] at hfs; cases hfs
  | some u =>
    rw [hu] at hfs
    cases u with
    | struct fa =>
      simp only [Option.some.injEq] at hfs
      obtain ⟨xs, m, _, _, hl, hlen, hget⟩ := DataW.trod_struct hu hx
      obtain ⟨a, bl, acs, a1, a2, a3, a4, a5⟩ := h enc W held m cs (by rw [hl, hc]) (fun g hg => by
        rw [← hfs] at hg
        obtain ⟨fl, hfl, rfl⟩ := List.mem_map.1 hg
        obtain ⟨i, hi, hgi⟩ := List.mem_iff_getElem.1 hfl
        have hia : i < fa.size := by simpa using hi
        have h1 : fa[i]? = some fl := by
          rw [Array.getElem?_eq_getElem hia]
          simpa using hgi
        have h2 := hget i fl h1
        have hix : i < xs.length := by omega
        rw [List.getElem?_eq_getElem hix] at h2
        exact ⟨xs[i], by simpa using h2⟩) k
      exact ⟨mk a, bl, acs, a1, a2, a3, fun h hh => hM h a acs (a4 h hh), hok a a5⟩
    | _ => cases hfs
end
theorem SlL.sl {α : Type} {K : Row α} {h : H} {V : Value} {l : List α} (A : SlL (fun _ y cs => cs = K.cells y) K.n h V l) : K.Sl h V l := by
  cases A with
  | nil => exact .nil
  | emp a c => exact .emp a c
  | row b c l cells hg hl he =>
    have e : cells = K.flat l := by
      apply List.ext_getElem?
      intro i
      by_cases hi : i < cells.length
      · have hj : i / K.n < l.length := Nat.div_lt_of_lt_mul (by rw [Nat.mul_comm]; omega)
        have hi2 : i = i / K.n * K.n + i % K.n := by rw [Nat.mul_comm]; exact (Nat.div_add_mod i K.n).symm
        have h1 := he (i / K.n) _ (List.getElem?_eq_getElem hj)
        have h2 := K.flat_get l (i / K.n) _ (List.getElem?_eq_getElem hj)
        have h3 := congrArg (fun z : List Value => z[i % K.n]?) (h1.trans h2.symm)
        simp only [List.getElem?_take, if_pos (Nat.mod_lt i K.pos), List.getElem?_drop] at h3
        rw [← hi2] at h3; exact h3
      · rw [List.getElem?_eq_none (by omega), List.getElem?_eq_none (by rw [K.flat_length]; omega)]
    subst e
    exact .own hg
theorem rel_bl {W : World} {bl : BL} (hb : ∀ p ∈ bl, BlkOK W (rhoL (bl.map Prod.snd)) p) : Rel W.heap.size (rhoL (bl.map Prod.snd)) (args (bl.map Prod.fst)) W := by
  have pick : ∀ k B, (args (bl.map Prod.fst)).get k = some B → ∃ p, bl[k]? = some p ∧ p.1 = some B := fun k B e => by
    rw [args_get, List.getElem?_map] at e
    cases ho : bl[k]? with
    | none => rw [ho] at e; cases e
    | some p => rw [ho] at e; exact ⟨p, rfl, by simpa using e⟩
  have loc : ∀ k p, bl[k]? = some p → rhoL (bl.map Prod.snd) k = p.2 := fun k p e => by simp [rhoL, List.getElem?_map, e]
  refine ⟨fun k B e => ?_, fun n m Bn Bm L M e1 e2 hne hro => ?_, fun n hn => ?_, Nat.le_refl _, fun n B L e hro hL => ?_⟩
  · obtain ⟨p, h1, h2⟩ := pick k B e
    obtain ⟨L, c, el, fz, g1, g2, g3, g4, g5, g6, g7⟩ := hb p (List.mem_of_getElem? h1) B h2
    exact ⟨L, c, el, fz, by rw [loc k p h1, g1], g2, g3, g4, g5, fun q => by (rw [g6] at q; cases q), g7⟩
  · obtain ⟨p, h1, h2⟩ := pick n Bn e1
    obtain ⟨_, _, _, _, _, _, _, _, _, g6, _⟩ := hb p (List.mem_of_getElem? h1) Bn h2
    rw [g6] at hro; cases hro
  · rw [args_next, List.length_map] at hn
    simp [rhoL, List.getElem?_eq_none (show bl.length ≤ n by omega)]
  · obtain ⟨p, h1, h2⟩ := pick n B e
    obtain ⟨L', c, el, fz, g1, g2, _⟩ := hb p (List.mem_of_getElem? h1) B h2
    rw [loc n p h1, g1] at hL; cases hL
    exact (Array.getElem?_eq_some_iff.1 g2).1
theorem compR_rho (bl : BL) : CompR (rhoL (bl.map Prod.snd)) 0 bl := fun i p hp => by simp [rhoL, List.getElem?_map, hp]
theorem compH_args (bl : BL) : CompH (args (bl.map Prod.fst)) 0 bl := fun i p hp B hB => by
  rw [args_get, List.getElem?_map, Nat.zero_add, hp]; simp [hB]
theorem wf_args (bl : BL) : Mem (args (bl.map Prod.fst)) (args (bl.map Prod.fst)) [] [] := Mem.start fun n B e => by
  rw [args_get] at e; rw [args_next]
  rcases Nat.lt_or_ge n (bl.map Prod.fst).length with q | q
  · exact q
  · rw [List.getElem?_eq_none q] at e; cases e
def GivenA (W : World) (k : Nat) (us us' : List Value) (bl : BL) : Prop := ∀ r, CompR r k bl → (∀ p ∈ bl, BlkOK W r p) ∧ VL r us us'
theorem GivenA.nil {W : World} {k : Nat} : GivenA W k [] [] [] := fun r _ => ⟨fun p hp => by simp at hp, VL.nil r⟩
theorem GivenA.cons {W : World} {k : Nat} {u u' : Value} {us us' : List Value} {bl bl2 : BL} (h1 : ∀ r, CompR r k bl → (∀ p ∈ bl, BlkOK W r p) ∧ VR r u u') (h2 : GivenA W (k + bl.length) us us' bl2) : GivenA W k (u :: us) (u' :: us') (bl ++ bl2) := fun r hr =>
  ⟨fun p hp => (List.mem_append.1 hp).elim ((h1 r hr.left).1 p) ((h2 r hr.right).1 p), VL.cons (h1 r hr.left).2 (h2 r hr.right).2⟩
theorem given_one {W : World} {k : Nat} {bl : BL} {u v : Value} (h : ∀ r, CompR r k bl → (∀ p ∈ bl, BlkOK W r p) ∧ VL r [u] [v]) : ∀ r, CompR r k bl → (∀ p ∈ bl, BlkOK W r p) ∧ VR r u v := fun r hr =>
  ⟨(h r hr).1, (h r hr).2.2 0 u v rfl rfl⟩
theorem one_of {l : List Value} (h : l.length = 1) : ∃ u, l = [u] := by
  match l, h with
  | [u], _ => exact ⟨u, rfl⟩
theorem law_calls {P : Program} {tab : Nat → Option FD} (hD : DrawOK P) (hT : TabOK P tab) {f : Nat} {W : World} {bl : BL} {us us' : List Value} (hb : ∀ r, CompR r 0 bl → (∀ p ∈ bl, BlkOK W r p) ∧ VL r us us')
    (hw : Cll tab f us (args (bl.map Prod.fst)) (fun v _ => v = .bool true)) : Calls P f us'.toArray W fun e W' => e = .returned (.bool true) ∧ Go.RowKit.Below W.heap.size W W' := by
  obtain ⟨v, h2, ⟨n, hr⟩, rfl⟩ := hw
  obtain ⟨b1, b2⟩ := hb _ (compR_rho bl)
  have R := rel_bl b1
  refine (run_table hD hT n f W.heap.size _ _ W us us' _ _ hr b2 R).2.mono fun e W' he => ?_
  obtain ⟨r2, v', rfl, hv, _, F, _⟩ := he
  cases hv
  exact ⟨rfl, F.below R⟩
end Go.Proofs.Ytfcpokolbifilaa.Am
namespace Go.Proofs.Ytfcpokolbifilaa.Wt
open Go Go.Proofs.Ytfcpokolbifilaa.Am Go.Proofs.Ytfcpokolbifilaa.IrAll
set_option linter.unusedVariables false
set_option linter.unusedSimpArgs false
theorem opens_3 : OpensL Try.prog 3 layI64 1 (fun _ => True) := OpensL.i64 Try.underlying3 (by kernel_rfl)
theorem opens_32 : OpensL Try.prog 32 layU64 1 (fun _ => True) := OpensL.u64 Try.underlying32 (by kernel_rfl)
theorem opens_4 : OpensL Try.prog 4 layBool 1 (fun _ => True) := OpensL.bool Try.underlying4 (by kernel_rfl)
set_option maxRecDepth 100000 in
theorem opens_34 : OpensL Try.prog 34 (α := JOp) (fun _ y cs => cs = JOp.cells y) 4 (fun _ => True) := by
  refine OpensL.struct (fs := [(3, 0), (3, 1), (32, 2), (4, 3)]) (L := (layP layI64 (layP layI64 (layP layU64 layBool)))) (mk := fun (ak, tl, pl, rd) => ⟨ak, tl, pl, rd⟩) ?_ ?_ (by kernel_rfl) (by kernel_rfl) (OpensLF.cons (by decide) (by decide) opens_3 (OpensLF.cons (by decide) (by decide) opens_3 (OpensLF.cons (by decide) (by decide) opens_32 (OpensLF.one opens_4))))
  · rintro h ⟨ak, tl, pl, rd⟩ cs ⟨_, _, rfl, rfl, ⟨_, _, rfl, rfl, ⟨_, _, rfl, rfl, rfl⟩⟩⟩
    rfl
  · rintro ⟨ak, tl, pl, rd⟩ ⟨k0, k1, k2, k3⟩
    exact trivial
theorem opens_22 : OpensL Try.prog 22 (laySl (fun _ y cs => cs = JOp.cells y) 4) 1 (fun l => l.length < 9223372036854775808 ∧ ∀ x ∈ l, (fun _ => True) x) := OpensL.slice Try.underlying22 (by kernel_rfl) (by decide) opens_34
variable {h base : H} {L : List Seg} {R : List Nat}
theorem awake28_ran (W : Mem h h [] []) : Cll tab0 7 [] h (fun v h2 => v = .bool true ∧ Mem h h2 [] []) := ⟨_, h, awake_run h, rfl, W⟩
end Go.Proofs.Ytfcpokolbifilaa.Wt
namespace Go.Proofs.Ytfcpokolbifilaa.Wt
open Go Go.Proofs.Ytfcpokolbifilaa.Am Go.Proofs.Ytfcpokolbifilaa.IrAll
open Go.Proofs.Ytfcpokolbifilaa.Am.WS renaming op → C
open List renaming length_singleton → D
open Go.Proofs.Ytfcpokolbifilaa.Am.WS renaming nil → F
open List renaming length_append → G
open List renaming length_take → J
open Go.Proofs.Ytfcpokolbifilaa.Am.WC renaming seq → X
open List renaming length_cons → Y
open List renaming length_drop → AQ
open List renaming length_nil → AX
open Go.Proofs.Ytfcpokolbifilaa.Am.WC renaming run → AZ
set_option linter.unusedVariables false
set_option linter.unusedSimpArgs false
variable {h base : H} {L : List Seg} {R : List Nat}
theorem op_iaAf {e : Env} {x y : Operand} {p n es : Nat} {k : IntKind} (j : Nat) (hx : ev e x = some (.pointer (some ⟨p, 0, none⟩))) (hy : ev e y = some (.int k (j : Int))) (hj : j < n) : opE (.iaA n es x y) e h none = some (.pointer (some ⟨p, 0 + j * es, none⟩), h) := by
  simp only [opE, hx, hy]; rw [if_pos (by omega), Int.toNat_natCast]
def SeenI (e : List Nat) (i : Nat) (U : List Bool) : Prop := U.length = 60 ∧ ∀ x, x < 60 → U[x]? = some (decide (x ∈ e.take i))
def PosI (e : List Nat) (i : Nat) (A : List Nat) : Prop := A.length = 60 ∧ ∀ j x, j < i → e[j]? = some x → A[x]? = some j
theorem seen_zero (e : List Nat) : SeenI e 0 (List.replicate 60 false) := ⟨by simp, fun x hx => by rw [List.getElem?_replicate, if_pos hx]; simp⟩
theorem pos_zero (e : List Nat) : PosI e 0 (List.replicate 60 0) := ⟨by simp, fun j x hj => by omega⟩
theorem not_seen {e : List Nat} (hn : e.Nodup) {i y : Nat} (hy : e[i]? = some y) : y ∉ e.take i := by
  intro q
  obtain ⟨j, hj, e1⟩ := List.getElem_of_mem q
  obtain ⟨hi, e2⟩ := List.getElem?_eq_some_iff.1 hy
  have hj2 : j < i := by rw [J] at hj; omega
  rw [List.getElem_take] at e1
  exact absurd ((List.getElem_inj hn).1 (e1.trans e2.symm)) (by omega)
theorem seen_at {e : List Nat} {i y : Nat} {U : List Bool} {b : Bool} (h : SeenI e i U) (hn : e.Nodup) (hy : e[i]? = some y) (hu : U[y]? = some b) : b = false := by
  have hl := (List.getElem?_eq_some_iff.1 hu).1
  rw [h.1] at hl
  rw [h.2 y hl] at hu; cases hu
  exact decide_eq_false (not_seen hn hy)
theorem seen_step {e : List Nat} {i y : Nat} {U : List Bool} (h : SeenI e i U) (hy : e[i]? = some y) (hl : y < 60) : SeenI e (i + 1) (U.set y true) := by
  refine ⟨by rw [List.length_set]; exact h.1, fun x hx => ?_⟩
  rw [List.getElem?_set, List.take_add_one, hy]
  by_cases c : y = x
  · subst c; rw [if_pos rfl, if_pos (by rw [h.1]; exact hl)]; simp
  · rw [if_neg c, h.2 x hx]; congr 1; simp; intro q; exact absurd q.symm c
theorem pos_step {e : List Nat} {i y : Nat} {A : List Nat} (h : PosI e i A) (hn : e.Nodup) (hy : e[i]? = some y) (hl : y < 60) : PosI e (i + 1) (A.set y i) := by
  refine ⟨by rw [List.length_set]; exact h.1, fun j x hj hx => ?_⟩
  rw [List.getElem?_set]
  by_cases c : y = x
  · subst c
    obtain ⟨a1, a2⟩ := List.getElem?_eq_some_iff.1 hy
    obtain ⟨b1, b2⟩ := List.getElem?_eq_some_iff.1 hx
    have := (List.getElem_inj hn).1 (a2.trans b2.symm)
    subst this
    rw [if_pos rfl, if_pos (by rw [h.1]; exact hl)]
  · rw [if_neg c]
    have hne : j ≠ i := fun q => c (by subst q; rw [hy] at hx; cases hx; rfl)
    exact h.2 j x (by omega) hx
theorem perm_nodup {e : List Nat} {n : Nat} (hp : e.Perm (List.range n)) : e.Nodup := hp.nodup_iff.2 List.nodup_range
theorem perm_lt {e : List Nat} {n i y : Nat} (hp : e.Perm (List.range n)) (hy : e[i]? = some y) : y < n := List.mem_range.1 (hp.mem_iff.1 (List.mem_of_getElem? hy))
theorem keeps_at {l : List JOp} {e A : List Nat} {n x z y y2 : Nat} (hp : e.Perm (List.range n)) (hA : PosI e n A) (hs : Srt (cmL l) 0 n e) (hx : x < n) (hz : z < n) (h1 : A[x]? = some y) (h2 : A[z]? = some y2) (hc : cmL l x z) : y < y2 := by
  have hel : e.length = n := by have := hp.length_eq; rw [List.length_range] at this; exact this
  have find : ∀ w, w < n → ∃ j, j < n ∧ e[j]? = some w := fun w hw => by
    obtain ⟨j, hj, q⟩ := List.getElem_of_mem (hp.mem_iff.2 (List.mem_range.2 hw))
    exact ⟨j, by omega, by rw [← q]; exact List.getElem?_eq_getElem hj⟩
  obtain ⟨j1, a1, a2⟩ := find x hx
  obtain ⟨j2, b1, b2⟩ := find z hz
  have q1 := hA.2 j1 x a1 a2
  have q2 := hA.2 j2 z b1 b2
  rw [h1] at q1; cases q1
  rw [h2] at q2; cases q2
  rcases Nat.lt_or_ge y y2 with q | q
  · exact q
  · exfalso
    by_cases c : y = y2
    · subst c; rw [a2] at b2; cases b2; exact (cmL_sw l).irr _ hc
    · exact hs y2 y z x (Nat.zero_le _) (by omega) a1 b2 a2 hc
theorem law_JudgeKeeps (W : Mem h h [] []) {l : List JOp} {u0 : Value} (l0 : laySl (fun _ y cs => cs = JOp.cells y) 4 h l [u0]) (k0 : l.length < 9223372036854775808 ∧ ∀ x ∈ l, True) : Cll tab0 5 [u0] h (fun v _ => v = .bool true) := by
  obtain ⟨V0, hV, S0⟩ := l0
  cases hV
  have A : KJOp.Sl h u0 l := SlL.sl S0
  obtain ⟨P, c, rfl⟩ := A.shape
  refine Cll.code rfl rfl ?_
  refine WC.env [(0, _)] rfl ?_
  refine X (AZ (C rfl rfl (F [(0, _)] rfl ?_)))
  refine X (X (AZ (C rfl rfl (C rfl (op_lenVS A rfl) ?_))))
  refine WS.gtrN (a := (l).length) (b := 60) rfl rfl rfl (fun e13 => ?_) (fun e13 => ?_)
  ·
   refine F [(0, _), (13, _)] rfl ?_
   refine WC.condT rfl (X (AZ (WS.call rfl rfl rfl (awake28_ran W.here ) ?_)))
   rintro _ h1 ⟨rfl, N2⟩
   have M3 := W.trans N2
   refine C rfl rfl (F [(2, _)] rfl ?_)
   refine WC.ret (⟨[_], (res_tmp rfl res_nil), ?_⟩)
   rfl
  ·
   refine F [(0, _), (13, _)] rfl ?_
   refine WC.condF rfl (WC.skip (X (AZ (C rfl rfl ?_))))
   refine WS.call rfl rfl rfl (Order_ran W.here (A.mono W.sub) (by omega)) ?_
   rintro V10 h4 ⟨e_16, S7, O8, hp16, hs16, ha16, N5⟩
   have M6 := W.trans N5
   have hel : e_16.length = l.length := by have := hp16.length_eq; rw [List.length_range] at this; exact this
   have hbf : e_16.Pairwise (Bef l) := srt_bef (by rw [hel]; exact hs16) ha16
   obtain ⟨P9, rfl⟩ := Row.Own.shape O8
   replace M6 : Mem _ _ (S7 :: []) _ := M6
   refine C rfl rfl (F [(0, _), (3, _)] rfl ?_)
   refine X (X (AZ (C rfl rfl (C rfl (op_lenVO O8 rfl) (C rfl rfl (C rfl (op_lenVS A rfl) ?_))))))
   refine WS.neqN (a := (e_16).length) (b := (l).length) rfl rfl rfl (fun e21 => ?_) (fun e21 => ?_)
   ·
    exact absurd hel e21
   ·
    refine F [(0, _), (3, _), (21, _)] rfl ?_
    refine WC.condF rfl (WC.skip (X (AZ (WS.new M6 rfl ?_))))
    intro p11 h12 M13
    refine F [(0, _), (3, _), (4, _)] rfl ?_
    refine X (AZ (WS.new M13 rfl ?_))
    intro p14 h15 M16
    refine F [(0, _), (3, _), (4, _), (5, _)] rfl ?_
    refine X (X (AZ (C rfl rfl (F [(0, _), (3, _), (4, _), (5, _), (6, _)] rfl ?_))))
    refine WC.block ?_
    obtain ⟨L17, eL19, M18⟩ := Mem.name2 ((M16.bare.focus 0 rfl).focus 1 rfl)
    refine WC.loop (σ := Nat × List Nat × List Bool) (fun ((i, A_, U_)) => [(0, (.slice P l.length c)), (3, (.slice P9 (e_16).length (2 * (e_16).length))), (4, (.pointer (some ⟨p11, 0, none⟩))), (5, (.pointer (some ⟨p14, 0, none⟩))), (6, (.int .i64 ((i : Nat) : Int)))]) (fun ((i, A_, U_)) hh => Mem h hh ([(p11, ⟨KNi.flat A_, 0, false⟩)] :: [(p14, ⟨KBool.flat U_, 0, false⟩)] :: L17) [] ∧ i ≤ e_16.length ∧ PosI e_16 i A_ ∧ SeenI e_16 i U_) (fun ((i, A_, U_)) => e_16.length - i) (0, (List.replicate 60 0), (List.replicate 60 false)) rfl ⟨(by exact M18), ?_⟩ ?_
    · exact ⟨by omega, pos_zero _, seen_zero _⟩
    ·rintro ⟨i, A_, U_⟩ h20 ⟨M21, ⟨hi, hA, hU⟩⟩
     replace eL19 := eL19.symm; subst eL19
     refine WC.env [(0, _), (3, _), (4, _), (5, _), (6, _)] rfl ?_
     refine X (X (AZ (C rfl rfl (C rfl rfl (C rfl (op_lenVO O8 rfl) ?_)))))
     refine WS.lssN (a := i) (b := (e_16).length) rfl rfl rfl (fun e25 => ?_) (fun e25 => ?_)
     ·
      refine F [(0, _), (3, _), (4, _), (5, _), (6, _), (25, _)] rfl ?_
      refine WC.condT rfl (WC.skip (X (WC.block (X (X (AZ (C rfl rfl (C rfl rfl ?_))))))))
      obtain ⟨y30, hy30⟩ : ∃ y, (e_16)[i]? = some y := ⟨_, List.getElem?_eq_getElem (show i < (e_16).length by first | omega | (simp only [AQ, J, G, Y, AX, D]; omega) | (simp only [AQ, J, G, Y, AX, D] at *; omega))⟩
      have hb30 := perm_lt hp16 hy30
      refine WS.iaVS (Row.Own.sl O8 (Mem.owni M21 2 rfl)) i hy30 rfl rfl rfl rfl ?_
      intro b30_ o30_ ha30
      refine C rfl (op_ldH rfl (At.ld0 ha30 rfl)) ?_
      refine WS.lssN (a := y30) (b := 0) rfl rfl rfl (fun e32 => ?_) (fun e32 => ?_)
      ·
       exact absurd e32 (by omega)
      ·
       refine C rfl rfl (C rfl rfl (C rfl rfl ?_))
       refine WS.iaVS (Row.Own.sl O8 (Mem.owni M21 2 rfl)) i hy30 rfl rfl rfl rfl ?_
       intro b36_ o36_ ha36
       refine C rfl (op_ldH rfl (At.ld0 ha36 rfl)) (C rfl rfl (C rfl (op_lenVS A rfl) ?_))
       refine WS.geqN (a := y30) (b := (l).length) rfl rfl rfl (fun e40 => ?_) (fun e40 => ?_)
       ·
        exact absurd e40 (by omega)
       ·
        refine C rfl rfl (C rfl rfl (C rfl rfl (C rfl rfl ?_)))
        refine WS.iaVS (Row.Own.sl O8 (Mem.owni M21 2 rfl)) i hy30 rfl rfl rfl rfl ?_
        intro b45_ o45_ ha45
        refine C rfl (op_ldH rfl (At.ld0 ha45 rfl)) ?_
        obtain ⟨y47, hy47⟩ : ∃ y, (U_)[y30]? = some y := ⟨_, List.getElem?_eq_getElem (show y30 < (U_).length by first | omega | (rw [hU.1]; omega))⟩
        have hs47 := seen_at hU (perm_nodup hp16) hy30 hy47
        refine C rfl (op_iaAf y30 rfl rfl (by first | omega | (rw [hU.1]; omega))) (C rfl (op_ldH rfl (Row.ld (K := KBool) (k := 0) (M21.at 1 rfl) hy47 rfl)) (C rfl rfl (F [(0, _), (3, _), (4, _), (5, _), (6, _), (49, _)] rfl ?_)))
        cases hb1 : y47
        ·
         refine WC.condF rfl (WC.skip (X (AZ (C rfl rfl (C rfl rfl ?_)))))
         refine WS.iaVS (Row.Own.sl O8 (Mem.owni M21 2 rfl)) i hy30 rfl rfl rfl rfl ?_
         intro b52_ o52_ ha52
         refine C rfl (op_ldH rfl (At.ld0 ha52 rfl)) ?_
         obtain ⟨y54, hy54⟩ : ∃ y, (U_)[y30]? = some y := ⟨_, List.getElem?_eq_getElem (show y30 < (U_).length by first | omega | (rw [hU.1]; omega))⟩
         refine C rfl (op_iaAf y30 rfl rfl (by first | omega | (rw [hU.1]; omega))) ?_
         refine WS.stN (K := KBool) (y' := (true)) (M21.focus 1 rfl) (List.getElem?_eq_some_iff.1 hy54).1 rfl rfl rfl rfl rfl ?_
         intro h22 M23
         replace M23 : Mem _ _ ([(p14, _)] :: [(p11, _)] :: S7 :: []) _ := M23
         have hye24 : (U_.set y30 (true))[y30]? = some (true) := List.getElem?_set_self (List.getElem?_eq_some_iff.1 hy54).1
         refine F [(0, _), (3, _), (4, _), (5, _), (6, _)] rfl ?_
         refine X (AZ (C rfl rfl (C rfl rfl ?_)))
         refine WS.iaVS (Row.Own.sl O8 (Mem.owni M23 2 rfl)) i hy30 rfl rfl rfl rfl ?_
         intro b57_ o57_ ha57
         refine C rfl (op_ldH rfl (At.ld0 ha57 rfl)) (C rfl rfl ?_)
         obtain ⟨y60, hy60⟩ : ∃ y, (A_)[y30]? = some y := ⟨_, List.getElem?_eq_getElem (show y30 < (A_).length by first | omega | (rw [hA.1]; omega))⟩
         refine C rfl (op_iaAf y30 rfl rfl (by first | omega | (rw [hA.1]; omega))) ?_
         refine WS.stN (K := KNi) (y' := (i)) (M23.focus 1 rfl) (List.getElem?_eq_some_iff.1 hy60).1 rfl rfl rfl rfl rfl ?_
         intro h25 M26
         replace M26 : Mem _ _ ([(p11, _)] :: [(p14, _)] :: S7 :: []) _ := M26
         have hye27 : (A_.set y30 (i))[y30]? = some (i) := List.getElem?_set_self (List.getElem?_eq_some_iff.1 hy60).1
         refine F [(0, _), (3, _), (4, _), (5, _), (6, _)] rfl ?_
         refine X (AZ (C rfl rfl ?_))
         refine WS.gtrN (a := i) (b := 0) rfl rfl rfl (fun e62 => ?_) (fun e62 => ?_)
         ·
          refine F [(0, _), (3, _), (4, _), (5, _), (6, _), (62, _)] rfl ?_
          refine WC.condT rfl (X (AZ (C rfl rfl (C rfl rfl (C rfl rfl (WS.opV (.int .i64 (((i - 1) : Nat) : Int)) rfl rfl (sub_i64 (a := i) (b := 1) (by omega)) ?_))))))
          obtain ⟨y67, hy67⟩ : ∃ y, (e_16)[(i - 1)]? = some y := ⟨_, List.getElem?_eq_getElem (show (i - 1) < (e_16).length by first | omega | (simp only [AQ, J, G, Y, AX, D]; omega) | (simp only [AQ, J, G, Y, AX, D] at *; omega))⟩
          have hb67 := perm_lt hp16 hy67
          refine WS.iaVS (Row.Own.sl O8 (Mem.owni M26 2 rfl)) (i - 1) hy67 rfl rfl rfl rfl ?_
          intro b67_ o67_ ha67
          refine C rfl (op_ldH rfl (At.ld0 ha67 rfl)) ?_
          obtain ⟨y69, hy69⟩ : ∃ y, (l)[y67]? = some y := ⟨_, List.getElem?_eq_getElem (show y67 < (l).length by first | omega | (simp only [AQ, J, G, Y, AX, D]; omega) | (simp only [AQ, J, G, Y, AX, D] at *; omega))⟩
          refine WS.iaVS A y67 hy69 rfl rfl rfl rfl ?_
          intro b69_ o69_ ha69
          refine C rfl (op_ldAt rfl (ha69.mono M26.sub) rfl) ?_
          refine WS.new M26 rfl ?_
          intro p28 h29 M30
          refine WS.st1 (M30.focus 0 rfl) [_, _, _, _] [_, _, _, _] rfl rfl rfl rfl rfl (Nat.le_of_ble_eq_true rfl) (Nat.le_of_ble_eq_true rfl) rfl rfl ?_
          intro h31 M32
          replace M32 : Mem _ _ ([(p28, _)] :: [(p11, _)] :: [(p14, _)] :: S7 :: []) _ := M32
          refine F [(0, _), (3, _), (4, _), (5, _), (6, _), (7, _)] rfl ?_
          refine X (AZ (C rfl rfl (C rfl rfl (C rfl rfl ?_))))
          refine WS.iaVS (Row.Own.sl O8 (Mem.owni M32 3 rfl)) i hy30 rfl rfl rfl rfl ?_
          intro b74_ o74_ ha74
          refine C rfl (op_ldH rfl (At.ld0 ha74 rfl)) ?_
          obtain ⟨y76, hy76⟩ : ∃ y, (l)[y30]? = some y := ⟨_, List.getElem?_eq_getElem (show y30 < (l).length by first | omega | (simp only [AQ, J, G, Y, AX, D]; omega) | (simp only [AQ, J, G, Y, AX, D] at *; omega))⟩
          refine WS.iaVS A y30 hy76 rfl rfl rfl rfl ?_
          intro b76_ o76_ ha76
          refine C rfl (op_ldAt rfl (ha76.mono M32.sub) rfl) ?_
          refine WS.new M32 rfl ?_
          intro p33 h34 M35
          refine WS.st1 (M35.focus 0 rfl) [_, _, _, _] [_, _, _, _] rfl rfl rfl rfl rfl (Nat.le_of_ble_eq_true rfl) (Nat.le_of_ble_eq_true rfl) rfl rfl ?_
          intro h36 M37
          replace M37 : Mem _ _ ([(p33, _)] :: [(p28, _)] :: [(p11, _)] :: [(p14, _)] :: S7 :: []) _ := M37
          refine F [(0, _), (3, _), (4, _), (5, _), (6, _), (7, _), (8, _)] rfl ?_
          refine X (AZ ?_)
          have hns : ¬ kLt y76 y69 := by have q := hs16 (i - 1) i y67 y30 (Nat.zero_le _) (by omega) (by omega) hy67 hy30; unfold cmL at q; rw [getD_of hy76, getD_of hy69] at q; exact q
          refine C rfl rfl (C rfl (op_ld (M37.at 1 rfl) rfl rfl) (C rfl rfl (C rfl (op_ld (M37.at 0 rfl) rfl rfl) ?_)))
          refine WS.gtrN (a := (y69.pl).toNat) (b := (y76.pl).toNat) rfl rfl rfl (fun e82 => ?_) (fun e82 => ?_)
          ·
           exact absurd (Or.inl (by omega)) hns
          ·
           refine C rfl rfl (C rfl rfl (C rfl (op_ld (M37.at 1 rfl) rfl rfl) (C rfl rfl (C rfl (op_ld (M37.at 0 rfl) rfl rfl) ?_))))
           refine WS.eqlN (a := (y69.pl).toNat) (b := (y76.pl).toNat) rfl rfl rfl (fun e88 => ?_) (fun e88 => ?_)
           ·
            refine C rfl rfl (C rfl rfl (C rfl (op_ld (M37.at 1 rfl) rfl rfl) (C rfl rfl (C rfl rfl ?_))))
            cases hb2 : y69.rd
            ·
             refine WS.off rfl (WS.off rfl (WS.off rfl (C rfl rfl (C rfl rfl (F [(0, _), (3, _), (4, _), (5, _), (6, _), (98, _)] rfl ?_)))))
             refine WC.condF rfl (WC.skip (AZ (C rfl rfl (WS.opV (.int .i64 (((i + 1) : Nat) : Int)) rfl rfl (add_i64 (a := i) (b := 1) (by omega)) (C rfl rfl (F [(0, _), (3, _), (4, _), (5, _), (6, _)] rfl ?_))))))
             refine ⟨(i + 1, A_.set y30 i, U_.set y30 true), rfl, ⟨((((M37.bare.focus 4 rfl).focus 4 rfl).focus 4 rfl).take 3), ?_⟩, ?_⟩
             · exact ⟨by omega, pos_step hA (perm_nodup hp16) hy30 (by omega), seen_step hU hy30 (by omega)⟩
             · simp only []; omega
            ·
             refine C rfl rfl (C rfl (op_ld (M37.at 0 rfl) rfl rfl) ?_)
             cases hb3 : y76.rd
             ·
              refine WS.opV (.bool true) rfl rfl rfl (C rfl rfl (C rfl rfl (F [(0, _), (3, _), (4, _), (5, _), (6, _), (98, _)] rfl ?_)))
              refine WC.condT rfl (X (AZ (C rfl rfl (F [(2, _)] rfl ?_))))
              refine WC.ret (⟨[_], (res_tmp rfl res_nil), ?_⟩)
              exfalso
              refine hns (Or.inr ⟨by omega, Or.inl ?_⟩)
              unfold lateZ
              simp_all
             ·
              refine WS.opV (.bool false) rfl rfl rfl (C rfl rfl (C rfl rfl (F [(0, _), (3, _), (4, _), (5, _), (6, _), (98, _)] rfl ?_)))
              refine WC.condF rfl (WC.skip (AZ (C rfl rfl (WS.opV (.int .i64 (((i + 1) : Nat) : Int)) rfl rfl (add_i64 (a := i) (b := 1) (by omega)) (C rfl rfl (F [(0, _), (3, _), (4, _), (5, _), (6, _)] rfl ?_))))))
              refine ⟨(i + 1, A_.set y30 i, U_.set y30 true), rfl, ⟨((((M37.bare.focus 4 rfl).focus 4 rfl).focus 4 rfl).take 3), ?_⟩, ?_⟩
              · exact ⟨by omega, pos_step hA (perm_nodup hp16) hy30 (by omega), seen_step hU hy30 (by omega)⟩
              · simp only []; omega
           ·
            refine C rfl rfl (WS.off rfl (WS.off rfl (C rfl rfl (C rfl rfl (WS.off rfl (WS.off rfl (WS.off rfl (C rfl rfl (C rfl rfl ?_)))))))))
            refine F [(0, _), (3, _), (4, _), (5, _), (6, _), (98, _)] rfl ?_
            refine WC.condF rfl (WC.skip (AZ (C rfl rfl (WS.opV (.int .i64 (((i + 1) : Nat) : Int)) rfl rfl (add_i64 (a := i) (b := 1) (by omega)) (C rfl rfl (F [(0, _), (3, _), (4, _), (5, _), (6, _)] rfl ?_))))))
            refine ⟨(i + 1, A_.set y30 i, U_.set y30 true), rfl, ⟨((((M37.bare.focus 4 rfl).focus 4 rfl).focus 4 rfl).take 3), ?_⟩, ?_⟩
            · exact ⟨by omega, pos_step hA (perm_nodup hp16) hy30 (by omega), seen_step hU hy30 (by omega)⟩
            · simp only []; omega
         ·
          refine F [(0, _), (3, _), (4, _), (5, _), (6, _), (62, _)] rfl ?_
          refine WC.condF rfl (WC.skip (AZ (C rfl rfl (WS.opV (.int .i64 (((i + 1) : Nat) : Int)) rfl rfl (add_i64 (a := i) (b := 1) (by omega)) (C rfl rfl (F [(0, _), (3, _), (4, _), (5, _), (6, _)] rfl ?_))))))
          refine ⟨(i + 1, A_.set y30 i, U_.set y30 true), rfl, ⟨((((M26.bare.focus 2 rfl).focus 2 rfl).focus 2 rfl).take 3), ?_⟩, ?_⟩
          · exact ⟨by omega, pos_step hA (perm_nodup hp16) hy30 (by omega), seen_step hU hy30 (by omega)⟩
          · simp only []; omega
        ·
         first | (cases hs47; done) | (rw [hs47] at hb1; cases hb1)
     ·
      refine F [(0, _), (3, _), (4, _), (5, _), (6, _), (25, _)] rfl ?_
      refine WC.condF rfl (WC.exit ?_)
      refine X (X (AZ (C rfl rfl ?_)))
      refine WS.call rfl rfl rfl (Right_ran M21.here (A.mono M21.sub) (by omega)) ?_
      rintro _ h38 ⟨g_, rfl, hg_, N39⟩
      have M40 := M21.trans N39
      cases hb4 : g_
      ·
       refine WS.opV (.bool true) rfl rfl rfl (F [(0, _), (4, _), (101, _)] rfl ?_)
       refine WC.condT rfl (X (AZ (WS.call rfl rfl rfl (awake28_ran M40.here ) ?_)))
       rintro _ h41 ⟨rfl, N42⟩
       have M43 := M40.trans N42
       refine C rfl rfl (F [(2, _)] rfl ?_)
       refine WC.ret (⟨[_], (res_tmp rfl res_nil), ?_⟩)
       rfl
      ·
       refine WS.opV (.bool false) rfl rfl rfl (F [(0, _), (4, _), (101, _)] rfl ?_)
       refine WC.condF rfl (WC.skip (X (X (AZ (C rfl rfl (F [(0, _), (4, _), (9, _)] rfl ?_))))))
       refine WC.block ?_
       obtain ⟨L44, eL46, M45⟩ := Mem.name M40.bare
       refine WC.loop (σ := Nat) (fun (i1) => [(0, (.slice P l.length c)), (4, (.pointer (some ⟨p11, 0, none⟩))), (9, (.int .i64 ((i1 : Nat) : Int)))]) (fun (i1) hh => Mem h hh (L44) [] ∧ i1 ≤ l.length) (fun (i1) => l.length - i1) (0) rfl ⟨M45, ?_⟩ ?_
       · omega
       ·rintro i1 h47 ⟨M48, hi1⟩
        replace eL46 := eL46.symm; subst eL46
        refine WC.env [(0, _), (4, _), (9, _)] rfl ?_
        refine X (X (AZ (C rfl rfl (C rfl rfl (C rfl (op_lenVS A rfl) ?_)))))
        refine WS.lssN (a := i1) (b := (l).length) rfl rfl rfl (fun e106 => ?_) (fun e106 => ?_)
        ·
         refine F [(0, _), (4, _), (9, _), (106, _)] rfl ?_
         refine WC.condT rfl (WC.skip (X (WC.block (X (AZ (C rfl rfl (F [(0, _), (4, _), (9, _), (10, _)] rfl ?_)))))))
         refine WC.block ?_
         obtain ⟨L49, eL51, M50⟩ := Mem.name M48.bare
         refine WC.loop (σ := Nat) (fun (k1) => [(0, (.slice P l.length c)), (4, (.pointer (some ⟨p11, 0, none⟩))), (9, (.int .i64 ((i1 : Nat) : Int))), (10, (.int .i64 ((k1 : Nat) : Int)))]) (fun (k1) hh => Mem h hh (L49) [] ∧ k1 ≤ l.length) (fun (k1) => l.length - k1) (0) rfl ⟨M50, ?_⟩ ?_
         · omega
         ·rintro k1 h52 ⟨M53, hk1⟩
          replace eL51 := eL51.symm; subst eL51
          refine WC.env [(0, _), (4, _), (9, _), (10, _)] rfl ?_
          refine X (X (AZ (C rfl rfl (C rfl rfl (C rfl (op_lenVS A rfl) ?_)))))
          refine WS.lssN (a := k1) (b := (l).length) rfl rfl rfl (fun e112 => ?_) (fun e112 => ?_)
          ·
           refine F [(0, _), (4, _), (9, _), (10, _), (112, _)] rfl ?_
           refine WC.condT rfl (WC.skip (X (WC.block (X (WC.draw M53 [] rfl ?_)))))
           intro rb54 h55 M56
           refine C rfl rfl (C rfl rfl ?_)
           obtain ⟨y117, hy117⟩ : ∃ y, (l)[i1]? = some y := ⟨_, List.getElem?_eq_getElem (show i1 < (l).length by first | omega | (simp only [AQ, J, G, Y, AX, D]; omega) | (simp only [AQ, J, G, Y, AX, D] at *; omega))⟩
           refine WS.iaVS A i1 hy117 rfl rfl rfl rfl ?_
           intro b117_ o117_ ha117
           refine C rfl rfl (C rfl (op_ldH rfl (At.ld (ha117.mono M56.sub) rfl)) (C rfl rfl (C rfl rfl ?_)))
           obtain ⟨y122, hy122⟩ : ∃ y, (l)[k1]? = some y := ⟨_, List.getElem?_eq_getElem (show k1 < (l).length by first | omega | (simp only [AQ, J, G, Y, AX, D]; omega) | (simp only [AQ, J, G, Y, AX, D] at *; omega))⟩
           refine WS.iaVS A k1 hy122 rfl rfl rfl rfl ?_
           intro b122_ o122_ ha122
           refine C rfl rfl (C rfl (op_ldH rfl (At.ld0 (ha122.mono M56.sub) rfl)) ?_)
           refine WS.lss (a := (y117.tl).toInt) (b := (y122.ak).toInt) rfl rfl rfl (fun e125 => ?_) (fun e125 => ?_)
           ·
            refine C rfl rfl (C rfl rfl ?_)
            obtain ⟨y128, hy128⟩ : ∃ y, (A_)[i1]? = some y := ⟨_, List.getElem?_eq_getElem (show i1 < (A_).length by first | omega | (rw [hA.1]; omega))⟩
            refine C rfl (op_iaAf i1 rfl rfl (by first | omega | (rw [hA.1]; omega))) (C rfl (op_ldH rfl (Row.ld (K := KNi) (k := 0) (M56.at 0 rfl) hy128 rfl)) (C rfl rfl ?_))
            obtain ⟨y131, hy131⟩ : ∃ y, (A_)[k1]? = some y := ⟨_, List.getElem?_eq_getElem (show k1 < (A_).length by first | omega | (rw [hA.1]; omega))⟩
            refine C rfl (op_iaAf k1 rfl rfl (by first | omega | (rw [hA.1]; omega))) (C rfl (op_ldH rfl (Row.ld (K := KNi) (k := 0) (M56.at 0 rfl) hy131 rfl)) ?_)
            refine WS.geqN (a := y128) (b := y131) rfl rfl rfl (fun e133 => ?_) (fun e133 => ?_)
            ·
             exact absurd (keeps_at hp16 (by rw [show l.length = i by omega]; exact hA) hs16 (by omega) (by omega) hy128 hy131 (by unfold cmL; rw [getD_of hy117, getD_of hy122]; exact Classical.byContradiction fun q => (((hg_.1 (by assumption)) _ _ hy117).2 _ _ hy122).2 ⟨e125, q⟩)) (by omega)
            ·
             refine C rfl rfl (F [(0, _), (4, _), (9, _), (10, _), (134, _)] rfl ?_)
             refine WC.condF rfl (WC.skip (AZ (C rfl rfl (WS.opV (.int .i64 (((k1 + 1) : Nat) : Int)) rfl rfl (add_i64 (a := k1) (b := 1) (by omega)) (C rfl rfl (F [(0, _), (4, _), (9, _), (10, _)] rfl ?_))))))
             refine ⟨k1 + 1, rfl, ⟨((((M56.bare.bare.focus 2 rfl).focus 2 rfl).focus 2 rfl).take 3), ?_⟩, ?_⟩
             · omega
             · simp only []; omega
           ·
            refine C rfl rfl (WS.off rfl (WS.off rfl (WS.off rfl (WS.off rfl (WS.off rfl (WS.off rfl (WS.off rfl (C rfl rfl (F [(0, _), (4, _), (9, _), (10, _), (134, _)] rfl ?_)))))))))
            refine WC.condF rfl (WC.skip (AZ (C rfl rfl (WS.opV (.int .i64 (((k1 + 1) : Nat) : Int)) rfl rfl (add_i64 (a := k1) (b := 1) (by omega)) (C rfl rfl (F [(0, _), (4, _), (9, _), (10, _)] rfl ?_))))))
            refine ⟨k1 + 1, rfl, ⟨((((M56.bare.bare.focus 2 rfl).focus 2 rfl).focus 2 rfl).take 3), ?_⟩, ?_⟩
            · omega
            · simp only []; omega
          ·
           refine F [(0, _), (4, _), (9, _), (10, _), (112, _)] rfl ?_
           refine WC.condF rfl (WC.exit ?_)
           refine AZ (C rfl rfl (WS.opV (.int .i64 (((i1 + 1) : Nat) : Int)) rfl rfl (add_i64 (a := i1) (b := 1) (by omega)) (C rfl rfl (F [(0, _), (4, _), (9, _)] rfl ?_))))
           refine ⟨i1 + 1, rfl, ⟨((((M53.bare.focus 2 rfl).focus 2 rfl).focus 2 rfl).take 3), ?_⟩, ?_⟩
           · omega
           · simp only []; omega
        ·
         refine F [(0, _), (4, _), (9, _), (106, _)] rfl ?_
         refine WC.condF rfl (WC.exit ?_)
         refine X (AZ (WS.call rfl rfl rfl (awake28_ran M48.here ) ?_))
         rintro _ h57 ⟨rfl, N58⟩
         have M59 := M48.trans N58
         refine C rfl rfl (F [(2, _)] rfl ?_)
         refine WC.ret (⟨[_], (res_tmp rfl res_nil), ?_⟩)
         rfl
end Go.Proofs.Ytfcpokolbifilaa.Wt
