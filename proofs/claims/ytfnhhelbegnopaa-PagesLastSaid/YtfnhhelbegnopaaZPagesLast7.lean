/- The law 'PagesLast' returns true for all arguments: what its proof stands on, part 7. -/
import Derived.Test.YtfnhhelbegnopaaZPagesLast6
import Derived.OpenShut
namespace Go.Proofs.Ytfnhhelbegnopaa.Am
open Go
set_option linter.unusedVariables false
set_option linter.unusedSimpArgs false
abbrev BL := List (Option Blk × Option Am.Loc)
def CompR (r : Rho) (k : Nat) (bl : BL) : Prop := ∀ i p, bl[i]? = some p → r (k + i) = p.2
def CompH (h : H) (k : Nat) (bl : BL) : Prop := ∀ i p, bl[i]? = some p → ∀ B, p.1 = some B → h.get (k + i) = some B
def BlkOK (W : World) (r : Rho) (p : Option Blk × Option Am.Loc) : Prop := ∀ B, p.1 = some B → ∃ L c e fz, p.2 = some L ∧ W.heap[L.b]? = some (.cells c e fz) ∧ L.es = B.es ∧ B.cells.length ≤ L.lim ∧ L.o + L.lim ≤ c.size ∧ B.ro = true ∧
  ∀ (i : Nat) (v : Value), B.cells[i]? = some v → v.oneCell' = true ∧ ∃ v', c[L.o + i]? = some v' ∧ VR r v v'
theorem CompR.left {r : Rho} {k : Nat} {a b : BL} (h : CompR r k (a ++ b)) : CompR r k a := fun i p hp => h i p (by rw [List.getElem?_append_left (List.getElem?_eq_some_iff.1 hp).1]; exact hp)
theorem CompR.right {r : Rho} {k : Nat} {a b : BL} (h : CompR r k (a ++ b)) : CompR r (k + a.length) b := fun i p hp => by
  have := h (a.length + i) p (by rw [List.getElem?_append_right (by omega), Nat.add_sub_cancel_left]; exact hp)
  rw [← this]; congr 1; omega
theorem CompH.left {r : H} {k : Nat} {a b : BL} (h : CompH r k (a ++ b)) : CompH r k a := fun i p hp => h i p (by rw [List.getElem?_append_left (List.getElem?_eq_some_iff.1 hp).1]; exact hp)
theorem CompH.right {r : H} {k : Nat} {a b : BL} (h : CompH r k (a ++ b)) : CompH r (k + a.length) b := fun i p hp B hB => by
  have := h (a.length + i) p (by rw [List.getElem?_append_right (by omega), Nat.add_sub_cancel_left]; exact hp) B hB
  rw [← this]; congr 1; omega
abbrev Lay (α : Type) := H → α → List Value → Prop
def Given (W : World) (k n : Nat) {α : Type} (L : Lay α) (ok : α → Prop) (cs : List Value) : Prop :=
  ∃ (a : α) (bl : BL) (acs : List Value), acs.length = n ∧ acs.all (·.oneCell') = true ∧ (∀ r, CompR r k bl → (∀ p ∈ bl, BlkOK W r p) ∧ VL r acs cs) ∧ (∀ h, CompH h k bl → L h a acs) ∧ ok a
def OpensL (P : Program) (t : TypeId) {α : Type} (L : Lay α) (n : Nat) (ok : α → Prop) : Prop :=
  P.cellsOf t = n ∧ ∀ {Hh : Type} (enc : TypeId × Value → Hh) (W : World) (held : Bool) (fuel : Nat) (cs : List Value) (x : DataW Hh × List MemPlace), DataW.trod enc P W 0 (fun _ => true) held fuel t cs = some x → ∀ k, Given W k n L ok cs
section
variable {P : Program} {t e : TypeId}
theorem given_plain {W : World} {k : Nat} {α : Type} {L : Lay α} {ok : α → Prop} {v : Value} (a : α) (hp : plain1 v = true) (hL : ∀ h, L h a [v]) (ho : ok a) : Given W k 1 L ok [v] :=
  ⟨a, [], [v], rfl, by simp [oneCell_of_plain1 hp], fun r _ => ⟨fun p hp => by simp at hp, VL.cons (VR.of_plain1 hp) (VL.nil r)⟩, fun h _ => hL h, ho⟩
def layU8 : Lay UInt8 := fun _ a cs => cs = [.int .u8 ((a.toNat : Nat) : Int)]
def layU64 : Lay UInt64 := fun _ a cs => cs = [.int .u64 ((a.toNat : Nat) : Int)]
def layI64 : Lay Int64 := fun _ a cs => cs = [.int .i64 a.toInt]
def layStr : Lay (List UInt8) := fun _ a cs => cs = [.string (bs a)]
theorem OpensL.u8 (ht : P.underlying t = some (.int .u8)) (hc : P.cellsOf t = 1) : OpensL P t layU8 1 (fun _ => True) := by
  refine ⟨hc, fun enc W held fuel cs x h k => ?_⟩
  obtain ⟨n, rfl, _, hw⟩ := DataW.trod_int ht h
  have hw : 0 ≤ n ∧ n ≤ 255 := by simpa [Lit.wf, IntKind.min, IntKind.max, IntKind.signed, IntKind.bits] using hw
  have e : n = (((UInt8.ofNat n.toNat).toNat : Nat) : Int) := by rw [UInt8.toNat_ofNat']; omega
  exact given_plain (UInt8.ofNat n.toNat) rfl (fun _ => by show _ = _; rw [← e]) trivial
theorem OpensL.u64 (ht : P.underlying t = some (.int .u64)) (hc : P.cellsOf t = 1) : OpensL P t layU64 1 (fun _ => True) := by
  refine ⟨hc, fun enc W held fuel cs x h k => ?_⟩
  obtain ⟨n, rfl, _, hw⟩ := DataW.trod_int ht h
  have hw : 0 ≤ n ∧ n ≤ 18446744073709551615 := by simpa [Lit.wf, IntKind.min, IntKind.max, IntKind.signed, IntKind.bits] using hw
  have e : n = (((UInt64.ofNat n.toNat).toNat : Nat) : Int) := by rw [UInt64.toNat_ofNat']; omega
  exact given_plain (UInt64.ofNat n.toNat) rfl (fun _ => by show _ = _; rw [← e]) trivial
theorem OpensL.i64 (ht : P.underlying t = some (.int .i64)) (hc : P.cellsOf t = 1) : OpensL P t layI64 1 (fun _ => True) := by
  refine ⟨hc, fun enc W held fuel cs x h k => ?_⟩
  obtain ⟨n, rfl, _, hw⟩ := DataW.trod_int ht h
  have hw : -9223372036854775808 ≤ n ∧ n ≤ 9223372036854775807 := by simpa [Lit.wf, IntKind.min, IntKind.max, IntKind.signed, IntKind.bits] using hw
  have e : (Int64.ofInt n).toInt = n := Int64.toInt_ofInt_of_le (by omega) (by omega)
  exact given_plain (Int64.ofInt n) rfl (fun _ => by show _ = _; rw [e]) trivial
theorem OpensL.string (ht : P.underlying t = some .string) (hc : P.cellsOf t = 1) : OpensL P t layStr 1 (fun a => a.length < 9223372036854775808) := by
  refine ⟨hc, fun enc W held fuel cs x h k => ?_⟩
  obtain ⟨s, rfl, _, hs⟩ := DataW.trod_string ht h
  obtain ⟨l, rfl⟩ := bs_of s
  rw [bs_size] at hs
  exact given_plain l rfl (fun _ => rfl) (Nat.lt_succ_of_le hs)
inductive SlL {α : Type} (L : Lay α) (n : Nat) (h : H) : Value → List α → Prop
  | nil : SlL L n h (.slice none 0 0) []
  | emp (a : Addr) (c : Nat) : SlL L n h (.slice (some a) 0 c) []
  | row (b c : Nat) (l : List α) (cells : List Value) (hg : h.get b = some ⟨cells, n, true⟩) (hl : cells.length = l.length * n) (he : ∀ (j : Nat) (y : α), l[j]? = some y → L h y ((cells.drop (j * n)).take n)) : SlL L n h (.slice (some ⟨b, 0, none⟩) l.length c) l
def laySl {α : Type} (L : Lay α) (n : Nat) : Lay (List α) := fun h l cs => ∃ V, cs = [V] ∧ SlL L n h V l
theorem chunk_append {α : Type} {a b : List α} {n q j : Nat} (ha : a.length = q * n) (hj : j < q) : ((a ++ b).drop (j * n)).take n = (a.drop (j * n)).take n := by
  have : (j + 1) * n ≤ q * n := Nat.mul_le_mul_right n (by omega)
  rw [Nat.add_mul, Nat.one_mul] at this
  rw [List.drop_append_of_le_length (by omega), List.take_append_of_le_length (by rw [List.length_drop]; omega)]
theorem chunk_last {α : Type} {a b : List α} {n q : Nat} (ha : a.length = q * n) (hb : b.length = n) : ((a ++ b).drop (q * n)).take n = b := by
  rw [← ha, List.drop_left, List.take_of_length_le (by omega)]
theorem OpensL.slice {α : Type} {L : Lay α} {n : Nat} {ok : α → Prop} (ht : P.underlying t = some (.slice e)) (hct : P.cellsOf t = 1) (hn : 0 < n) (h : OpensL P e L n ok) : OpensL P t (laySl L n) 1 (fun l => l.length < 9223372036854775808 ∧ ∀ x ∈ l, ok x) := by
  obtain ⟨hc, h⟩ := h
  refine ⟨hct, fun {Hh} enc W held fuel cs x hx k => ?_⟩
  rcases Go.Deep.open_slice ht hx with ⟨rfl, _⟩ | ⟨a, len, cap, m, fu, D, Pl, rfl, hb, hl, hm, hmm, _, hel⟩
  · exact ⟨[], [], [.slice none 0 0], rfl, rfl, fun r _ => ⟨fun p hp => by simp at hp, VL.cons .sl0 (VL.nil r)⟩, fun h _ => ⟨_, rfl, .nil⟩, by simp, by simp⟩
  have hmc : m = cap := by simpa using hmm
  subst hmc
  have hmx : m ≤ 9223372036854775807 := hm
  by_cases hlen : len = 0
  · subst hlen
    by_cases hcap : m = 0
    · subst hcap
      exact ⟨[], [], [.slice (some ⟨0, 0, none⟩) 0 1], rfl, rfl, fun r _ => ⟨fun p hp => by simp at hp, VL.cons (.sl (.inr rfl) (Nat.le_refl _) (by omega) (fun _ => rfl) (fun q => by omega)) (VL.nil r)⟩, fun h _ => ⟨_, rfl, .emp _ _⟩, by simp, by simp⟩
    ·
      obtain ⟨cs0, g0, _⟩ := hel 0 (by omega)
      have g4 := (World.cells?_some g0).2.2 0 (by rw [hc]; exact hn)
      have hl0 := (World.cells?_some g0).2.1
      obtain ⟨v0, hv0⟩ : ∃ v, cs0[0]? = some v := ⟨_, List.getElem?_eq_getElem (by rw [hl0, hc]; exact hn)⟩
      rw [hv0] at g4
      obtain ⟨hs, _⟩ := cell_heap g4
      have hspot : a.spot = none := by
        have : (a.add (0 * P.cellsOf e)).add 0 = a := by rw [Nat.zero_mul]; rfl
        rw [this] at hs; exact hs
      refine ⟨[], [(none, some ⟨a.block, a.off, 0, n⟩)], [.slice (some ⟨k, 0, none⟩) 0 (2 * m + 1)], rfl, rfl, fun r hr => ⟨fun p hp B hB => (by simp at hp; subst hp; cases hB), VL.cons (.sl (.inl ⟨rfl, _, hr 0 _ rfl, ?_⟩) (by omega) (by omega) (fun _ => by omega) (fun q => by omega)) (VL.nil r)⟩, fun h _ => ⟨_, rfl, .emp _ _⟩, by simp, by simp⟩
      obtain ⟨ab, ao, asp⟩ := a
      simp only at hspot; subst hspot; rfl
  have hq : ∀ q, q ≤ len → ∃ (l : List α) (bl : BL) (acs : List Value), l.length = q ∧ acs.length = q * n ∧ acs.all (·.oneCell') = true ∧ (∀ r, CompR r (k + 1) bl → (∀ p ∈ bl, BlkOK W r p) ∧ ∀ j, j < q → ∃ cs', W.cells? 0 (a.add (j * n)) n = some cs' ∧ VL r ((acs.drop (j * n)).take n) cs') ∧
      (∀ h, CompH h (k + 1) bl → ∀ (j : Nat) (y : α), l[j]? = some y → L h y ((acs.drop (j * n)).take n)) ∧ ∀ x ∈ l, ok x := by
    intro q
    induction q with
    | zero => intro _; exact ⟨[], [], [], rfl, by simp, rfl, fun r _ => ⟨fun p hp => by simp at hp, fun j hj => by omega⟩, fun h _ j y hj => by simp at hj, by simp⟩
    | succ q ih =>
      intro hq2
      obtain ⟨l, bl, acs, l1, l2, l3, l4, l5, l6⟩ := ih (by omega)
      obtain ⟨cs', g1, g2⟩ := hel q (by omega)
      rw [hc] at g1
      obtain ⟨y, bl2, acs2, m1, m2, m3, m4, m5⟩ := h enc W held fu cs' _ g2 (k + 1 + bl.length)
      refine ⟨l ++ [y], bl ++ bl2, acs ++ acs2, by simp [l1], by rw [List.length_append, l2, m1, Nat.add_mul, Nat.one_mul], by rw [List.all_append, l3, m2]; rfl, fun r hr => ⟨fun p hp => ?_, fun j hj => ?_⟩, fun h hh j z hj => ?_, fun z hz => ?_⟩
      · rcases List.mem_append.1 hp with hp | hp
        · exact (l4 r hr.left).1 p hp
        · exact (m3 r hr.right).1 p hp
      · by_cases hjq : j < q
        · rw [chunk_append l2 hjq]; exact (l4 r hr.left).2 j hjq
        · have : j = q := by omega
          subst this
          rw [chunk_last l2 m1]; exact ⟨cs', g1, (m3 r hr.right).2⟩
      · have hj2 := (List.getElem?_eq_some_iff.1 hj).1
        rw [List.length_append, l1] at hj2; simp at hj2
        by_cases hjq : j < q
        · rw [List.getElem?_append_left (by omega)] at hj
          rw [chunk_append l2 hjq]; exact l5 h hh.left j z hj
        · have : j = q := by omega
          subst this
          rw [List.getElem?_append_right (by omega), l1, Nat.sub_self] at hj
          simp at hj; subst hj
          rw [chunk_last l2 m1]; exact m4 h hh.right
      · rcases List.mem_append.1 hz with hz | hz
        · exact l6 z hz
        · rw [List.mem_singleton.1 hz]; exact m5
  obtain ⟨l, bl, acs, l1, l2, l3, l4, l5, l6⟩ := hq len (Nat.le_refl _)
  obtain ⟨cs0, g0, _⟩ := hel 0 (by omega)
  have g4 := (World.cells?_some g0).2.2 0 (by rw [hc]; exact hn)
  have hl0 := (World.cells?_some g0).2.1
  obtain ⟨v0, hv0⟩ : ∃ v, cs0[0]? = some v := ⟨_, List.getElem?_eq_getElem (by rw [hl0, hc]; exact hn)⟩
  rw [hv0] at g4
  obtain ⟨hs, c, el, fz, hh, hcell⟩ := cell_heap g4
  rw [(add_block _ _).1, (add_block _ _).1] at hh
  have hspot : a.spot = none := by
    have : (a.add (0 * P.cellsOf e)).add 0 = a := by rw [Nat.zero_mul]; rfl
    rw [this] at hs; exact hs
  have all : ∀ (j : Nat) (cs' : List Value), W.cells? 0 (a.add (j * n)) n = some cs' → ∀ (i : Nat) (v : Value), cs'[i]? = some v → c[a.off + (j * n + i)]? = some v := fun j cs' hy i v hv => by
    obtain ⟨_, q2, q3⟩ := World.cells?_some hy
    have hi : i < n := by have := (List.getElem?_eq_some_iff.1 hv).1; omega
    have q4 := q3 i hi
    rw [hv] at q4
    obtain ⟨_, c2, el2, fz2, hh2, hcell2⟩ := cell_heap q4
    rw [(add_block _ _).1, (add_block _ _).1, hh] at hh2
    cases hh2
    rw [(add_block _ _).2, (add_block _ _).2] at hcell2
    rw [← hcell2]; congr 1; omega
  have hsz : a.off + len * n ≤ c.size := by
    obtain ⟨csl, e1, _⟩ := hel (len - 1) (by omega)
    rw [hc] at e1
    have q2 := (World.cells?_some e1).2.1
    have hv := all (len - 1) csl e1 (n - 1) _ (List.getElem?_eq_getElem (by omega))
    have := (Array.getElem?_eq_some_iff.1 hv).1
    have e2 : (len - 1) * n + n = len * n := by
      obtain ⟨q, rfl⟩ : ∃ q, len = q + 1 := ⟨len - 1, by omega⟩
      simp only [Nat.add_sub_cancel, Nat.add_mul, Nat.one_mul]
    omega
  refine ⟨l, (some ⟨acs, n, true⟩, some ⟨a.block, a.off, len * n, n⟩) :: bl, [.slice (some ⟨k, 0, none⟩) len (2 * m + 1)], rfl, rfl, fun r hr => ?_, fun h hH => ?_, by omega, l6⟩
  · have hr0 : r k = some ⟨a.block, a.off, len * n, n⟩ := hr 0 _ rfl
    have hr1 : CompR r (k + 1) bl := fun i p hp => by rw [Nat.add_assoc, Nat.add_comm 1 i]; exact hr (i + 1) p hp
    obtain ⟨r1, r2⟩ := l4 r hr1
    refine ⟨fun p hp => ?_, VL.cons (.sl (.inl ⟨rfl, _, hr0, ?_⟩) hl (by omega) (fun _ => by omega) (fun q => by omega)) (VL.nil r)⟩
    · rcases List.mem_cons.1 hp with rfl | hp
      · intro B hB
        cases hB
        refine ⟨_, c, el, fz, rfl, hh, rfl, by show acs.length ≤ len * n; omega, hsz, rfl, fun i v hv => ⟨List.all_eq_true.1 l3 v (List.mem_of_getElem? hv), ?_⟩⟩
        have hi := (List.getElem?_eq_some_iff.1 hv).1
        have hv : acs[i]? = some v := hv
        have hi : i < acs.length := hi
        have hj : i / n < len := Nat.div_lt_of_lt_mul (by rw [Nat.mul_comm]; omega)
        have he : i = i / n * n + i % n := by rw [Nat.mul_comm]; exact (Nat.div_add_mod i n).symm
        obtain ⟨cs', s1, s2⟩ := r2 (i / n) hj
        have hk : ((acs.drop (i / n * n)).take n)[i % n]? = some v := by
          rw [List.getElem?_take, if_pos (Nat.mod_lt _ hn), List.getElem?_drop, ← he]; exact hv
        obtain ⟨v', t1, t2⟩ := s2.get hk
        refine ⟨v', ?_, t2⟩
        have := all (i / n) cs' s1 (i % n) v' t1
        rw [← he] at this; exact this
      · exact r1 p hp
    · obtain ⟨ab, ao, asp⟩ := a
      simp only at hspot; subst hspot; rfl
  · have h0 : h.get k = some ⟨acs, n, true⟩ := hH 0 _ rfl _ rfl
    have h1 : CompH h (k + 1) bl := fun i p hp B hB => by rw [Nat.add_assoc, Nat.add_comm 1 i]; exact hH (i + 1) p hp B hB
    refine ⟨_, rfl, ?_⟩
    have := SlL.row (L := L) (n := n) (h := h) k (2 * m + 1) l acs h0 (by rw [l2, l1]) (l5 h h1)
    rw [l1] at this; exact this
def OpensLF (P : Program) (fs : List (TypeId × Nat)) (o : Nat) {α : Type} (L : Lay α) (n : Nat) (ok : α → Prop) : Prop :=
  ∀ {Hh : Type} (enc : TypeId × Value → Hh) (W : World) (held : Bool) (fuel : Nat) (cs : List Value), cs.length = n →
    (∀ f ∈ fs, ∃ x, DataW.trod enc P W 0 (fun _ => true) held fuel f.1 ((cs.drop (f.2 - o)).take (P.cellsOf f.1)) = some x) → ∀ k, Given W k n L ok cs
theorem OpensLF.one {α : Type} {L : Lay α} {n : Nat} {ok : α → Prop} {o : Nat} (h : OpensL P t L n ok) : OpensLF P [(t, o)] o L n ok := by
  intro Hh enc W held fuel cs hl hf
  obtain ⟨x, hx⟩ := hf (t, o) (by simp)
  simp only [Nat.sub_self, List.drop_zero] at hx
  rw [List.take_of_length_le (by rw [h.1]; omega)] at hx
  exact h.2 enc W held fuel cs x hx
def layP {α β : Type} (L : Lay α) (M : Lay β) : Lay (α × β) := fun h x cs => ∃ c1 c2, cs = c1 ++ c2 ∧ L h x.1 c1 ∧ M h x.2 c2
theorem OpensLF.cons {α β : Type} {L : Lay α} {M : Lay β} {n m : Nat} {ok : α → Prop} {ok' : β → Prop} {o o' : Nat} {fs : List (TypeId × Nat)} (ho : o' = o + n) (hfs : ∀ f ∈ fs, o' ≤ f.2) (h : OpensL P t L n ok) (hr : OpensLF P fs o' M m ok') :
    OpensLF P ((t, o) :: fs) o (layP L M) (n + m) (fun x => ok x.1 ∧ ok' x.2) := by
  intro Hh enc W held fuel cs hl hf k
  obtain ⟨x, hx⟩ := hf (t, o) (by simp)
  simp only [Nat.sub_self, List.drop_zero] at hx
  rw [h.1] at hx
  obtain ⟨a, bl, acs, a1, a2, a3, a4, a5⟩ := h.2 enc W held fuel _ x hx k
  obtain ⟨b, bl2, acs2, b1, b2, b3, b4, b5⟩ := hr enc W held fuel (cs.drop n) (by rw [List.length_drop]; omega) (fun f hm => by
    obtain ⟨y, hy⟩ := hf f (by simp [hm])
    have := hfs f hm
    refine ⟨y, ?_⟩
    rw [List.drop_drop, show n + (f.2 - o') = f.2 - o from by omega]
    exact hy) (k + bl.length)
  refine ⟨(a, b), bl ++ bl2, acs ++ acs2, by rw [List.length_append, a1, b1], by rw [List.all_append, a2, b2]; rfl, fun r hr2 => ⟨fun p hp => ?_, ?_⟩, fun h hh => ⟨acs, acs2, rfl, a4 h hh.left, b4 h hh.right⟩, a5, b5⟩
  · rcases List.mem_append.1 hp with hp | hp
    · exact (a3 r hr2.left).1 p hp
    · exact (b3 r hr2.right).1 p hp
  · have := (a3 r hr2.left).2.append (b3 r hr2.right).2
    rwa [List.take_append_drop] at this
def fieldsOf (P : Program) (t : TypeId) : Option (List (TypeId × Nat)) :=
  match P.underlying t with
  | some (.struct fs) => some (fs.toList.map fun f => (f.type, f.offset))
  | _ => none
theorem OpensL.struct {α β : Type} {L : Lay β} {M : Lay α} {n : Nat} {ok : β → Prop} {ok' : α → Prop} {fs : List (TypeId × Nat)} (mk : β → α) (hM : ∀ h b cs, L h b cs → M h (mk b) cs) (hok : ∀ b, ok b → ok' (mk b)) (hfs : fieldsOf P t = some fs) (hc : P.cellsOf t = n) (h : OpensLF P fs 0 L n ok) : OpensL P t M n ok' := by
  refine ⟨hc, fun {Hh} enc W held fuel cs x hx k => ?_⟩
  unfold fieldsOf at hfs
  cases hu : P.underlying t with
  | none => rw [hu] at hfs; cases hfs
  | some u =>
    rw [hu] at hfs
    cases u with
    | struct fa =>
      simp only [Option.some.injEq] at hfs
      obtain ⟨xs, m, _, _, hl, hlen, hget⟩ := DataW.trod_struct hu hx
      obtain ⟨a, bl, acs, a1, a2, a3, a4, a5⟩ := h enc W held m cs (by rw [hl, hc]) (fun g hg => by
        rw [← hfs] at hg
        obtain ⟨fl, hfl, rfl⟩ := List.mem_map.1 hg
        obtain ⟨i, hi, hgi⟩ := List.mem_iff_getElem.1 hfl
        have hia : i < fa.size := by simpa using hi
        have h1 : fa[i]? = some fl := by
          rw [Array.getElem?_eq_getElem hia]
          simpa using hgi
        have h2 := hget i fl h1
        have hix : i < xs.length := by omega
        rw [List.getElem?_eq_getElem hix] at h2
        exact ⟨xs[i], by simpa using h2⟩) k
      exact ⟨mk a, bl, acs, a1, a2, a3, fun h hh => hM h a acs (a4 h hh), hok a a5⟩
    | _ => cases hfs
end
theorem SlL.sl {α : Type} {K : Row α} {h : H} {V : Value} {l : List α} (A : SlL (fun _ y cs => cs = K.cells y) K.n h V l) : K.Sl h V l := by
  cases A with
  | nil => exact .nil
  | emp a c => exact .emp a c
  | row b c l cells hg hl he =>
    have e : cells = K.flat l := by
      apply List.ext_getElem?
      intro i
      by_cases hi : i < cells.length
      · have hj : i / K.n < l.length := Nat.div_lt_of_lt_mul (by rw [Nat.mul_comm]; omega)
        have hi2 : i = i / K.n * K.n + i % K.n := by rw [Nat.mul_comm]; exact (Nat.div_add_mod i K.n).symm
        have h1 := he (i / K.n) _ (List.getElem?_eq_getElem hj)
        have h2 := K.flat_get l (i / K.n) _ (List.getElem?_eq_getElem hj)
        have h3 := congrArg (fun z : List Value => z[i % K.n]?) (h1.trans h2.symm)
        simp only [List.getElem?_take, if_pos (Nat.mod_lt i K.pos), List.getElem?_drop] at h3
        rw [← hi2] at h3; exact h3
      · rw [List.getElem?_eq_none (by omega), List.getElem?_eq_none (by rw [K.flat_length]; omega)]
    subst e
    exact .own hg
theorem rel_bl {W : World} {bl : BL} (hb : ∀ p ∈ bl, BlkOK W (rhoL (bl.map Prod.snd)) p) : Rel W.heap.size (rhoL (bl.map Prod.snd)) (args (bl.map Prod.fst)) W := by
  have pick : ∀ k B, (args (bl.map Prod.fst)).get k = some B → ∃ p, bl[k]? = some p ∧ p.1 = some B := fun k B e => by
    rw [args_get, List.getElem?_map] at e
    cases ho : bl[k]? with
    | none => rw [ho] at e; cases e
    | some p => rw [ho] at e; exact ⟨p, rfl, by simpa using e⟩
  have loc : ∀ k p, bl[k]? = some p → rhoL (bl.map Prod.snd) k = p.2 := fun k p e => by simp [rhoL, List.getElem?_map, e]
  refine ⟨fun k B e => ?_, fun n m Bn Bm L M e1 e2 hne hro => ?_, fun n hn => ?_, Nat.le_refl _, fun n B L e hro hL => ?_, fun n B L c el fz q1 q2 => ?_⟩
  · obtain ⟨p, h1, h2⟩ := pick k B e
    obtain ⟨L, c, el, fz, g1, g2, g3, g4, g5, g6, g7⟩ := hb p (List.mem_of_getElem? h1) B h2
    exact ⟨L, c, el, fz, by rw [loc k p h1, g1], g2, g3, g4, g5, fun q => by (rw [g6] at q; cases q), g7⟩
  · obtain ⟨p, h1, h2⟩ := pick n Bn e1
    obtain ⟨_, _, _, _, _, _, _, _, _, g6, _⟩ := hb p (List.mem_of_getElem? h1) Bn h2
    rw [g6] at hro; cases hro
  · rw [args_next, List.length_map] at hn
    simp [rhoL, List.getElem?_eq_none (show bl.length ≤ n by omega)]
  · obtain ⟨p, h1, h2⟩ := pick n B e
    obtain ⟨L', c, el, fz, g1, g2, _⟩ := hb p (List.mem_of_getElem? h1) B h2
    rw [loc n p h1, g1] at hL; cases hL
    exact (Array.getElem?_eq_some_iff.1 g2).1
  · obtain ⟨p, h1, h2⟩ := pick n B q1
    obtain ⟨_, _, _, _, _, _, _, _, _, g6, _⟩ := hb p (List.mem_of_getElem? h1) B h2
    rw [g6] at q2; cases q2
theorem compR_rho (bl : BL) : CompR (rhoL (bl.map Prod.snd)) 0 bl := fun i p hp => by simp [rhoL, List.getElem?_map, hp]
theorem compH_args (bl : BL) : CompH (args (bl.map Prod.fst)) 0 bl := fun i p hp B hB => by
  rw [args_get, List.getElem?_map, Nat.zero_add, hp]; simp [hB]
theorem wf_args (bl : BL) : Mem (args (bl.map Prod.fst)) (args (bl.map Prod.fst)) [] [] := Mem.start fun n B e => by
  rw [args_get] at e; rw [args_next]
  rcases Nat.lt_or_ge n (bl.map Prod.fst).length with q | q
  · exact q
  · rw [List.getElem?_eq_none q] at e; cases e
def GivenA (W : World) (k : Nat) (us us' : List Value) (bl : BL) : Prop := ∀ r, CompR r k bl → (∀ p ∈ bl, BlkOK W r p) ∧ VL r us us'
theorem GivenA.nil {W : World} {k : Nat} : GivenA W k [] [] [] := fun r _ => ⟨fun p hp => by simp at hp, VL.nil r⟩
theorem GivenA.cons {W : World} {k : Nat} {u u' : Value} {us us' : List Value} {bl bl2 : BL} (h1 : ∀ r, CompR r k bl → (∀ p ∈ bl, BlkOK W r p) ∧ VR r u u') (h2 : GivenA W (k + bl.length) us us' bl2) : GivenA W k (u :: us) (u' :: us') (bl ++ bl2) := fun r hr =>
  ⟨fun p hp => (List.mem_append.1 hp).elim ((h1 r hr.left).1 p) ((h2 r hr.right).1 p), VL.cons (h1 r hr.left).2 (h2 r hr.right).2⟩
theorem given_one {W : World} {k : Nat} {bl : BL} {u v : Value} (h : ∀ r, CompR r k bl → (∀ p ∈ bl, BlkOK W r p) ∧ VL r [u] [v]) : ∀ r, CompR r k bl → (∀ p ∈ bl, BlkOK W r p) ∧ VR r u v := fun r hr =>
  ⟨(h r hr).1, (h r hr).2.2 0 u v rfl rfl⟩
theorem one_of {l : List Value} (h : l.length = 1) : ∃ u, l = [u] := by
  match l, h with
  | [u], _ => exact ⟨u, rfl⟩
theorem law_calls {P : Program} {tab : Nat → Option FD} (hD : DrawOK P) (hT : TabOK P tab) {f : Nat} {W : World} {bl : BL} {us us' : List Value} (hb : ∀ r, CompR r 0 bl → (∀ p ∈ bl, BlkOK W r p) ∧ VL r us us')
    (hw : Cll tab f us (args (bl.map Prod.fst)) (fun v _ => v = .bool true)) : Calls P f us'.toArray W fun e W' => e = .returned (.bool true) ∧ Go.RowKit.Below W.heap.size W W' := by
  obtain ⟨v, h2, ⟨n, hr⟩, rfl⟩ := hw
  obtain ⟨b1, b2⟩ := hb _ (compR_rho bl)
  have R := rel_bl b1
  refine (run_table hD hT n f W.heap.size _ _ W us us' _ _ hr b2 R).2.mono fun e W' he => ?_
  obtain ⟨r2, v', rfl, hv, _, F, _⟩ := he
  cases hv
  exact ⟨rfl, F.below R⟩
end Go.Proofs.Ytfnhhelbegnopaa.Am
namespace Go.Proofs.Ytfnhhelbegnopaa.Wt
open Go Go.Proofs.Ytfnhhelbegnopaa.Am Go.Proofs.Ytfnhhelbegnopaa.IrAll
open Go.Proofs.Ytfnhhelbegnopaa.Am.WS renaming op → C
open Go.Proofs.Ytfnhhelbegnopaa.Am.WS renaming nil → D
set_option linter.unusedVariables false
set_option linter.unusedSimpArgs false
structure AcI where
  d : UInt8
  ky : List UInt8
  to : List UInt8
  va : List UInt8
  vn : UInt64
  ls : UInt64
  mo : Int64
  deriving DecidableEq
def AcI.cells (x : AcI) : List Value := [(.int .u8 (((x.d).toNat : Nat) : Int)), (.string (bs x.ky)), (.string (bs x.to)), (.string (bs x.va)), (.int .u64 (((x.vn).toNat : Nat) : Int)), (.int .u64 (((x.ls).toNat : Nat) : Int)), (.int .i64 (x.mo).toInt)]
def KAcI : Row AcI := ⟨AcI.cells, 7, fun _ => rfl, by decide, fun _ => rfl⟩
theorem opens_9 : OpensL Try.prog 9 layStr 1 (fun a => a.length < 9223372036854775808) := OpensL.string Try.underlying9 (by kernel_rfl)
theorem opens_24 : OpensL Try.prog 24 layU64 1 (fun _ => True) := OpensL.u64 Try.underlying24 (by kernel_rfl)
set_option maxRecDepth 100000 in
theorem opens_26 : OpensL Try.prog 26 (α := Vl) (fun _ y cs => cs = KVl.cells y) 3 (fun y => y.val.length < 9223372036854775808) := by
  refine OpensL.struct (fs := [(9, 0), (24, 1), (24, 2)]) (L := (layP layStr (layP layU64 layU64))) (mk := fun (a, b, c) => ⟨a, b, c⟩) ?_ ?_ (by kernel_rfl) (by kernel_rfl) (OpensLF.cons (by decide) (by decide) opens_9 (OpensLF.cons (by decide) (by decide) opens_24 (OpensLF.one opens_24)))
  · rintro h ⟨a, b, c⟩ cs ⟨_, _, rfl, rfl, ⟨_, _, rfl, rfl, rfl⟩⟩
    rfl
  · rintro ⟨a, b, c⟩ ⟨k0, k1, k2⟩
    exact k0
theorem opens_5 : OpensL Try.prog 5 layU8 1 (fun _ => True) := OpensL.u8 Try.underlying5 (by kernel_rfl)
theorem opens_3 : OpensL Try.prog 3 layI64 1 (fun _ => True) := OpensL.i64 Try.underlying3 (by kernel_rfl)
set_option maxRecDepth 100000 in
theorem opens_47 : OpensL Try.prog 47 (α := AcI) (fun _ y cs => cs = KAcI.cells y) 7 (fun y => y.ky.length < 9223372036854775808 ∧ y.to.length < 9223372036854775808 ∧ y.va.length < 9223372036854775808) := by
  refine OpensL.struct (fs := [(5, 0), (9, 1), (9, 2), (26, 3), (3, 6)]) (L := (layP layU8 (layP layStr (layP layStr (layP (fun _ y cs => cs = KVl.cells y) layI64))))) (mk := fun (d, ky, to, v, mo) => ⟨d, ky, to, v.val, v.ver, v.lea, mo⟩) ?_ ?_ (by kernel_rfl) (by kernel_rfl) (OpensLF.cons (by decide) (by decide) opens_5 (OpensLF.cons (by decide) (by decide) opens_9 (OpensLF.cons (by decide) (by decide) opens_9 (OpensLF.cons (by decide) (by decide) opens_26 (OpensLF.one opens_3)))))
  · rintro h ⟨d, ky, to, v, mo⟩ cs ⟨_, _, rfl, rfl, ⟨_, _, rfl, rfl, ⟨_, _, rfl, rfl, ⟨_, _, rfl, rfl, rfl⟩⟩⟩⟩
    rfl
  · rintro ⟨d, ky, to, v, mo⟩ ⟨k0, k1, k2, k3, k4⟩
    exact ⟨k1, k2, k3⟩
theorem opens_40 : OpensL Try.prog 40 (laySl (fun _ y cs => cs = KAcI.cells y) 7) 1 (fun l => l.length < 9223372036854775808 ∧ ∀ x ∈ l, (fun y => y.ky.length < 9223372036854775808 ∧ y.to.length < 9223372036854775808 ∧ y.va.length < 9223372036854775808) x) := OpensL.slice Try.underlying40 (by kernel_rfl) (by decide) opens_47
variable {h base : H} {L : List Seg} {R : List Nat}
theorem awake15_ran (W : Mem h h [] []) : Cll tab0 16 [] h (fun v h2 => v = .bool true ∧ Mem h h2 [] []) := ⟨_, h, awake_run h, rfl, W⟩
def stepL (LL : List (List It)) (a : AcI) : List (List It) := if a.d.toNat = 0 then putL LL ⟨a.ky, a.va, a.vn, a.ls⟩ else if a.d.toNat = 1 then delL LL a.ky else LL
def madeL (l : List AcI) : List (List It) := l.foldl stepL []
theorem put_lenB {LL : List (List It)} {it : It} {b : Nat} (h : Inv LL) (hn : LL.flatten.length ≤ b) : (putL LL it).flatten.length ≤ b + 1 := by
  rw [(flat_put h).1]; have := (putF_len (it := it) h.2).2; omega
theorem del_lenB {LL : List (List It)} {key : List UInt8} {b : Nat} (h : Inv LL) (hn : LL.flatten.length ≤ b) : (delL LL key).flatten.length ≤ b + 1 := by
  rw [(flat_del h).1]; have : (delF LL.flatten key).length ≤ LL.flatten.length := List.length_filter_le ..; omega
theorem step_inv {LL : List (List It)} {a : AcI} {b : Nat} (h : Inv LL) (hn : LL.flatten.length ≤ b) : Inv (stepL LL a) ∧ (stepL LL a).flatten.length ≤ b + 1 := by
  unfold stepL
  split
  · exact ⟨(flat_put h).2, put_lenB h hn⟩
  · split
    · exact ⟨(flat_del h).2, del_lenB h hn⟩
    · exact ⟨h, by omega⟩
theorem made_inv (l : List AcI) : Inv (madeL l) ∧ (madeL l).flatten.length ≤ l.length := by
  have : ∀ (l : List AcI) (LL : List (List It)) (b : Nat), Inv LL → LL.flatten.length ≤ b → Inv (l.foldl stepL LL) ∧ (l.foldl stepL LL).flatten.length ≤ b + l.length := by
    intro l
    induction l with
    | nil => intro LL b h hn; exact ⟨h, hn⟩
    | cons a l ih =>
      intro LL b h hn
      obtain ⟨q1, q2⟩ := step_inv (a := a) h hn
      obtain ⟨r1, r2⟩ := ih _ _ q1 q2
      exact ⟨r1, by rw [List.foldl_cons, List.length_cons]; omega⟩
  have q := this l [] 0 inv_nil (Nat.le_refl _)
  exact ⟨q.1, by rw [Nat.zero_add] at q; exact q.2⟩
theorem made_snoc {l : List AcI} {i : Nat} {a : AcI} (h : l[i]? = some a) : madeL (l.take (i + 1)) = stepL (madeL (l.take i)) a := by
  unfold madeL; rw [List.take_add_one, h]; simp
theorem range_all {F : List It} (h : F.length ≤ 1099511627776) : rangeF F [] [] (1099511627776 : Int) = F := by
  unfold rangeF geF
  have e1 : F.filter (fun x => !decide (kL x.ky [])) = F := filter_all fun x _ => by rw [decide_eq_false kL_nil]; rfl
  have e2 : F.filter (fun x => decide (okTo [] x)) = F := filter_all fun x _ => decide_eq_true (Or.inl rfl)
  rw [e1, e2, List.take_of_length_le (by omega)]
theorem great15_ran (W : Mem h h [] []) {V : Value} {l : List AcI} (A : KAcI.Sl h V l) (hbig : l.length < 9223372036854775808) : Cll tab0 17 [V] h (fun v h2 => ∃ g, v = .bool g ∧ (g = false → l.length ≤ 200) ∧ Mem h h2 [] []) := by
  obtain ⟨Pl, nl, rfl⟩ := A.shape
  refine Cll.code rfl rfl ?_
  refine WC.env [(0, _)] rfl ?_
  refine WC.seq (WC.run (C rfl rfl (D [(0, _)] rfl ?_)))
  refine WC.seq (WC.seq (WC.run (C rfl rfl (C rfl (op_lenVS A rfl) ?_))))
  refine WS.gtrN (a := (l).length) (b := 200) rfl rfl rfl (fun e7 => ?_) (fun e7 => ?_)
  ·
   refine D [(0, _), (7, _)] rfl ?_
   refine WC.condT rfl (WC.seq (WC.run (C rfl rfl (D [(2, _)] rfl ?_))))
   refine WC.ret (⟨[_], (res_tmp rfl res_nil), ?_⟩)
   exact ⟨true, rfl, fun q => (nomatch q), W.bare.take 0⟩
  ·
   refine D [(0, _), (7, _)] rfl ?_
   refine WC.condF rfl (WC.skip (WC.seq (WC.run (C rfl rfl (D [(0, _), (3, _)] rfl ?_)))))
   refine WC.seq (WC.seq (WC.run (C rfl rfl (D [(0, _), (3, _), (4, _)] rfl ?_))))
   refine WC.block ?_
   obtain ⟨L1, eL3, M2⟩ := Mem.name W.bare
   refine WC.loop (σ := Nat × Nat) (fun ((i, n)) => [(0, (.slice Pl l.length nl)), (3, (.int .i64 ((n : Nat) : Int))), (4, (.int .i64 ((i : Nat) : Int)))]) (fun ((i, n)) hh => Mem h hh (L1) [] ∧ i ≤ l.length ∧ n ≤ 60000 * i) (fun ((i, n)) => l.length - i) (0, 0) rfl ⟨M2, ?_⟩ ?_
   · exact ⟨by omega, by omega⟩
   ·rintro ⟨i, n⟩ h4 ⟨M5, ⟨hi, hn⟩⟩
    replace eL3 := eL3.symm; subst eL3
    refine WC.env [(0, _), (3, _), (4, _)] rfl ?_
    refine WC.seq (WC.seq (WC.run (C rfl rfl (C rfl rfl (C rfl (op_lenVS A rfl) ?_)))))
    refine WS.lssN (a := i) (b := (l).length) rfl rfl rfl (fun e11 => ?_) (fun e11 => ?_)
    ·
     refine D [(0, _), (3, _), (4, _), (11, _)] rfl ?_
     refine WC.condT rfl (WC.skip (WC.seq (WC.block (WC.seq (WC.seq (WC.run (C rfl rfl (C rfl rfl ?_))))))))
     obtain ⟨y16, hy16⟩ : ∃ y, (l)[i]? = some y := ⟨_, List.getElem?_eq_getElem (show i < (l).length by first | omega | (simp only [List.length_drop, List.length_take, List.length_append, List.length_cons, List.length_nil, List.length_singleton]; omega) | (simp only [List.length_drop, List.length_take, List.length_append, List.length_cons, List.length_nil, List.length_singleton] at *; omega))⟩
     refine WS.iaVS A i hy16 rfl rfl rfl rfl ?_
     intro b16_ o16_ ha16
     refine C rfl rfl (C rfl (op_ldH rfl (At.ld (k := 1) (ha16.mono M5.sub) rfl)) (C rfl (op_lenS (l := y16.ky) rfl) ?_))
     refine WS.gtrN (a := (y16.ky).length) (b := 20000) rfl rfl rfl (fun e20 => ?_) (fun e20 => ?_)
     ·
      refine C rfl rfl (WS.off rfl (WS.off rfl (WS.off rfl (WS.off rfl (WS.off rfl (WS.off rfl (WS.off rfl (C rfl rfl (C rfl rfl ?_)))))))))
      refine WS.off rfl (WS.off rfl (WS.off rfl (WS.off rfl (WS.off rfl (WS.off rfl (WS.off rfl (WS.off rfl (C rfl rfl (D [(0, _), (3, _), (4, _), (39, _)] rfl ?_)))))))))
      refine WC.condT rfl (WC.seq (WC.run (C rfl rfl (D [(2, _)] rfl ?_))))
      refine WC.ret (⟨[_], (res_tmp rfl res_nil), ?_⟩)
      exact ⟨true, rfl, fun q => (nomatch q), M5.bare.take 0⟩
     ·
      refine C rfl rfl (C rfl rfl (C rfl rfl ?_))
      refine WS.iaVS A i hy16 rfl rfl rfl rfl ?_
      intro b24_ o24_ ha24
      refine C rfl rfl (C rfl (op_ldH rfl (At.ld (k := 2) (ha24.mono M5.sub) rfl)) (C rfl (op_lenS (l := y16.to) rfl) ?_))
      refine WS.gtrN (a := (y16.to).length) (b := 20000) rfl rfl rfl (fun e28 => ?_) (fun e28 => ?_)
      ·
       refine C rfl rfl (C rfl rfl (WS.off rfl (WS.off rfl (WS.off rfl (WS.off rfl (WS.off rfl (WS.off rfl (WS.off rfl (WS.off rfl ?_)))))))))
       refine C rfl rfl (D [(0, _), (3, _), (4, _), (39, _)] rfl ?_)
       refine WC.condT rfl (WC.seq (WC.run (C rfl rfl (D [(2, _)] rfl ?_))))
       refine WC.ret (⟨[_], (res_tmp rfl res_nil), ?_⟩)
       exact ⟨true, rfl, fun q => (nomatch q), M5.bare.take 0⟩
      ·
       refine C rfl rfl (C rfl rfl (C rfl rfl (C rfl rfl ?_)))
       refine WS.iaVS A i hy16 rfl rfl rfl rfl ?_
       intro b33_ o33_ ha33
       refine C rfl rfl (C rfl rfl (C rfl (op_ldH rfl (At.ld (k := 3) (ha33.mono M5.sub) rfl)) (C rfl (op_lenS (l := y16.va) rfl) ?_)))
       refine WS.gtrN (a := (y16.va).length) (b := 20000) rfl rfl rfl (fun e38 => ?_) (fun e38 => ?_)
       ·
        refine C rfl rfl (D [(0, _), (3, _), (4, _), (39, _)] rfl ?_)
        refine WC.condT rfl (WC.seq (WC.run (C rfl rfl (D [(2, _)] rfl ?_))))
        refine WC.ret (⟨[_], (res_tmp rfl res_nil), ?_⟩)
        exact ⟨true, rfl, fun q => (nomatch q), M5.bare.take 0⟩
       ·
        refine C rfl rfl (D [(0, _), (3, _), (4, _), (39, _)] rfl ?_)
        refine WC.condF rfl (WC.skip (WC.draw M5 [] rfl ?_))
        intro rb6 h7 M8
        refine C rfl rfl (C rfl rfl (C rfl rfl ?_))
        refine WS.iaVS A i hy16 rfl rfl rfl rfl ?_
        intro b43_ o43_ ha43
        refine C rfl rfl (C rfl (op_ldH rfl (At.ld (k := 1) (ha43.mono M8.sub) rfl)) (C rfl (op_lenS (l := y16.ky) rfl) (WS.opV (.int .i64 (((n + (y16.ky).length) : Nat) : Int)) rfl rfl (add_i64 (a := n) (b := (y16.ky).length) (by omega)) (C rfl rfl (C rfl rfl ?_)))))
        refine WS.iaVS A i hy16 rfl rfl rfl rfl ?_
        intro b50_ o50_ ha50
        refine C rfl rfl (C rfl (op_ldH rfl (At.ld (k := 2) (ha50.mono M8.sub) rfl)) (C rfl (op_lenS (l := y16.to) rfl) (WS.opV (.int .i64 ((((n + (y16.ky).length) + (y16.to).length) : Nat) : Int)) rfl rfl (add_i64 (a := (n + (y16.ky).length)) (b := (y16.to).length) (by omega)) (C rfl rfl (C rfl rfl ?_)))))
        refine WS.iaVS A i hy16 rfl rfl rfl rfl ?_
        intro b57_ o57_ ha57
        refine C rfl rfl (C rfl rfl (C rfl (op_ldH rfl (At.ld (k := 3) (ha57.mono M8.sub) rfl)) (C rfl (op_lenS (l := y16.va) rfl) (WS.opV (.int .i64 (((((n + (y16.ky).length) + (y16.to).length) + (y16.va).length) : Nat) : Int)) rfl rfl (add_i64 (a := ((n + (y16.ky).length) + (y16.to).length)) (b := (y16.va).length) (by omega)) (C rfl rfl (D [(0, _), (3, _), (4, _)] rfl ?_))))))
        refine WC.run (C rfl rfl (WS.opV (.int .i64 (((i + 1) : Nat) : Int)) rfl rfl (add_i64 (a := i) (b := 1) (by omega)) (C rfl rfl (D [(0, _), (3, _), (4, _)] rfl ?_))))
        refine ⟨(i + 1, (((n + (y16.ky).length) + (y16.to).length) + (y16.va).length)), rfl, ⟨(M8.bare.bare.take 0), ?_⟩, ?_⟩
        · exact ⟨by omega, by omega⟩
        · simp only []; omega
    ·
     refine D [(0, _), (3, _), (4, _), (11, _)] rfl ?_
     refine WC.condF rfl (WC.exit ?_)
     refine WC.seq (WC.run (C rfl rfl ?_))
     refine WS.gtrN (a := n) (b := 20000) rfl rfl rfl (fun e64 => ?_) (fun e64 => ?_)
     ·
      refine C rfl rfl (D [(2, _)] rfl ?_)
      refine WC.ret (⟨[_], (res_tmp rfl res_nil), ?_⟩)
      exact ⟨true, rfl, fun q => (nomatch q), M5.bare.take 0⟩
     ·
      refine C rfl rfl (D [(2, _)] rfl ?_)
      refine WC.ret (⟨[_], (res_tmp rfl res_nil), ?_⟩)
      exact ⟨false, rfl, fun _ => by omega, M5.bare.take 0⟩
theorem made_ran (W : Mem h h [] []) {V : Value} {l : List AcI} (A : KAcI.Sl h V l) (hsml : l.length ≤ 200) : Cll tab0 25 [V] h (fun v h2 => ∃ p S, PgSt p (madeL l) S ∧ v = .pointer (some ⟨p, 0, none⟩) ∧ Mem h h2 [S] []) := by
  obtain ⟨Pl, nl, rfl⟩ := A.shape
  refine Cll.code rfl rfl ?_
  refine WC.env [(0, _)] rfl ?_
  refine WC.seq (WC.run (C rfl rfl (D [(0, _)] rfl ?_)))
  refine WC.seq (WC.run (WS.call rfl rfl rfl (New_st W.bare) ?_))
  rintro _ h1 ⟨p5, S3, G4, rfl, M2⟩
  replace M2 : Mem _ _ (S3 :: []) _ := M2
  refine C rfl rfl (D [(0, _), (3, _)] rfl ?_)
  refine WC.seq (WC.seq (WC.run (C rfl rfl (D [(0, _), (3, _), (4, _)] rfl ?_))))
  refine WC.block ?_
  obtain ⟨L5, eL7, M6⟩ := Mem.name1 (M2.bare.focus 0 rfl)
  refine WC.loop (σ := Seg × Nat) (fun ((S_, i)) => [(0, (.slice Pl l.length nl)), (3, (.pointer (some ⟨p5, 0, none⟩))), (4, (.int .i64 ((i : Nat) : Int)))]) (fun ((S_, i)) hh => Mem h hh (S_ :: L5) [] ∧ PgSt p5 (madeL (l.take i)) S_ ∧ i ≤ l.length) (fun ((S_, i)) => l.length - i) (S3, 0) rfl ⟨M6, ?_⟩ ?_
  · exact ⟨by assumption, by omega⟩
  ·rintro ⟨S_, i⟩ h8 ⟨M9, ⟨G_, hi⟩⟩
   replace eL7 := eL7.symm; subst eL7
   refine WC.env [(0, _), (3, _), (4, _)] rfl ?_
   have hN_ : (madeL (l.take i)).flatten.length ≤ i := Nat.le_trans (made_inv (l.take i)).2 (by rw [List.length_take]; omega)
   refine WC.seq (WC.seq (WC.run (C rfl rfl (C rfl rfl (C rfl (op_lenVS A rfl) ?_)))))
   refine WS.lssN (a := i) (b := (l).length) rfl rfl rfl (fun e9 => ?_) (fun e9 => ?_)
   ·
    refine D [(0, _), (3, _), (4, _), (9, _)] rfl ?_
    refine WC.condT rfl (WC.skip (WC.seq (WC.block (WC.seq (WC.run (C rfl rfl (C rfl rfl ?_)))))))
    obtain ⟨y14, hy14⟩ : ∃ y, (l)[i]? = some y := ⟨_, List.getElem?_eq_getElem (show i < (l).length by first | omega | (simp only [List.length_drop, List.length_take, List.length_append, List.length_cons, List.length_nil, List.length_singleton]; omega) | (simp only [List.length_drop, List.length_take, List.length_append, List.length_cons, List.length_nil, List.length_singleton] at *; omega))⟩
    refine WS.iaVS A i hy14 rfl rfl rfl rfl ?_
    intro b14_ o14_ ha14
    refine C rfl rfl (C rfl (op_ldH rfl (At.ld0 (ha14.mono M9.sub) rfl)) (D [(0, _), (3, _), (4, _), (16, _)] rfl ?_))
    refine WC.block (WC.seq (WC.run (WS.eqlN (a := (y14.d).toNat) (b := 0) rfl rfl rfl (fun e18 => ?_) (fun e18 => ?_))))
    ·
     refine C rfl rfl (D [(0, _), (3, _), (4, _), (16, _), (17, _)] rfl ?_)
     refine WC.condT rfl (WC.draw M9 [] rfl ?_)
     intro rb10 h11 M12
     refine C rfl rfl (C rfl rfl (C rfl rfl ?_))
     refine WS.iaVS A i hy14 rfl rfl rfl rfl ?_
     intro b22_ o22_ ha22
     refine C rfl rfl (C rfl (op_ldH rfl (At.ld (k := 1) (ha22.mono M12.sub) rfl)) (C rfl rfl (C rfl rfl ?_)))
     refine WS.iaVS A i hy14 rfl rfl rfl rfl ?_
     intro b27_ o27_ ha27
     refine C rfl rfl (C rfl (op_ldN rfl (At.ldsub (ha27.mono M12.sub) (cs2 := [_, _, _]) rfl (Nat.le_of_ble_eq_true rfl))) ?_)
     refine WS.call rfl rfl rfl (Put_ran (key := y14.ky) (v := (⟨y14.va, y14.vn, y14.ls⟩ : Vl)) G_ (M12.bare.focus 0 rfl) (made_inv (l.take i)).1 (Nat.le_trans hN_ (by omega))) ?_
     rintro _ h13 ⟨rfl, S15, G16, M14⟩
     replace M14 : Mem _ _ (S15 :: []) _ := M14
     have I17 : Inv (putL (madeL (l.take i)) (⟨y14.ky, y14.va, y14.vn, y14.ls⟩ : It)) := (flat_put (made_inv (l.take i)).1).2
     have N18 := put_lenB (it := (⟨y14.ky, y14.va, y14.vn, y14.ls⟩ : It)) (made_inv (l.take i)).1 hN_
     refine D [(0, _), (3, _), (4, _)] rfl ?_
     refine WC.run (C rfl rfl (WS.opV (.int .i64 (((i + 1) : Nat) : Int)) rfl rfl (add_i64 (a := i) (b := 1) (by omega)) (C rfl rfl (D [(0, _), (3, _), (4, _)] rfl ?_))))
     refine ⟨(S15, i + 1), rfl, ⟨((M14.bare.bare.focus 0 rfl).take 1), ?_⟩, ?_⟩
     · exact ⟨by rw [made_snoc hy14]; unfold stepL; first | (rw [if_pos e18]; exact G16) | (rw [if_neg e18, if_pos e32]; exact G16) | (rw [if_neg e18, if_neg e32]; exact G16), by omega⟩
     · simp only []; omega
    ·
     refine C rfl rfl (D [(0, _), (3, _), (4, _), (16, _), (17, _)] rfl ?_)
     refine WC.condF rfl (WC.seq (WC.run (WS.eqlN (a := (y14.d).toNat) (b := 1) rfl rfl rfl (fun e32 => ?_) (fun e32 => ?_))))
     ·
      refine C rfl rfl (D [(0, _), (3, _), (4, _), (31, _)] rfl ?_)
      refine WC.condT rfl (WC.run (C rfl rfl (C rfl rfl (C rfl rfl ?_))))
      refine WS.iaVS A i hy14 rfl rfl rfl rfl ?_
      intro b36_ o36_ ha36
      refine C rfl rfl (C rfl (op_ldH rfl (At.ld (k := 1) (ha36.mono M9.sub) rfl)) ?_)
      refine WS.call rfl rfl rfl (Delete_ran (key := y14.ky) G_ (M9.bare.focus 0 rfl) (made_inv (l.take i)).1 (Nat.le_trans hN_ (by omega))) ?_
      rintro _ h19 ⟨rfl, S21, G22, M20⟩
      replace M20 : Mem _ _ (S21 :: []) _ := M20
      have I23 : Inv (delL (madeL (l.take i)) y14.ky) := (flat_del (made_inv (l.take i)).1).2
      have N24 := del_lenB (key := y14.ky) (made_inv (l.take i)).1 hN_
      refine D [(0, _), (3, _), (4, _)] rfl ?_
      refine WC.run (C rfl rfl (WS.opV (.int .i64 (((i + 1) : Nat) : Int)) rfl rfl (add_i64 (a := i) (b := 1) (by omega)) (C rfl rfl (D [(0, _), (3, _), (4, _)] rfl ?_))))
      refine ⟨(S21, i + 1), rfl, ⟨((M20.bare.focus 0 rfl).take 1), ?_⟩, ?_⟩
      · exact ⟨by rw [made_snoc hy14]; unfold stepL; first | (rw [if_pos e18]; exact G22) | (rw [if_neg e18, if_pos e32]; exact G22) | (rw [if_neg e18, if_neg e32]; exact G22), by omega⟩
      · simp only []; omega
     ·
      refine C rfl rfl (D [(0, _), (3, _), (4, _), (31, _)] rfl ?_)
      refine WC.condF rfl (WC.skip (WC.run (C rfl rfl (WS.opV (.int .i64 (((i + 1) : Nat) : Int)) rfl rfl (add_i64 (a := i) (b := 1) (by omega)) (C rfl rfl (D [(0, _), (3, _), (4, _)] rfl ?_))))))
      refine ⟨(S_, i + 1), rfl, ⟨((M9.bare.focus 0 rfl).take 1), ?_⟩, ?_⟩
      · exact ⟨by rw [made_snoc hy14]; unfold stepL; first | (rw [if_pos e18]; exact G_) | (rw [if_neg e18, if_pos e32]; exact G_) | (rw [if_neg e18, if_neg e32]; exact G_), by omega⟩
      · simp only []; omega
   ·
    refine D [(0, _), (3, _), (4, _), (9, _)] rfl ?_
    refine WC.condF rfl (WC.exit ?_)
    refine WC.seq (WC.run (C rfl rfl (C rfl rfl (D [(2, _)] rfl ?_))))
    refine WC.ret (⟨[_], (res_tmp rfl res_nil), ?_⟩)
    rw [List.take_of_length_le (by omega)] at G_
    exact ⟨p5, S_, G_, rfl, ((M9.bare.focus 0 rfl).take 1)⟩
end Go.Proofs.Ytfnhhelbegnopaa.Wt
namespace Go.Proofs.Ytfnhhelbegnopaa.Wt
open Go Go.Proofs.Ytfnhhelbegnopaa.Am Go.Proofs.Ytfnhhelbegnopaa.IrAll
open Go.Proofs.Ytfnhhelbegnopaa.Am.WS renaming op → C
open Go.Proofs.Ytfnhhelbegnopaa.Am.WS renaming off → D
open Go.Proofs.Ytfnhhelbegnopaa.Am.WS renaming nil → G
open Nat renaming le_of_ble_eq_true → J
open Go.Proofs.Ytfnhhelbegnopaa.Am.WC renaming seq → U
open Go.Proofs.Ytfnhhelbegnopaa.Am.WC renaming run → X
open List renaming length_singleton → Y
set_option linter.unusedVariables false
set_option linter.unusedSimpArgs false
variable {h base : H} {L : List Seg} {R : List Nat}
theorem get_iff {F : List It} {key : List UInt8} {x : It} (h : SrtI F) : getF F key = some x ↔ x ∈ F ∧ x.ky = key := by
  unfold getF
  constructor
  · intro e
    have h1 := List.mem_of_find?_eq_some e
    have h2 := List.find?_some e
    exact ⟨h1, of_decide_eq_true h2⟩
  · rintro ⟨h1, h2⟩
    obtain ⟨A, B, rfl⟩ := List.append_of_mem h1
    have h3 := (srt_app.1 h).2.2
    rw [List.find?_append, List.find?_eq_none.2 (fun z hz => by
      have := h3 z hz x (List.mem_cons_self ..)
      simp; intro q; rw [q, h2] at this; exact kL_irr this), Option.none_or, List.find?_cons_of_pos (p := fun x : It => decide (x.ky = key)) (by simpa using h2)]
theorem mem_put {F : List It} {it x : It} : x ∈ putF F it ↔ x = it ∨ (x ∈ F ∧ x.ky ≠ it.ky) := by
  unfold putF
  simp only [List.mem_append, List.mem_cons, List.mem_filter, decide_eq_true_eq]
  constructor
  · rintro (⟨h1, h2⟩ | h | ⟨h1, h2⟩)
    · exact .inr ⟨h1, fun q => by rw [q] at h2; exact kL_irr h2⟩
    · exact .inl h
    · exact .inr ⟨h1, fun q => by rw [q] at h2; exact kL_irr h2⟩
  · rintro (h | ⟨h1, h2⟩)
    · exact .inr (.inl h)
    · by_cases c : kL x.ky it.ky
      · exact .inl ⟨h1, c⟩
      · refine .inr (.inr ⟨h1, ?_⟩)
        apply Classical.byContradiction
        intro q; exact h2 (kL_tot c q)
theorem mem_del {F : List It} {key : List UInt8} {x : It} : x ∈ delF F key ↔ x ∈ F ∧ x.ky ≠ key := by
  unfold delF; simp
theorem getF_put {F : List It} {it : It} {key : List UInt8} (h : SrtI F) : getF (putF F it) key = if key = it.ky then some it else getF F key := by
  apply Option.ext; intro x
  by_cases c : key = it.ky
  · rw [if_pos c, get_iff (srt_put h), mem_put]
    subst c
    constructor
    · rintro ⟨rfl | ⟨_, q⟩, e⟩
      · rfl
      · exact absurd e q
    · intro e; cases e; exact ⟨.inl rfl, rfl⟩
  · rw [if_neg c, get_iff (srt_put h), get_iff h, mem_put]
    constructor
    · rintro ⟨rfl | ⟨q, _⟩, e⟩
      · exact absurd e.symm c
      · exact ⟨q, e⟩
    · rintro ⟨q, e⟩; exact ⟨.inr ⟨q, fun z => c (e.symm.trans z)⟩, e⟩
theorem getF_del {F : List It} {k key : List UInt8} (h : SrtI F) : getF (delF F k) key = if key = k then none else getF F key := by
  apply Option.ext; intro x
  have hs : SrtI (delF F k) := srt_filter h _
  by_cases c : key = k
  · rw [if_pos c, get_iff hs, mem_del]
    constructor
    · rintro ⟨⟨_, q⟩, e⟩; exact absurd (e.trans c) q
    · intro e; cases e
  · rw [if_neg c, get_iff hs, get_iff h, mem_del]
    constructor
    · rintro ⟨⟨q, _⟩, e⟩; exact ⟨q, e⟩
    · rintro ⟨q, e⟩; exact ⟨⟨q, fun z => c (e.symm.trans z)⟩, e⟩
theorem getV_self {F : List It} {x : It} (h : SrtI F) (hx : x ∈ F) : getV F x.ky = ((⟨x.va, x.vn, x.ls⟩ : Vl), true) := by
  unfold getV; rw [(get_iff h).2 ⟨hx, rfl⟩]; rfl
def hitA (key : List UInt8) (a : AcI) : Prop := a.d.toNat < 2 ∧ a.ky = key
instance (key : List UInt8) (a : AcI) : Decidable (hitA key a) := by unfold hitA; infer_instance
def LastI (l : List AcI) (key : List UInt8) (k : Nat) (z : Int) : Prop := (z = -1 ∧ ∀ j a, j < k → l[j]? = some a → ¬ hitA key a) ∨ ∃ (m : Nat) (a : AcI), z = (m : Int) ∧ m < k ∧ l[m]? = some a ∧ hitA key a ∧ ∀ j b, m < j → j < k → l[j]? = some b → ¬ hitA key b
theorem last_zero (l : List AcI) (key : List UInt8) : LastI l key 0 (-1) := .inl ⟨rfl, fun j a h => by omega⟩
theorem last_hit {l : List AcI} {key : List UInt8} {k : Nat} {z : Int} {a : AcI} (ha : l[k]? = some a) (hh : hitA key a) : LastI l key (k + 1) (k : Int) :=
  .inr ⟨k, a, rfl, by omega, ha, hh, fun j b h1 h2 => by omega⟩
theorem last_skip {l : List AcI} {key : List UInt8} {k : Nat} {z : Int} {a : AcI} (h : LastI l key k z) (ha : l[k]? = some a) (hh : ¬ hitA key a) : LastI l key (k + 1) z := by
  rcases h with ⟨h1, h2⟩ | ⟨m, b, h1, h2, h3, h4, h5⟩
  · exact .inl ⟨h1, fun j b hj hb => if c : j = k then (by subst c; rw [ha] at hb; cases hb; exact hh) else h2 j b (by omega) hb⟩
  · exact .inr ⟨m, b, h1, by omega, h3, h4, fun j c hj hk hc => if q : j = k then (by subst q; rw [ha] at hc; cases hc; exact hh) else h5 j c hj (by omega) hc⟩
theorem step_get {LL : List (List It)} {a : AcI} {key : List UInt8} (h : Inv LL) : getF (stepL LL a).flatten key = if hitA key a then (if a.d.toNat = 0 then some ⟨a.ky, a.va, a.vn, a.ls⟩ else none) else getF LL.flatten key := by
  unfold stepL
  by_cases c0 : a.d.toNat = 0
  · rw [if_pos c0, (flat_put h).1, getF_put h.2]
    by_cases c : key = a.ky
    · rw [if_pos c, if_pos (show hitA key a from ⟨by omega, c.symm⟩), if_pos c0]
    · rw [if_neg c, if_neg (show ¬ hitA key a from fun q => c q.2.symm)]
  · rw [if_neg c0]
    by_cases c1 : a.d.toNat = 1
    · rw [if_pos c1, (flat_del h).1, getF_del h.2]
      by_cases c : key = a.ky
      · rw [if_pos c, if_pos (show hitA key a from ⟨by omega, c.symm⟩), if_neg c0]
      · rw [if_neg c, if_neg (show ¬ hitA key a from fun q => c q.2.symm)]
    · rw [if_neg c1, if_neg (show ¬ hitA key a from fun q => by have := q.1; omega)]
theorem made_get {l : List AcI} {key : List UInt8} : ∀ k, k ≤ l.length → ((∀ j a, j < k → l[j]? = some a → ¬ hitA key a) → getF (madeL (l.take k)).flatten key = none) ∧ ∀ m a, m < k → l[m]? = some a → hitA key a → (∀ j b, m < j → j < k → l[j]? = some b → ¬ hitA key b) → getF (madeL (l.take k)).flatten key = if a.d.toNat = 0 then some ⟨a.ky, a.va, a.vn, a.ls⟩ else none := by
  intro k
  induction k with
  | zero => intro _; exact ⟨fun _ => rfl, fun m a h => by omega⟩
  | succ k ih =>
    intro hk
    obtain ⟨i1, i2⟩ := ih (by omega)
    have hb : l[k]? = some l[k] := List.getElem?_eq_getElem (by omega)
    rw [made_snoc hb, step_get (made_inv _).1]
    refine ⟨fun h => ?_, fun m a hm ha hh hn => ?_⟩
    · rw [if_neg (h k _ (by omega) hb)]; exact i1 fun j a hj => h j a (by omega)
    · by_cases c : m = k
      · subst c; rw [hb] at ha; cases ha; rw [if_pos hh]
      · rw [if_neg (hn k _ (by omega) (by omega) hb)]
        exact i2 m a (by omega) ha hh fun j b h1 h2 => hn j b h1 (by omega)
theorem last_none {l : List AcI} {key : List UInt8} {z : Int} (h : LastI l key l.length z) (hz : z < 0) : getV (madeL l).flatten key = (zeroV, false) := by
  rcases h with ⟨_, h2⟩ | ⟨m, _, h1, _⟩
  · have := (made_get l.length (Nat.le_refl _)).1 h2
    rw [List.take_length] at this
    unfold getV; rw [this]
  · omega
theorem last_some {l : List AcI} {key : List UInt8} {m : Nat} {a : AcI} (h : LastI l key l.length (m : Int)) (ha : l[m]? = some a) : getV (madeL l).flatten key = if a.d.toNat = 0 then ((⟨a.va, a.vn, a.ls⟩ : Vl), true) else (zeroV, false) := by
  rcases h with ⟨h1, _⟩ | ⟨m', b, h1, h2, h3, h4, h5⟩
  · omega
  · obtain rfl : m = m' := by omega
    rw [ha] at h3; cases h3
    have := (made_get l.length (Nat.le_refl _)).2 m a h2 ha h4 h5
    rw [List.take_length] at this
    unfold getV; rw [this]
    by_cases c : a.d.toNat = 0
    · rw [if_pos c, if_pos c]; rfl
    · rw [if_neg c, if_neg c]
set_option maxRecDepth 8000 in
set_option maxHeartbeats 1000000 in
theorem law_PagesLast (W : Mem h h [] []) {l : List AcI} {u0 : Value} (l0 : laySl (fun _ y cs => cs = KAcI.cells y) 7 h l [u0]) (k0 : l.length < 9223372036854775808 ∧ ∀ x ∈ l, x.ky.length < 9223372036854775808 ∧ x.to.length < 9223372036854775808 ∧ x.va.length < 9223372036854775808) : Cll tab0 6 [u0] h (fun v _ => v = .bool true) := by
  have hbig := k0.1
  obtain ⟨V0, hV, S0⟩ := l0
  cases hV
  have A : KAcI.Sl h u0 l := SlL.sl S0
  obtain ⟨P, c, rfl⟩ := A.shape
  refine Cll.code rfl rfl ?_
  refine WC.env [(0, _)] rfl ?_
  refine U (X (C rfl rfl (G [(0, _)] rfl ?_)))
  refine U (U (X (C rfl rfl ?_)))
  refine WS.call rfl rfl rfl (great15_ran W.here (A.mono W.sub) hbig) ?_
  rintro _ h1 ⟨g14, rfl, hg14, N2⟩
  have M3 := W.trans N2
  refine G [(0, _), (14, _)] rfl ?_
  cases hb1 : g14
  ·
   refine WC.condF rfl (WC.skip (U (X ?_)))
   have hsml : l.length ≤ 200 := hg14 (by assumption)
   refine C rfl rfl ?_
   refine WS.call rfl rfl rfl (made_ran M3.here (A.mono M3.sub) hsml) ?_
   rintro _ h4 ⟨p17, S7, G8, rfl, N5⟩
   have M6 := M3.trans N5
   replace M6 : Mem _ _ (S7 :: []) _ := M6
   refine C rfl rfl (G [(0, _), (3, _)] rfl ?_)
   refine U (U (X (C rfl rfl (G [(0, _), (3, _), (4, _)] rfl ?_))))
   refine WC.block ?_
   obtain ⟨L9, eL11, M10⟩ := Mem.name M6.bare
   refine WC.loop (σ := Nat) (fun (i) => [(0, (.slice P l.length c)), (3, (.pointer (some ⟨p17, 0, none⟩))), (4, (.int .i64 ((i : Nat) : Int)))]) (fun (i) hh => Mem h hh (L9) [] ∧ i ≤ l.length) (fun (i) => l.length - i) (0) rfl ⟨M10, ?_⟩ ?_
   · omega
   ·rintro i h12 ⟨M13, hi⟩
    replace eL11 := eL11.symm; subst eL11
    refine WC.env [(0, _), (3, _), (4, _)] rfl ?_
    refine U (U (X (C rfl rfl (C rfl rfl (C rfl (op_lenVS A rfl) ?_)))))
    refine WS.lssN (a := i) (b := (l).length) rfl rfl rfl (fun e21 => ?_) (fun e21 => ?_)
    ·
     refine G [(0, _), (3, _), (4, _), (21, _)] rfl ?_
     refine WC.condT rfl (WC.skip (U (WC.block (U (X (C rfl rfl (G [(0, _), (3, _), (4, _), (5, _)] rfl ?_)))))))
     refine U (U (X (C rfl rfl (G [(0, _), (3, _), (4, _), (5, _), (6, _)] rfl ?_))))
     refine WC.block ?_
     obtain ⟨yi, hyi⟩ : ∃ y, l[i]? = some y := ⟨_, List.getElem?_eq_getElem (by omega)⟩
     obtain ⟨L14, eL16, M15⟩ := Mem.name M13.bare
     refine WC.loop (σ := Int × Nat) (fun ((z, k)) => [(0, (.slice P l.length c)), (3, (.pointer (some ⟨p17, 0, none⟩))), (4, (.int .i64 ((i : Nat) : Int))), (5, (.int .i64 z)), (6, (.int .i64 ((k : Nat) : Int)))]) (fun ((z, k)) hh => Mem h hh (L14) [] ∧ LastI l yi.ky k z ∧ k ≤ l.length) (fun ((z, k)) => l.length - k) (-1, 0) rfl ⟨M15, ?_⟩ ?_
     · exact ⟨last_zero l yi.ky, by omega⟩
     ·rintro ⟨z, k⟩ h17 ⟨M18, ⟨hLk, hk⟩⟩
      replace eL16 := eL16.symm; subst eL16
      refine WC.env [(0, _), (3, _), (4, _), (5, _), (6, _)] rfl ?_
      refine U (U (X (C rfl rfl (C rfl rfl (C rfl (op_lenVS A rfl) ?_)))))
      refine WS.lssN (a := k) (b := (l).length) rfl rfl rfl (fun e27 => ?_) (fun e27 => ?_)
      ·
       refine G [(0, _), (3, _), (4, _), (5, _), (6, _), (27, _)] rfl ?_
       refine WC.condT rfl (WC.skip (U (WC.block (U (WC.draw M18 [] rfl ?_)))))
       intro rb19 h20 M21
       refine C rfl rfl (C rfl rfl ?_)
       obtain ⟨y32, hy32⟩ : ∃ y, (l)[k]? = some y := ⟨_, List.getElem?_eq_getElem (show k < (l).length by first | omega | (simp only [List.length_drop, List.length_take, List.length_append, List.length_cons, List.length_nil, Y]; omega) | (simp only [List.length_drop, List.length_take, List.length_append, List.length_cons, List.length_nil, Y] at *; omega))⟩
       refine WS.iaVS A k hy32 rfl rfl rfl rfl ?_
       intro b32_ o32_ ha32
       refine C rfl rfl (C rfl (op_ldH rfl (At.ld0 (ha32.mono M21.sub) rfl)) ?_)
       refine WS.lssN (a := (y32.d).toNat) (b := 2) rfl rfl rfl (fun e35 => ?_) (fun e35 => ?_)
       ·
        refine C rfl rfl (C rfl rfl (C rfl rfl ?_))
        refine WS.iaVS A k hy32 rfl rfl rfl rfl ?_
        intro b39_ o39_ ha39
        refine C rfl rfl (C rfl (op_ldH rfl (At.ld (k := 1) (ha39.mono M21.sub) rfl)) (C rfl rfl (C rfl rfl ?_)))
        refine WS.iaVS A i hyi rfl rfl rfl rfl ?_
        intro b44_ o44_ ha44
        refine C rfl rfl (C rfl (op_ldH rfl (At.ld (k := 1) (ha44.mono M21.sub) rfl)) ?_)
        refine WS.seql (l := y32.ky) (m := yi.ky) rfl rfl rfl (fun e47 => ?_) (fun e47 => ?_)
        ·
         refine C rfl rfl (G [(0, _), (3, _), (4, _), (5, _), (6, _), (48, _)] rfl ?_)
         refine WC.condT rfl (X (C rfl rfl (C rfl rfl (G [(0, _), (3, _), (4, _), (5, _), (6, _)] rfl ?_))))
         refine X (C rfl rfl (WS.opV (.int .i64 (((k + 1) : Nat) : Int)) rfl rfl (add_i64 (a := k) (b := 1) (by omega)) (C rfl rfl (G [(0, _), (3, _), (4, _), (5, _), (6, _)] rfl ?_))))
         refine ⟨(((k : Nat) : Int), k + 1), rfl, ⟨((M21.bare.bare.focus 0 rfl).take 1), ?_⟩, ?_⟩
         · exact ⟨last_hit (z := z) hy32 ⟨by omega, by assumption⟩, by omega⟩
         · simp only []; omega
        ·
         refine C rfl rfl (G [(0, _), (3, _), (4, _), (5, _), (6, _), (48, _)] rfl ?_)
         refine WC.condF rfl (WC.skip (X (C rfl rfl (WS.opV (.int .i64 (((k + 1) : Nat) : Int)) rfl rfl (add_i64 (a := k) (b := 1) (by omega)) (C rfl rfl (G [(0, _), (3, _), (4, _), (5, _), (6, _)] rfl ?_))))))
         refine ⟨(z, k + 1), rfl, ⟨((M21.bare.bare.focus 0 rfl).take 1), ?_⟩, ?_⟩
         · exact ⟨last_skip hLk hy32 (fun q => by have q1 := q.1; have q2 := q.2; first | omega | contradiction), by omega⟩
         · simp only []; omega
       ·
        refine C rfl rfl (D rfl (D rfl (D rfl (D rfl (D rfl (D rfl (D rfl (D rfl (D rfl ?_)))))))))
        refine D rfl (D rfl (C rfl rfl (G [(0, _), (3, _), (4, _), (5, _), (6, _), (48, _)] rfl ?_)))
        refine WC.condF rfl (WC.skip (X (C rfl rfl (WS.opV (.int .i64 (((k + 1) : Nat) : Int)) rfl rfl (add_i64 (a := k) (b := 1) (by omega)) (C rfl rfl (G [(0, _), (3, _), (4, _), (5, _), (6, _)] rfl ?_))))))
        refine ⟨(z, k + 1), rfl, ⟨((M21.bare.bare.focus 0 rfl).take 1), ?_⟩, ?_⟩
        · exact ⟨last_skip hLk hy32 (fun q => by have q1 := q.1; have q2 := q.2; first | omega | contradiction), by omega⟩
        · simp only []; omega
      ·
       refine G [(0, _), (3, _), (4, _), (5, _), (6, _), (27, _)] rfl ?_
       refine WC.condF rfl (WC.exit ?_)
       refine U (X ?_)
       have hL : LastI l yi.ky l.length z := by rw [show l.length = k by omega]; exact hLk
       refine C rfl rfl (C rfl rfl (C rfl rfl ?_))
       refine WS.iaVS A i hyi rfl rfl rfl rfl ?_
       intro b54_ o54_ ha54
       refine C rfl rfl (C rfl (op_ldH rfl (At.ld (k := 1) (ha54.mono M18.sub) rfl)) ?_)
       refine WS.call rfl rfl rfl (Get_st (key := yi.ky) G8 (M18.bare.focus 0 rfl) (made_inv l).1 (Nat.le_trans (made_inv l).2 (by omega))) ?_
       rintro _ h22 ⟨rfl, M23⟩
       replace M23 : Mem _ _ (S7 :: []) _ := M23
       refine C rfl rfl (C rfl rfl (C rfl rfl ?_))
       refine WS.new M23 rfl ?_
       intro p24 h25 M26
       refine WS.st1 (M26.focus 0 rfl) [_, _, _] [_, _, _] rfl rfl rfl rfl rfl (J rfl) (J rfl) rfl rfl ?_
       intro h27 M28
       replace M28 : Mem _ _ ([(p24, _)] :: S7 :: []) _ := M28
       refine C rfl rfl (G [(0, _), (3, _), (4, _), (5, _), (7, _), (8, _)] rfl ?_)
       refine U (WC.draw M28 [] rfl ?_)
       intro rb29 h30 M31
       refine C rfl rfl (C rfl rfl ?_)
       refine WS.geq (a := z) (b := (0 : Int)) rfl rfl rfl (fun e62 => ?_) (fun e62 => ?_)
       ·
        obtain ⟨m, rfl⟩ : ∃ m : Nat, z = (m : Int) := ⟨z.toNat, by omega⟩
        have hmb : m < l.length := by (rcases hL with ⟨q, _⟩ | ⟨m2, _, q, q2, _⟩ <;> omega)
        refine C rfl rfl (C rfl rfl (C rfl rfl ?_))
        obtain ⟨y66, hy66⟩ : ∃ y, (l)[m]? = some y := ⟨_, List.getElem?_eq_getElem (show m < (l).length by first | omega | (simp only [List.length_drop, List.length_take, List.length_append, List.length_cons, List.length_nil, Y]; omega) | (simp only [List.length_drop, List.length_take, List.length_append, List.length_cons, List.length_nil, Y] at *; omega))⟩
        refine WS.iaVS A m hy66 rfl rfl rfl rfl ?_
        intro b66_ o66_ ha66
        refine C rfl rfl (C rfl (op_ldH rfl (At.ld0 (ha66.mono M31.sub) rfl)) ?_)
        refine WS.eqlN (a := (y66.d).toNat) (b := 0) rfl rfl rfl (fun e69 => ?_) (fun e69 => ?_)
        ·
         have hg := (last_some hL hy66).trans (if_pos e69)
         refine C rfl rfl ?_
         cases hb2 : (getV (madeL l).flatten yi.ky).2
         ·
          refine WS.opV (.bool true) rfl rfl rfl (C rfl rfl (D rfl (D rfl (D rfl (D rfl (D rfl (D rfl (D rfl (D rfl ?_)))))))))
          refine D rfl (D rfl (C rfl rfl (C rfl rfl (D rfl (D rfl (D rfl (D rfl (D rfl (D rfl ?_)))))))))
          refine D rfl (C rfl rfl (G [(0, _), (3, _), (4, _), (92, _)] rfl ?_))
          refine WC.condT rfl (U (X (C rfl rfl (G [(2, _)] rfl ?_))))
          refine WC.ret (⟨[_], (res_tmp rfl res_nil), ?_⟩)
          exfalso
          first
          | (simp only [hg] at *; done)
          | (simp only [hg] at *; contradiction)
          | (simp only [hg] at e81; exact e81 rfl)
          | (simp only [hg, zeroV] at e90; exact e90 rfl)
          | (simp only [hg] at e120; exact e120 rfl)
          | exact e137 (srt_get (made_inv l).1.2 (by omega) hy129 hy105)
         ·
          refine WS.opV (.bool false) rfl rfl rfl (C rfl rfl (C rfl rfl (C rfl rfl (C rfl (op_lds [_, _, _] (M31.at 0 rfl) rfl (J rfl) rfl) (C rfl rfl (C rfl rfl ?_))))))
          refine WS.iaVS A m hy66 rfl rfl rfl rfl ?_
          intro b78_ o78_ ha78
          refine C rfl rfl (C rfl (op_ldN rfl (At.ldsub (ha78.mono M31.sub) (cs2 := [_, _, _]) rfl (J rfl))) ?_)
          refine WS.eqqDn (p := ((getV (madeL l).flatten yi.ky).1).val = y66.va ∧ (((getV (madeL l).flatten yi.ky).1).ver).toNat = (y66.vn).toNat ∧ (((getV (madeL l).flatten yi.ky).1).lea).toNat = (y66.ls).toNat) rfl rfl rfl (by show some _ = _; simp only [int_beq, int_beq0, str_beq, bool_beq, Bool.decide_and, Bool.and_true]) (fun e81 => ?_) (fun e81 => ?_)
          ·
           refine C rfl rfl (C rfl rfl (C rfl rfl (D rfl (D rfl (D rfl (D rfl (D rfl (D rfl (D rfl ?_)))))))))
           refine C rfl rfl (G [(0, _), (3, _), (4, _), (92, _)] rfl ?_)
           refine WC.condT rfl (U (X (C rfl rfl (G [(2, _)] rfl ?_))))
           refine WC.ret (⟨[_], (res_tmp rfl res_nil), ?_⟩)
           exfalso
           first
           | (simp only [hg] at *; done)
           | (simp only [hg] at *; contradiction)
           | (simp only [hg] at e81; exact e81 rfl)
           | (simp only [hg, zeroV] at e90; exact e90 rfl)
           | (simp only [hg] at e120; exact e120 rfl)
           | exact e137 (srt_get (made_inv l).1.2 (by omega) hy129 hy105)
          ·
           refine C rfl rfl (C rfl rfl (C rfl rfl (C rfl rfl (WS.opV (.bool false) rfl rfl rfl (C rfl rfl (D rfl (D rfl (D rfl (C rfl rfl ?_)))))))))
           refine C rfl rfl (G [(0, _), (3, _), (4, _), (92, _)] rfl ?_)
           refine WC.condF rfl (WC.skip (X (C rfl rfl (WS.opV (.int .i64 (((i + 1) : Nat) : Int)) rfl rfl (add_i64 (a := i) (b := 1) (by omega)) (C rfl rfl (G [(0, _), (3, _), (4, _)] rfl ?_))))))
           refine ⟨i + 1, rfl, ⟨((M31.bare.bare.focus 1 rfl).take 1), ?_⟩, ?_⟩
           · omega
           · simp only []; omega
        ·
         have hg := (last_some hL hy66).trans (if_neg e69)
         refine C rfl rfl ?_
         cases hb2 : (getV (madeL l).flatten yi.ky).2
         ·
          refine WS.opV (.bool false) rfl rfl rfl (C rfl rfl (C rfl rfl (C rfl rfl (D rfl (D rfl (D rfl (D rfl (D rfl (D rfl ?_)))))))))
          refine D rfl (C rfl rfl (C rfl rfl (C rfl rfl (C rfl rfl (WS.opV (.bool true) rfl rfl rfl (C rfl rfl (C rfl (op_lds [_, _, _] (M31.at 0 rfl) rfl (J rfl) rfl) (WS.opV (.agg #[(.string (bs ([]))), (.int .u64 (0 : Int)), (.int .u64 (0 : Int))]) rfl rfl rfl ?_))))))))
          refine WS.eqqDn (p := ((getV (madeL l).flatten yi.ky).1).val = [] ∧ (((getV (madeL l).flatten yi.ky).1).ver).toNat = 0 ∧ (((getV (madeL l).flatten yi.ky).1).lea).toNat = 0) rfl rfl rfl (by show some _ = _; simp only [int_beq, int_beq0, str_beq, bool_beq, Bool.decide_and, Bool.and_true]) (fun e90 => ?_) (fun e90 => ?_)
          ·
           refine C rfl rfl (C rfl rfl (G [(0, _), (3, _), (4, _), (92, _)] rfl ?_))
           refine WC.condT rfl (U (X (C rfl rfl (G [(2, _)] rfl ?_))))
           refine WC.ret (⟨[_], (res_tmp rfl res_nil), ?_⟩)
           exfalso
           first
           | (simp only [hg] at *; done)
           | (simp only [hg] at *; contradiction)
           | (simp only [hg] at e81; exact e81 rfl)
           | (simp only [hg, zeroV] at e90; exact e90 rfl)
           | (simp only [hg] at e120; exact e120 rfl)
           | exact e137 (srt_get (made_inv l).1.2 (by omega) hy129 hy105)
          ·
           refine C rfl rfl (C rfl rfl (G [(0, _), (3, _), (4, _), (92, _)] rfl ?_))
           refine WC.condF rfl (WC.skip (X (C rfl rfl (WS.opV (.int .i64 (((i + 1) : Nat) : Int)) rfl rfl (add_i64 (a := i) (b := 1) (by omega)) (C rfl rfl (G [(0, _), (3, _), (4, _)] rfl ?_))))))
           refine ⟨i + 1, rfl, ⟨((M31.bare.bare.focus 1 rfl).take 1), ?_⟩, ?_⟩
           · omega
           · simp only []; omega
         ·
          refine WS.opV (.bool true) rfl rfl rfl (C rfl rfl (D rfl (D rfl (D rfl (D rfl (D rfl (D rfl (D rfl (D rfl ?_)))))))))
          refine D rfl (D rfl (C rfl rfl (C rfl rfl (D rfl (D rfl (D rfl (D rfl (D rfl (D rfl ?_)))))))))
          refine D rfl (C rfl rfl (G [(0, _), (3, _), (4, _), (92, _)] rfl ?_))
          refine WC.condT rfl (U (X (C rfl rfl (G [(2, _)] rfl ?_))))
          refine WC.ret (⟨[_], (res_tmp rfl res_nil), ?_⟩)
          exfalso
          first
          | (simp only [hg] at *; done)
          | (simp only [hg] at *; contradiction)
          | (simp only [hg] at e81; exact e81 rfl)
          | (simp only [hg, zeroV] at e90; exact e90 rfl)
          | (simp only [hg] at e120; exact e120 rfl)
          | exact e137 (srt_get (made_inv l).1.2 (by omega) hy129 hy105)
       ·
        have hg := last_none hL (by omega)
        refine C rfl rfl (D rfl (D rfl (D rfl (D rfl (D rfl (D rfl (C rfl rfl ?_)))))))
        cases hb2 : (getV (madeL l).flatten yi.ky).2
        ·
         refine WS.opV (.bool false) rfl rfl rfl (C rfl rfl (C rfl rfl (C rfl rfl (D rfl (D rfl (D rfl (D rfl (D rfl (D rfl ?_)))))))))
         refine D rfl (C rfl rfl (C rfl rfl (C rfl rfl (C rfl rfl (WS.opV (.bool true) rfl rfl rfl (C rfl rfl (C rfl (op_lds [_, _, _] (M31.at 0 rfl) rfl (J rfl) rfl) (WS.opV (.agg #[(.string (bs ([]))), (.int .u64 (0 : Int)), (.int .u64 (0 : Int))]) rfl rfl rfl ?_))))))))
         refine WS.eqqDn (p := ((getV (madeL l).flatten yi.ky).1).val = [] ∧ (((getV (madeL l).flatten yi.ky).1).ver).toNat = 0 ∧ (((getV (madeL l).flatten yi.ky).1).lea).toNat = 0) rfl rfl rfl (by show some _ = _; simp only [int_beq, int_beq0, str_beq, bool_beq, Bool.decide_and, Bool.and_true]) (fun e90 => ?_) (fun e90 => ?_)
         ·
          refine C rfl rfl (C rfl rfl (G [(0, _), (3, _), (4, _), (92, _)] rfl ?_))
          refine WC.condT rfl (U (X (C rfl rfl (G [(2, _)] rfl ?_))))
          refine WC.ret (⟨[_], (res_tmp rfl res_nil), ?_⟩)
          exfalso
          first
          | (simp only [hg] at *; done)
          | (simp only [hg] at *; contradiction)
          | (simp only [hg] at e81; exact e81 rfl)
          | (simp only [hg, zeroV] at e90; exact e90 rfl)
          | (simp only [hg] at e120; exact e120 rfl)
          | exact e137 (srt_get (made_inv l).1.2 (by omega) hy129 hy105)
         ·
          refine C rfl rfl (C rfl rfl (G [(0, _), (3, _), (4, _), (92, _)] rfl ?_))
          refine WC.condF rfl (WC.skip (X (C rfl rfl (WS.opV (.int .i64 (((i + 1) : Nat) : Int)) rfl rfl (add_i64 (a := i) (b := 1) (by omega)) (C rfl rfl (G [(0, _), (3, _), (4, _)] rfl ?_))))))
          refine ⟨i + 1, rfl, ⟨((M31.bare.bare.focus 1 rfl).take 1), ?_⟩, ?_⟩
          · omega
          · simp only []; omega
        ·
         refine WS.opV (.bool true) rfl rfl rfl (C rfl rfl (D rfl (D rfl (D rfl (D rfl (D rfl (D rfl (D rfl (D rfl ?_)))))))))
         refine D rfl (D rfl (C rfl rfl (C rfl rfl (D rfl (D rfl (D rfl (D rfl (D rfl (D rfl ?_)))))))))
         refine D rfl (C rfl rfl (G [(0, _), (3, _), (4, _), (92, _)] rfl ?_))
         refine WC.condT rfl (U (X (C rfl rfl (G [(2, _)] rfl ?_))))
         refine WC.ret (⟨[_], (res_tmp rfl res_nil), ?_⟩)
         exfalso
         first
         | (simp only [hg] at *; done)
         | (simp only [hg] at *; contradiction)
         | (simp only [hg] at e81; exact e81 rfl)
         | (simp only [hg, zeroV] at e90; exact e90 rfl)
         | (simp only [hg] at e120; exact e120 rfl)
         | exact e137 (srt_get (made_inv l).1.2 (by omega) hy129 hy105)
    ·
     refine G [(0, _), (3, _), (4, _), (21, _)] rfl ?_
     refine WC.condF rfl (WC.exit ?_)
     refine U (X (C rfl rfl ?_))
     refine WS.call rfl rfl rfl (Range_st (fr := []) (to := []) (most := (1099511627776 : Int)) G8 (M13.bare.focus 0 rfl) (made_inv l).1 (Nat.le_trans (made_inv l).2 (by omega))) ?_
     rintro V36 h32 ⟨S34, O35, M33⟩
     rw [range_all (Nat.le_trans (made_inv l).2 (by omega))] at O35
     obtain ⟨P37, rfl⟩ := Row.Own.shape O35
     replace M33 : Mem _ _ (S34 :: S7 :: []) _ := M33
     refine C rfl rfl (G [(3, _), (9, _)] rfl ?_)
     refine U (U (X (C rfl rfl (G [(3, _), (9, _), (10, _)] rfl ?_))))
     refine WC.block ?_
     have hFl := Nat.le_trans (made_inv l).2 hsml
     obtain ⟨L38, eL40, M39⟩ := Mem.name M33.bare
     refine WC.loop (σ := Nat) (fun (i2) => [(3, (.pointer (some ⟨p17, 0, none⟩))), (9, (.slice P37 ((madeL l).flatten).length (2 * ((madeL l).flatten).length))), (10, (.int .i64 ((i2 : Nat) : Int)))]) (fun (i2) hh => Mem h hh (L38) [] ∧ i2 ≤ (madeL l).flatten.length) (fun (i2) => (madeL l).flatten.length - i2) (0) rfl ⟨M39, ?_⟩ ?_
     · omega
     ·rintro i2 h41 ⟨M42, hi2⟩
      replace eL40 := eL40.symm; subst eL40
      refine WC.env [(3, _), (9, _), (10, _)] rfl ?_
      refine U (U (X (C rfl rfl (C rfl rfl (C rfl (op_lenVO O35 rfl) ?_)))))
      refine WS.lssN (a := i2) (b := ((madeL l).flatten).length) rfl rfl rfl (fun e98 => ?_) (fun e98 => ?_)
      ·
       refine G [(3, _), (9, _), (10, _), (98, _)] rfl ?_
       refine WC.condT rfl (WC.skip (U (WC.block (U (X (C rfl rfl (C rfl rfl (C rfl rfl ?_))))))))
       obtain ⟨y105, hy105⟩ : ∃ y, ((madeL l).flatten)[i2]? = some y := ⟨_, List.getElem?_eq_getElem (show i2 < ((madeL l).flatten).length by first | omega | (simp only [List.length_drop, List.length_take, List.length_append, List.length_cons, List.length_nil, Y]; omega) | (simp only [List.length_drop, List.length_take, List.length_append, List.length_cons, List.length_nil, Y] at *; omega))⟩
       refine WS.iaVS (Row.Own.sl O35 (Mem.owni M42 0 rfl)) i2 hy105 rfl rfl rfl rfl ?_
       intro b105_ o105_ ha105
       refine C rfl rfl (C rfl (op_ldH rfl (At.ld0 ha105 rfl)) ?_)
       refine WS.call rfl rfl rfl (Get_st (key := y105.ky) G8 (M42.bare.focus 1 rfl) (made_inv l).1 (Nat.le_trans (made_inv l).2 (by omega))) ?_
       rintro _ h43 ⟨rfl, M44⟩
       replace M44 : Mem _ _ (S7 :: S34 :: []) _ := M44
       refine C rfl rfl (C rfl rfl (C rfl rfl ?_))
       refine WS.new M44 rfl ?_
       intro p45 h46 M47
       refine WS.st1 (M47.focus 0 rfl) [_, _, _] [_, _, _] rfl rfl rfl rfl rfl (J rfl) (J rfl) rfl rfl ?_
       intro h48 M49
       replace M49 : Mem _ _ ([(p45, _)] :: S7 :: S34 :: []) _ := M49
       refine C rfl rfl (G [(3, _), (9, _), (10, _), (11, _), (12, _)] rfl ?_)
       refine U (WC.draw M49 [] rfl ?_)
       intro rb50 h51 M52
       have hg := getV_self (made_inv l).1.2 (List.mem_of_getElem? hy105)
       refine C rfl rfl ?_
       cases hb3 : (getV (madeL l).flatten y105.ky).2
       ·
        refine WS.opV (.bool true) rfl rfl rfl (C rfl rfl (D rfl (D rfl (D rfl (D rfl (D rfl (D rfl (D rfl (C rfl rfl ?_)))))))))
        refine C rfl rfl (D rfl (D rfl (D rfl (D rfl (D rfl (D rfl (D rfl (D rfl (D rfl ?_)))))))))
        refine D rfl (D rfl (D rfl (D rfl (D rfl (D rfl (D rfl (C rfl rfl (G [(3, _), (9, _), (10, _), (139, _)] rfl ?_))))))))
        refine WC.condT rfl (U (X (C rfl rfl (G [(2, _)] rfl ?_))))
        refine WC.ret (⟨[_], (res_tmp rfl res_nil), ?_⟩)
        exfalso
        first
        | (simp only [hg] at *; done)
        | (simp only [hg] at *; contradiction)
        | (simp only [hg] at e81; exact e81 rfl)
        | (simp only [hg, zeroV] at e90; exact e90 rfl)
        | (simp only [hg] at e120; exact e120 rfl)
        | exact e137 (srt_get (made_inv l).1.2 (by omega) hy129 hy105)
       ·
        refine WS.opV (.bool false) rfl rfl rfl (C rfl rfl (C rfl (op_lds [_, _, _] (M52.at 0 rfl) rfl (J rfl) rfl) (C rfl rfl (C rfl rfl ?_))))
        refine WS.iaVS (Row.Own.sl O35 (Mem.owni M52 2 rfl)) i2 hy105 rfl rfl rfl rfl ?_
        intro b117_ o117_ ha117
        refine C rfl rfl (C rfl (op_ldN rfl (At.ldsub ha117 (cs2 := [_, _, _]) rfl (J rfl))) ?_)
        refine WS.eqqDn (p := ((getV (madeL l).flatten y105.ky).1).val = y105.va ∧ (((getV (madeL l).flatten y105.ky).1).ver).toNat = (y105.vn).toNat ∧ (((getV (madeL l).flatten y105.ky).1).lea).toNat = (y105.ls).toNat) rfl rfl rfl (by show some _ = _; simp only [int_beq, int_beq0, str_beq, bool_beq, Bool.decide_and, Bool.and_true]) (fun e120 => ?_) (fun e120 => ?_)
        ·
         refine C rfl rfl (C rfl rfl (D rfl (D rfl (D rfl (D rfl (D rfl (D rfl (D rfl (D rfl ?_)))))))))
         refine D rfl (D rfl (D rfl (D rfl (D rfl (D rfl (D rfl (D rfl (C rfl rfl (G [(3, _), (9, _), (10, _), (139, _)] rfl ?_)))))))))
         refine WC.condT rfl (U (X (C rfl rfl (G [(2, _)] rfl ?_))))
         refine WC.ret (⟨[_], (res_tmp rfl res_nil), ?_⟩)
         exfalso
         first
         | (simp only [hg] at *; done)
         | (simp only [hg] at *; contradiction)
         | (simp only [hg] at e81; exact e81 rfl)
         | (simp only [hg, zeroV] at e90; exact e90 rfl)
         | (simp only [hg] at e120; exact e120 rfl)
         | exact e137 (srt_get (made_inv l).1.2 (by omega) hy129 hy105)
        ·
         refine C rfl rfl (C rfl rfl (C rfl rfl ?_))
         refine WS.gtrN (a := i2) (b := 0) rfl rfl rfl (fun e124 => ?_) (fun e124 => ?_)
         ·
          refine C rfl rfl (C rfl rfl (C rfl rfl (WS.opV (.int .i64 (((i2 - 1) : Nat) : Int)) rfl rfl (sub_i64 (a := i2) (b := 1) (by omega)) ?_)))
          obtain ⟨y129, hy129⟩ : ∃ y, ((madeL l).flatten)[(i2 - 1)]? = some y := ⟨_, List.getElem?_eq_getElem (show (i2 - 1) < ((madeL l).flatten).length by first | omega | (simp only [List.length_drop, List.length_take, List.length_append, List.length_cons, List.length_nil, Y]; omega) | (simp only [List.length_drop, List.length_take, List.length_append, List.length_cons, List.length_nil, Y] at *; omega))⟩
          refine WS.iaVS (Row.Own.sl O35 (Mem.owni M52 2 rfl)) (i2 - 1) hy129 rfl rfl rfl rfl ?_
          intro b129_ o129_ ha129
          refine C rfl rfl (C rfl (op_ldH rfl (At.ld0 ha129 rfl)) (C rfl rfl (C rfl rfl ?_)))
          refine WS.iaVS (Row.Own.sl O35 (Mem.owni M52 2 rfl)) i2 hy105 rfl rfl rfl rfl ?_
          intro b134_ o134_ ha134
          refine C rfl rfl (C rfl (op_ldH rfl (At.ld0 ha134 rfl)) ?_)
          refine WS.sgeq (l := y129.ky) (m := y105.ky) rfl rfl rfl (fun e137 => ?_) (fun e137 => ?_)
          ·
           refine C rfl rfl (C rfl rfl (G [(3, _), (9, _), (10, _), (139, _)] rfl ?_))
           refine WC.condT rfl (U (X (C rfl rfl (G [(2, _)] rfl ?_))))
           refine WC.ret (⟨[_], (res_tmp rfl res_nil), ?_⟩)
           exfalso
           first
           | (simp only [hg] at *; done)
           | (simp only [hg] at *; contradiction)
           | (simp only [hg] at e81; exact e81 rfl)
           | (simp only [hg, zeroV] at e90; exact e90 rfl)
           | (simp only [hg] at e120; exact e120 rfl)
           | exact e137 (srt_get (made_inv l).1.2 (by omega) hy129 hy105)
          ·
           refine C rfl rfl (C rfl rfl (G [(3, _), (9, _), (10, _), (139, _)] rfl ?_))
           refine WC.condF rfl (WC.skip (X (C rfl rfl (WS.opV (.int .i64 (((i2 + 1) : Nat) : Int)) rfl rfl (add_i64 (a := i2) (b := 1) (by omega)) (C rfl rfl (G [(3, _), (9, _), (10, _)] rfl ?_))))))
           refine ⟨i2 + 1, rfl, ⟨(((M52.bare.bare.focus 1 rfl).focus 2 rfl).take 2), ?_⟩, ?_⟩
           · omega
           · simp only []; omega
         ·
          refine C rfl rfl (D rfl (D rfl (D rfl (D rfl (D rfl (D rfl (D rfl (D rfl (D rfl ?_)))))))))
          refine D rfl (D rfl (D rfl (C rfl rfl (C rfl rfl (G [(3, _), (9, _), (10, _), (139, _)] rfl ?_)))))
          refine WC.condF rfl (WC.skip (X (C rfl rfl (WS.opV (.int .i64 (((i2 + 1) : Nat) : Int)) rfl rfl (add_i64 (a := i2) (b := 1) (by omega)) (C rfl rfl (G [(3, _), (9, _), (10, _)] rfl ?_))))))
          refine ⟨i2 + 1, rfl, ⟨(((M52.bare.bare.focus 1 rfl).focus 2 rfl).take 2), ?_⟩, ?_⟩
          · omega
          · simp only []; omega
      ·
       refine G [(3, _), (9, _), (10, _), (98, _)] rfl ?_
       refine WC.condF rfl (WC.exit ?_)
       refine U (X (WS.call rfl rfl rfl (awake15_ran M42.here ) ?_))
       rintro _ h53 ⟨rfl, N54⟩
       have M55 := M42.trans N54
       refine C rfl rfl (G [(2, _)] rfl ?_)
       refine WC.ret (⟨[_], (res_tmp rfl res_nil), ?_⟩)
       rfl
  ·
   refine WC.condT rfl (U (X (WS.call rfl rfl rfl (awake15_ran M3.here ) ?_)))
   rintro _ h56 ⟨rfl, N57⟩
   have M58 := M3.trans N57
   refine C rfl rfl (G [(2, _)] rfl ?_)
   refine WC.ret (⟨[_], (res_tmp rfl res_nil), ?_⟩)
   rfl
end Go.Proofs.Ytfnhhelbegnopaa.Wt
