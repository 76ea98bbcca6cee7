/- The law 'PagesSame' returns true for all arguments: what its proof stands on, part 7. -/
import Derived.Test.YtfnhhelbegnopaaZPagesSame6
import Derived.OpenShut
namespace Go.Proofs.Ytfnhhelbegnopaa.Am
open Go
set_option linter.unusedVariables false
set_option linter.unusedSimpArgs false
abbrev BL := List (Option Blk × Option Am.Loc)
def CompR (r : Rho) (k : Nat) (bl : BL) : Prop := ∀ i p, bl[i]? = some p → r (k + i) = p.2
def CompH (h : H) (k : Nat) (bl : BL) : Prop := ∀ i p, bl[i]? = some p → ∀ B, p.1 = some B → h.get (k + i) = some B
def BlkOK (W : World) (r : Rho) (p : Option Blk × Option Am.Loc) : Prop := ∀ B, p.1 = some B → ∃ L c e fz, p.2 = some L ∧ W.heap[L.b]? = some (.cells c e fz) ∧ L.es = B.es ∧ B.cells.length ≤ L.lim ∧ L.o + L.lim ≤ c.size ∧ B.ro = true ∧
  ∀ (i : Nat) (v : Value), B.cells[i]? = some v → v.oneCell' = true ∧ ∃ v', c[L.o + i]? = some v' ∧ VR r v v'
theorem CompR.left {r : Rho} {k : Nat} {a b : BL} (h : CompR r k (a ++ b)) : CompR r k a := fun i p hp => h i p (by rw [List.getElem?_append_left (List.getElem?_eq_some_iff.1 hp).1]; exact hp)
theorem CompR.right {r : Rho} {k : Nat} {a b : BL} (h : CompR r k (a ++ b)) : CompR r (k + a.length) b := fun i p hp => by
  have := h (a.length + i) p (by rw [List.getElem?_append_right (by omega), Nat.add_sub_cancel_left]; exact hp)
  rw [← this]; congr 1; omega
theorem CompH.left {r : H} {k : Nat} {a b : BL} (h : CompH r k (a ++ b)) : CompH r k a := fun i p hp => h i p (by rw [List.getElem?_append_left (List.getElem?_eq_some_iff.1 hp).1]; exact hp)
theorem CompH.right {r : H} {k : Nat} {a b : BL} (h : CompH r k (a ++ b)) : CompH r (k + a.length) b := fun i p hp B hB => by
  have := h (a.length + i) p (by rw [List.getElem?_append_right (by omega), Nat.add_sub_cancel_left]; exact hp) B hB
  rw [← this]; congr 1; omega
abbrev Lay (α : Type) := H → α → List Value → Prop
def Given (W : World) (k n : Nat) {α : Type} (L : Lay α) (ok : α → Prop) (cs : List Value) : Prop :=
  ∃ (a : α) (bl : BL) (acs : List Value), acs.length = n ∧ acs.all (·.oneCell') = true ∧ (∀ r, CompR r k bl → (∀ p ∈ bl, BlkOK W r p) ∧ VL r acs cs) ∧ (∀ h, CompH h k bl → L h a acs) ∧ ok a
def OpensL (P : Program) (t : TypeId) {α : Type} (L : Lay α) (n : Nat) (ok : α → Prop) : Prop :=
  P.cellsOf t = n ∧ ∀ {Hh : Type} (enc : TypeId × Value → Hh) (W : World) (held : Bool) (fuel : Nat) (cs : List Value) (x : DataW Hh × List MemPlace), DataW.trod enc P W 0 (fun _ => true) held fuel t cs = some x → ∀ k, Given W k n L ok cs
section
variable {P : Program} {t e : TypeId}
theorem given_plain {W : World} {k : Nat} {α : Type} {L : Lay α} {ok : α → Prop} {v : Value} (a : α) (hp : plain1 v = true) (hL : ∀ h, L h a [v]) (ho : ok a) : Given W k 1 L ok [v] :=
  ⟨a, [], [v], rfl, by simp [oneCell_of_plain1 hp], fun r _ => ⟨fun p hp => by simp at hp, VL.cons (VR.of_plain1 hp) (VL.nil r)⟩, fun h _ => hL h, ho⟩
def layU8 : Lay UInt8 := fun _ a cs => cs = [.int .u8 ((a.toNat : Nat) : Int)]
def layU64 : Lay UInt64 := fun _ a cs => cs = [.int .u64 ((a.toNat : Nat) : Int)]
def layI64 : Lay Int64 := fun _ a cs => cs = [.int .i64 a.toInt]
def layStr : Lay (List UInt8) := fun _ a cs => cs = [.string (bs a)]
theorem OpensL.u8 (ht : P.underlying t = some (.int .u8)) (hc : P.cellsOf t = 1) : OpensL P t layU8 1 (fun _ => True) := by
  refine ⟨hc, fun enc W held fuel cs x h k => ?_⟩
  obtain ⟨n, rfl, _, hw⟩ := DataW.trod_int ht h
  have hw : 0 ≤ n ∧ n ≤ 255 := by simpa [Lit.wf, IntKind.min, IntKind.max, IntKind.signed, IntKind.bits] using hw
  have e : n = (((UInt8.ofNat n.toNat).toNat : Nat) : Int) := by rw [UInt8.toNat_ofNat']; omega
  exact given_plain (UInt8.ofNat n.toNat) rfl (fun _ => by show _ = _; rw [← e]) trivial
theorem OpensL.u64 (ht : P.underlying t = some (.int .u64)) (hc : P.cellsOf t = 1) : OpensL P t layU64 1 (fun _ => True) := by
  refine ⟨hc, fun enc W held fuel cs x h k => ?_⟩
  obtain ⟨n, rfl, _, hw⟩ := DataW.trod_int ht h
  have hw : 0 ≤ n ∧ n ≤ 18446744073709551615 := by simpa [Lit.wf, IntKind.min, IntKind.max, IntKind.signed, IntKind.bits] using hw
  have e : n = (((UInt64.ofNat n.toNat).toNat : Nat) : Int) := by rw [UInt64.toNat_ofNat']; omega
  exact given_plain (UInt64.ofNat n.toNat) rfl (fun _ => by show _ = _; rw [← e]) trivial
theorem OpensL.i64 (ht : P.underlying t = some (.int .i64)) (hc : P.cellsOf t = 1) : OpensL P t layI64 1 (fun _ => True) := by
  refine ⟨hc, fun enc W held fuel cs x h k => ?_⟩
  obtain ⟨n, rfl, _, hw⟩ := DataW.trod_int ht h
  have hw : -9223372036854775808 ≤ n ∧ n ≤ 9223372036854775807 := by simpa [Lit.wf, IntKind.min, IntKind.max, IntKind.signed, IntKind.bits] using hw
  have e : (Int64.ofInt n).toInt = n := Int64.toInt_ofInt_of_le (by omega) (by omega)
  exact given_plain (Int64.ofInt n) rfl (fun _ => by show _ = _; rw [e]) trivial
theorem OpensL.string (ht : P.underlying t = some .string) (hc : P.cellsOf t = 1) : OpensL P t layStr 1 (fun a => a.length < 9223372036854775808) := by
  refine ⟨hc, fun enc W held fuel cs x h k => ?_⟩
  obtain ⟨s, rfl, _, hs⟩ := DataW.trod_string ht h
  obtain ⟨l, rfl⟩ := bs_of s
  rw [bs_size] at hs
  exact given_plain l rfl (fun _ => rfl) (Nat.lt_succ_of_le hs)
inductive SlL {α : Type} (L : Lay α) (n : Nat) (h : H) : Value → List α → Prop
  | nil : SlL L n h (.slice none 0 0) []
  | emp (a : Addr) (c : Nat) : SlL L n h (.slice (some a) 0 c) []
  | row (b c : Nat) (l : List α) (cells : List Value) (hg : h.get b = some ⟨cells, n, true⟩) (hl : cells.length = l.length * n) (he : ∀ (j : Nat) (y : α), l[j]? = some y → L h y ((cells.drop (j * n)).take n)) : SlL L n h (.slice (some ⟨b, 0, none⟩) l.length c) l
def laySl {α : Type} (L : Lay α) (n : Nat) : Lay (List α) := fun h l cs => ∃ V, cs = [V] ∧ SlL L n h V l
theorem chunk_append {α : Type} {a b : List α} {n q j : Nat} (ha : a.length = q * n) (hj : j < q) : ((a ++ b).drop (j * n)).take n = (a.drop (j * n)).take n := by
  have : (j + 1) * n ≤ q * n := Nat.mul_le_mul_right n (by omega)
  rw [Nat.add_mul, Nat.one_mul] at this
  rw [List.drop_append_of_le_length (by omega), List.take_append_of_le_length (by rw [List.length_drop]; omega)]
theorem chunk_last {α : Type} {a b : List α} {n q : Nat} (ha : a.length = q * n) (hb : b.length = n) : ((a ++ b).drop (q * n)).take n = b := by
  rw [← ha, List.drop_left, List.take_of_length_le (by omega)]
theorem OpensL.slice {α : Type} {L : Lay α} {n : Nat} {ok : α → Prop} (ht : P.underlying t = some (.slice e)) (hct : P.cellsOf t = 1) (hn : 0 < n) (h : OpensL P e L n ok) : OpensL P t (laySl L n) 1 (fun l => l.length < 9223372036854775808 ∧ ∀ x ∈ l, ok x) := by
  obtain ⟨hc, h⟩ := h
  refine ⟨hct, fun {Hh} enc W held fuel cs x hx k => ?_⟩
  rcases Go.Deep.open_slice ht hx with ⟨rfl, _⟩ | ⟨a, len, cap, m, fu, D, Pl, rfl, hb, hl, hm, hmm, _, hel⟩
  · exact ⟨[], [], [.slice none 0 0], rfl, rfl, fun r _ => ⟨fun p hp => by simp at hp, VL.cons .sl0 (VL.nil r)⟩, fun h _ => ⟨_, rfl, .nil⟩, by simp, by simp⟩
  have hmc : m = cap := by simpa using hmm
  subst hmc
  have hmx : m ≤ 9223372036854775807 := hm
  by_cases hlen : len = 0
  · subst hlen
    by_cases hcap : m = 0
    · subst hcap
      exact ⟨[], [], [.slice (some ⟨0, 0, none⟩) 0 1], rfl, rfl, fun r _ => ⟨fun p hp => by simp at hp, VL.cons (.sl (.inr rfl) (Nat.le_refl _) (by omega) (fun _ => rfl) (fun q => by omega)) (VL.nil r)⟩, fun h _ => ⟨_, rfl, .emp _ _⟩, by simp, by simp⟩
    ·
      obtain ⟨cs0, g0, _⟩ := hel 0 (by omega)
      have g4 := (World.cells?_some g0).2.2 0 (by rw [hc]; exact hn)
      have hl0 := (World.cells?_some g0).2.1
      obtain ⟨v0, hv0⟩ : ∃ v, cs0[0]? = some v := ⟨_, List.getElem?_eq_getElem (by rw [hl0, hc]; exact hn)⟩
      rw [hv0] at g4
      obtain ⟨hs, _⟩ := cell_heap g4
      have hspot : a.spot = none := by
        have : (a.add (0 * P.cellsOf e)).add 0 = a := by rw [Nat.zero_mul]; rfl
        rw [this] at hs; exact hs
      refine ⟨[], [(none, some ⟨a.block, a.off, 0, n⟩)], [.slice (some ⟨k, 0, none⟩) 0 (2 * m + 1)], rfl, rfl, fun r hr => ⟨fun p hp B hB => (by simp at hp; subst hp; cases hB), VL.cons (.sl (.inl ⟨rfl, _, hr 0 _ rfl, ?_⟩) (by omega) (by omega) (fun _ => by omega) (fun q => by omega)) (VL.nil r)⟩, fun h _ => ⟨_, rfl, .emp _ _⟩, by simp, by simp⟩
      obtain ⟨ab, ao, asp⟩ := a
      simp only at hspot; subst hspot; rfl
  have hq : ∀ q, q ≤ len → ∃ (l : List α) (bl : BL) (acs : List Value), l.length = q ∧ acs.length = q * n ∧ acs.all (·.oneCell') = true ∧ (∀ r, CompR r (k + 1) bl → (∀ p ∈ bl, BlkOK W r p) ∧ ∀ j, j < q → ∃ cs', W.cells? 0 (a.add (j * n)) n = some cs' ∧ VL r ((acs.drop (j * n)).take n) cs') ∧
      (∀ h, CompH h (k + 1) bl → ∀ (j : Nat) (y : α), l[j]? = some y → L h y ((acs.drop (j * n)).take n)) ∧ ∀ x ∈ l, ok x := by
    intro q
    induction q with
    | zero => intro _; exact ⟨[], [], [], rfl, by simp, rfl, fun r _ => ⟨fun p hp => by simp at hp, fun j hj => by omega⟩, fun h _ j y hj => by simp at hj, by simp⟩
    | succ q ih =>
      intro hq2
      obtain ⟨l, bl, acs, l1, l2, l3, l4, l5, l6⟩ := ih (by omega)
      obtain ⟨cs', g1, g2⟩ := hel q (by omega)
      rw [hc] at g1
      obtain ⟨y, bl2, acs2, m1, m2, m3, m4, m5⟩ := h enc W held fu cs' _ g2 (k + 1 + bl.length)
      refine ⟨l ++ [y], bl ++ bl2, acs ++ acs2, by simp [l1], by rw [List.length_append, l2, m1, Nat.add_mul, Nat.one_mul], by rw [List.all_append, l3, m2]; rfl, fun r hr => ⟨fun p hp => ?_, fun j hj => ?_⟩, fun h hh j z hj => ?_, fun z hz => ?_⟩
      · rcases List.mem_append.1 hp with hp | hp
        · exact (l4 r hr.left).1 p hp
        · exact (m3 r hr.right).1 p hp
      · by_cases hjq : j < q
        · rw [chunk_append l2 hjq]; exact (l4 r hr.left).2 j hjq
        · have : j = q := by omega
          subst this
          rw [chunk_last l2 m1]; exact ⟨cs', g1, (m3 r hr.right).2⟩
      · have hj2 := (List.getElem?_eq_some_iff.1 hj).1
        rw [List.length_append, l1] at hj2; simp at hj2
        by_cases hjq : j < q
        · rw [List.getElem?_append_left (by omega)] at hj
          rw [chunk_append l2 hjq]; exact l5 h hh.left j z hj
        · have : j = q := by omega
          subst this
          rw [List.getElem?_append_right (by omega), l1, Nat.sub_self] at hj
          simp at hj; subst hj
          rw [chunk_last l2 m1]; exact m4 h hh.right
      · rcases List.mem_append.1 hz with hz | hz
        · exact l6 z hz
        · rw [List.mem_singleton.1 hz]; exact m5
  obtain ⟨l, bl, acs, l1, l2, l3, l4, l5, l6⟩ := hq len (Nat.le_refl _)
  obtain ⟨cs0, g0, _⟩ := hel 0 (by omega)
  have g4 := (World.cells?_some g0).2.2 0 (by rw [hc]; exact hn)
  have hl0 := (World.cells?_some g0).2.1
  obtain ⟨v0, hv0⟩ : ∃ v, cs0[0]? = some v := ⟨_, List.getElem?_eq_getElem (by rw [hl0, hc]; exact hn)⟩
  rw [hv0] at g4
  obtain ⟨hs, c, el, fz, hh, hcell⟩ := cell_heap g4
  rw [(add_block _ _).1, (add_block _ _).1] at hh
  have hspot : a.spot = none := by
    have : (a.add (0 * P.cellsOf e)).add 0 = a := by rw [Nat.zero_mul]; rfl
    rw [this] at hs; exact hs
  have all : ∀ (j : Nat) (cs' : List Value), W.cells? 0 (a.add (j * n)) n = some cs' → ∀ (i : Nat) (v : Value), cs'[i]? = some v → c[a.off + (j * n + i)]? = some v := fun j cs' hy i v hv => by
    obtain ⟨_, q2, q3⟩ := World.cells?_some hy
    have hi : i < n := by have := (List.getElem?_eq_some_iff.1 hv).1; omega
    have q4 := q3 i hi
    rw [hv] at q4
    obtain ⟨_, c2, el2, fz2, hh2, hcell2⟩ := cell_heap q4
    rw [(add_block _ _).1, (add_block _ _).1, hh] at hh2
    cases hh2
    rw [(add_block _ _).2, (add_block _ _).2] at hcell2
    rw [← hcell2]; congr 1; omega
  have hsz : a.off + len * n ≤ c.size := by
    obtain ⟨csl, e1, _⟩ := hel (len - 1) (by omega)
    rw [hc] at e1
    have q2 := (World.cells?_some e1).2.1
    have hv := all (len - 1) csl e1 (n - 1) _ (List.getElem?_eq_getElem (by omega))
    have := (Array.getElem?_eq_some_iff.1 hv).1
    have e2 : (len - 1) * n + n = len * n := by
      obtain ⟨q, rfl⟩ : ∃ q, len = q + 1 := ⟨len - 1, by omega⟩
      simp only [Nat.add_sub_cancel, Nat.add_mul, Nat.one_mul]
    omega
  refine ⟨l, (some ⟨acs, n, true⟩, some ⟨a.block, a.off, len * n, n⟩) :: bl, [.slice (some ⟨k, 0, none⟩) len (2 * m + 1)], rfl, rfl, fun r hr => ?_, fun h hH => ?_, by omega, l6⟩
  · have hr0 : r k = some ⟨a.block, a.off, len * n, n⟩ := hr 0 _ rfl
    have hr1 : CompR r (k + 1) bl := fun i p hp => by rw [Nat.add_assoc, Nat.add_comm 1 i]; exact hr (i + 1) p hp
    obtain ⟨r1, r2⟩ := l4 r hr1
    refine ⟨fun p hp => ?_, VL.cons (.sl (.inl ⟨rfl, _, hr0, ?_⟩) hl (by omega) (fun _ => by omega) (fun q => by omega)) (VL.nil r)⟩
    · rcases List.mem_cons.1 hp with rfl | hp
      · intro B hB
        cases hB
        refine ⟨_, c, el, fz, rfl, hh, rfl, by show acs.length ≤ len * n; omega, hsz, rfl, fun i v hv => ⟨List.all_eq_true.1 l3 v (List.mem_of_getElem? hv), ?_⟩⟩
        have hi := (List.getElem?_eq_some_iff.1 hv).1
        have hv : acs[i]? = some v := hv
        have hi : i < acs.length := hi
        have hj : i / n < len := Nat.div_lt_of_lt_mul (by rw [Nat.mul_comm]; omega)
        have he : i = i / n * n + i % n := by rw [Nat.mul_comm]; exact (Nat.div_add_mod i n).symm
        obtain ⟨cs', s1, s2⟩ := r2 (i / n) hj
        have hk : ((acs.drop (i / n * n)).take n)[i % n]? = some v := by
          rw [List.getElem?_take, if_pos (Nat.mod_lt _ hn), List.getElem?_drop, ← he]; exact hv
        obtain ⟨v', t1, t2⟩ := s2.get hk
        refine ⟨v', ?_, t2⟩
        have := all (i / n) cs' s1 (i % n) v' t1
        rw [← he] at this; exact this
      · exact r1 p hp
    · obtain ⟨ab, ao, asp⟩ := a
      simp only at hspot; subst hspot; rfl
  · have h0 : h.get k = some ⟨acs, n, true⟩ := hH 0 _ rfl _ rfl
    have h1 : CompH h (k + 1) bl := fun i p hp B hB => by rw [Nat.add_assoc, Nat.add_comm 1 i]; exact hH (i + 1) p hp B hB
    refine ⟨_, rfl, ?_⟩
    have := SlL.row (L := L) (n := n) (h := h) k (2 * m + 1) l acs h0 (by rw [l2, l1]) (l5 h h1)
    rw [l1] at this; exact this
def OpensLF (P : Program) (fs : List (TypeId × Nat)) (o : Nat) {α : Type} (L : Lay α) (n : Nat) (ok : α → Prop) : Prop :=
  ∀ {Hh : Type} (enc : TypeId × Value → Hh) (W : World) (held : Bool) (fuel : Nat) (cs : List Value), cs.length = n →
    (∀ f ∈ fs, ∃ x, DataW.trod enc P W 0 (fun _ => true) held fuel f.1 ((cs.drop (f.2 - o)).take (P.cellsOf f.1)) = some x) → ∀ k, Given W k n L ok cs
theorem OpensLF.one {α : Type} {L : Lay α} {n : Nat} {ok : α → Prop} {o : Nat} (h : OpensL P t L n ok) : OpensLF P [(t, o)] o L n ok := by
  intro Hh enc W held fuel cs hl hf
  obtain ⟨x, hx⟩ := hf (t, o) (by simp)
  simp only [Nat.sub_self, List.drop_zero] at hx
  rw [List.take_of_length_le (by rw [h.1]; omega)] at hx
  exact h.2 enc W held fuel cs x hx
def layP {α β : Type} (L : Lay α) (M : Lay β) : Lay (α × β) := fun h x cs => ∃ c1 c2, cs = c1 ++ c2 ∧ L h x.1 c1 ∧ M h x.2 c2
theorem OpensLF.cons {α β : Type} {L : Lay α} {M : Lay β} {n m : Nat} {ok : α → Prop} {ok' : β → Prop} {o o' : Nat} {fs : List (TypeId × Nat)} (ho : o' = o + n) (hfs : ∀ f ∈ fs, o' ≤ f.2) (h : OpensL P t L n ok) (hr : OpensLF P fs o' M m ok') :
    OpensLF P ((t, o) :: fs) o (layP L M) (n + m) (fun x => ok x.1 ∧ ok' x.2) := by
  intro Hh enc W held fuel cs hl hf k
  obtain ⟨x, hx⟩ := hf (t, o) (by simp)
  simp only [Nat.sub_self, List.drop_zero] at hx
  rw [h.1] at hx
  obtain ⟨a, bl, acs, a1, a2, a3, a4, a5⟩ := h.2 enc W held fuel _ x hx k
  obtain ⟨b, bl2, acs2, b1, b2, b3, b4, b5⟩ := hr enc W held fuel (cs.drop n) (by rw [List.length_drop]; omega) (fun f hm => by
    obtain ⟨y, hy⟩ := hf f (by simp [hm])
    have := hfs f hm
    refine ⟨y, ?_⟩
    rw [List.drop_drop, show n + (f.2 - o') = f.2 - o from by omega]
    exact hy) (k + bl.length)
  refine ⟨(a, b), bl ++ bl2, acs ++ acs2, by rw [List.length_append, a1, b1], by rw [List.all_append, a2, b2]; rfl, fun r hr2 => ⟨fun p hp => ?_, ?_⟩, fun h hh => ⟨acs, acs2, rfl, a4 h hh.left, b4 h hh.right⟩, a5, b5⟩
  · rcases List.mem_append.1 hp with hp | hp
    · exact (a3 r hr2.left).1 p hp
    · exact (b3 r hr2.right).1 p hp
  · have := (a3 r hr2.left).2.append (b3 r hr2.right).2
    rwa [List.take_append_drop] at this
def fieldsOf (P : Program) (t : TypeId) : Option (List (TypeId × Nat)) :=
  match P.underlying t with
  | some (.struct fs) => some (fs.toList.map fun f => (f.type, f.offset))
  | _ => none
theorem OpensL.struct {α β : Type} {L : Lay β} {M : Lay α} {n : Nat} {ok : β → Prop} {ok' : α → Prop} {fs : List (TypeId × Nat)} (mk : β → α) (hM : ∀ h b cs, L h b cs → M h (mk b) cs) (hok : ∀ b, ok b → ok' (mk b)) (hfs : fieldsOf P t = some fs) (hc : P.cellsOf t = n) (h : OpensLF P fs 0 L n ok) : OpensL P t M n ok' := by
  refine ⟨hc, fun {Hh} enc W held fuel cs x hx k => ?_⟩
  unfold fieldsOf at hfs
  cases hu : P.underlying t with
  | none => rw [hu] at hfs; cases hfs
  | some u =>
    rw [hu] at hfs
    cases u with
    | struct fa =>
      simp only [Option.some.injEq] at hfs
      obtain ⟨xs, m, _, _, hl, hlen, hget⟩ := DataW.trod_struct hu hx
      obtain ⟨a, bl, acs, a1, a2, a3, a4, a5⟩ := h enc W held m cs (by rw [hl, hc]) (fun g hg => by
        rw [← hfs] at hg
        obtain ⟨fl, hfl, rfl⟩ := List.mem_map.1 hg
        obtain ⟨i, hi, hgi⟩ := List.mem_iff_getElem.1 hfl
        have hia : i < fa.size := by simpa using hi
        have h1 : fa[i]? = some fl := by
          rw [Array.getElem?_eq_getElem hia]
          simpa using hgi
        have h2 := hget i fl h1
        have hix : i < xs.length := by omega
        rw [List.getElem?_eq_getElem hix] at h2
        exact ⟨xs[i], by simpa using h2⟩) k
      exact ⟨mk a, bl, acs, a1, a2, a3, fun h hh => hM h a acs (a4 h hh), hok a a5⟩
    | _ => cases hfs
end
theorem SlL.sl {α : Type} {K : Row α} {h : H} {V : Value} {l : List α} (A : SlL (fun _ y cs => cs = K.cells y) K.n h V l) : K.Sl h V l := by
  cases A with
  | nil => exact .nil
  | emp a c => exact .emp a c
  | row b c l cells hg hl he =>
    have e : cells = K.flat l := by
      apply List.ext_getElem?
      intro i
      by_cases hi : i < cells.length
      · have hj : i / K.n < l.length := Nat.div_lt_of_lt_mul (by rw [Nat.mul_comm]; omega)
        have hi2 : i = i / K.n * K.n + i % K.n := by rw [Nat.mul_comm]; exact (Nat.div_add_mod i K.n).symm
        have h1 := he (i / K.n) _ (List.getElem?_eq_getElem hj)
        have h2 := K.flat_get l (i / K.n) _ (List.getElem?_eq_getElem hj)
        have h3 := congrArg (fun z : List Value => z[i % K.n]?) (h1.trans h2.symm)
        simp only [List.getElem?_take, if_pos (Nat.mod_lt i K.pos), List.getElem?_drop] at h3
        rw [← hi2] at h3; exact h3
      · rw [List.getElem?_eq_none (by omega), List.getElem?_eq_none (by rw [K.flat_length]; omega)]
    subst e
    exact .own hg
theorem rel_bl {W : World} {bl : BL} (hb : ∀ p ∈ bl, BlkOK W (rhoL (bl.map Prod.snd)) p) : Rel W.heap.size (rhoL (bl.map Prod.snd)) (args (bl.map Prod.fst)) W := by
  have pick : ∀ k B, (args (bl.map Prod.fst)).get k = some B → ∃ p, bl[k]? = some p ∧ p.1 = some B := fun k B e => by
    rw [args_get, List.getElem?_map] at e
    cases ho : bl[k]? with
    | none => rw [ho] at e; cases e
    | some p => rw [ho] at e; exact ⟨p, rfl, by simpa using e⟩
  have loc : ∀ k p, bl[k]? = some p → rhoL (bl.map Prod.snd) k = p.2 := fun k p e => by simp [rhoL, List.getElem?_map, e]
  refine ⟨fun k B e => ?_, fun n m Bn Bm L M e1 e2 hne hro => ?_, fun n hn => ?_, Nat.le_refl _, fun n B L e hro hL => ?_, fun n B L c el fz q1 q2 => ?_⟩
  · obtain ⟨p, h1, h2⟩ := pick k B e
    obtain ⟨L, c, el, fz, g1, g2, g3, g4, g5, g6, g7⟩ := hb p (List.mem_of_getElem? h1) B h2
    exact ⟨L, c, el, fz, by rw [loc k p h1, g1], g2, g3, g4, g5, fun q => by (rw [g6] at q; cases q), g7⟩
  · obtain ⟨p, h1, h2⟩ := pick n Bn e1
    obtain ⟨_, _, _, _, _, _, _, _, _, g6, _⟩ := hb p (List.mem_of_getElem? h1) Bn h2
    rw [g6] at hro; cases hro
  · rw [args_next, List.length_map] at hn
    simp [rhoL, List.getElem?_eq_none (show bl.length ≤ n by omega)]
  · obtain ⟨p, h1, h2⟩ := pick n B e
    obtain ⟨L', c, el, fz, g1, g2, _⟩ := hb p (List.mem_of_getElem? h1) B h2
    rw [loc n p h1, g1] at hL; cases hL
    exact (Array.getElem?_eq_some_iff.1 g2).1
  · obtain ⟨p, h1, h2⟩ := pick n B q1
    obtain ⟨_, _, _, _, _, _, _, _, _, g6, _⟩ := hb p (List.mem_of_getElem? h1) B h2
    rw [g6] at q2; cases q2
theorem compR_rho (bl : BL) : CompR (rhoL (bl.map Prod.snd)) 0 bl := fun i p hp => by simp [rhoL, List.getElem?_map, hp]
theorem compH_args (bl : BL) : CompH (args (bl.map Prod.fst)) 0 bl := fun i p hp B hB => by
  rw [args_get, List.getElem?_map, Nat.zero_add, hp]; simp [hB]
theorem wf_args (bl : BL) : Mem (args (bl.map Prod.fst)) (args (bl.map Prod.fst)) [] [] := Mem.start fun n B e => by
  rw [args_get] at e; rw [args_next]
  rcases Nat.lt_or_ge n (bl.map Prod.fst).length with q | q
  · exact q
  · rw [List.getElem?_eq_none q] at e; cases e
def GivenA (W : World) (k : Nat) (us us' : List Value) (bl : BL) : Prop := ∀ r, CompR r k bl → (∀ p ∈ bl, BlkOK W r p) ∧ VL r us us'
theorem GivenA.nil {W : World} {k : Nat} : GivenA W k [] [] [] := fun r _ => ⟨fun p hp => by simp at hp, VL.nil r⟩
theorem GivenA.cons {W : World} {k : Nat} {u u' : Value} {us us' : List Value} {bl bl2 : BL} (h1 : ∀ r, CompR r k bl → (∀ p ∈ bl, BlkOK W r p) ∧ VR r u u') (h2 : GivenA W (k + bl.length) us us' bl2) : GivenA W k (u :: us) (u' :: us') (bl ++ bl2) := fun r hr =>
  ⟨fun p hp => (List.mem_append.1 hp).elim ((h1 r hr.left).1 p) ((h2 r hr.right).1 p), VL.cons (h1 r hr.left).2 (h2 r hr.right).2⟩
theorem given_one {W : World} {k : Nat} {bl : BL} {u v : Value} (h : ∀ r, CompR r k bl → (∀ p ∈ bl, BlkOK W r p) ∧ VL r [u] [v]) : ∀ r, CompR r k bl → (∀ p ∈ bl, BlkOK W r p) ∧ VR r u v := fun r hr =>
  ⟨(h r hr).1, (h r hr).2.2 0 u v rfl rfl⟩
theorem one_of {l : List Value} (h : l.length = 1) : ∃ u, l = [u] := by
  match l, h with
  | [u], _ => exact ⟨u, rfl⟩
theorem law_calls {P : Program} {tab : Nat → Option FD} (hD : DrawOK P) (hT : TabOK P tab) {f : Nat} {W : World} {bl : BL} {us us' : List Value} (hb : ∀ r, CompR r 0 bl → (∀ p ∈ bl, BlkOK W r p) ∧ VL r us us')
    (hw : Cll tab f us (args (bl.map Prod.fst)) (fun v _ => v = .bool true)) : Calls P f us'.toArray W fun e W' => e = .returned (.bool true) ∧ Go.RowKit.Below W.heap.size W W' := by
  obtain ⟨v, h2, ⟨n, hr⟩, rfl⟩ := hw
  obtain ⟨b1, b2⟩ := hb _ (compR_rho bl)
  have R := rel_bl b1
  refine (run_table hD hT n f W.heap.size _ _ W us us' _ _ hr b2 R).2.mono fun e W' he => ?_
  obtain ⟨r2, v', rfl, hv, _, F, _⟩ := he
  cases hv
  exact ⟨rfl, F.below R⟩
end Go.Proofs.Ytfnhhelbegnopaa.Am
namespace Go.Proofs.Ytfnhhelbegnopaa.Wt
open Go Go.Proofs.Ytfnhhelbegnopaa.Am Go.Proofs.Ytfnhhelbegnopaa.IrAll
open Go.Proofs.Ytfnhhelbegnopaa.Am.WS renaming op → C
open Go.Proofs.Ytfnhhelbegnopaa.Am.WS renaming nil → D
open Go.Proofs.Ytfnhhelbegnopaa.Am.WC renaming seq → G
open Go.Proofs.Ytfnhhelbegnopaa.Am.WC renaming run → J
open List renaming length_singleton → U
set_option linter.unusedVariables false
set_option linter.unusedSimpArgs false
theorem u64_inj {a b : UInt64} (h : a.toNat = b.toNat) : a = b := UInt64.toNat_inj.1 h
structure AcI where
  d : UInt8
  ky : List UInt8
  to : List UInt8
  va : List UInt8
  vn : UInt64
  ls : UInt64
  mo : Int64
  deriving DecidableEq
def AcI.cells (x : AcI) : List Value := [(.int .u8 (((x.d).toNat : Nat) : Int)), (.string (bs x.ky)), (.string (bs x.to)), (.string (bs x.va)), (.int .u64 (((x.vn).toNat : Nat) : Int)), (.int .u64 (((x.ls).toNat : Nat) : Int)), (.int .i64 (x.mo).toInt)]
def KAcI : Row AcI := ⟨AcI.cells, 7, fun _ => rfl, by decide, fun _ => rfl⟩
theorem It_eqV (x y : It) : eqV (.agg [(0, 2), (1, 2), (2, 1), (3, 1)]) (.agg (It.cells x).toArray) (.agg (It.cells y).toArray) = some (decide (x = y)) := by
  have e : eqV (.agg [(0, 2), (1, 2), (2, 1), (3, 1)]) (.agg (It.cells x).toArray) (.agg (It.cells y).toArray) = some ((((bs x.ky).toList == (bs y.ky).toList) && (((bs x.va).toList == (bs y.va).toList) && ((((x.vn.toNat : Nat) : Int) == ((y.vn.toNat : Nat) : Int)) && ((((x.ls.toNat : Nat) : Int) == ((y.ls.toNat : Nat) : Int)) && true))))) := rfl
  rw [e]; congr 1
  rw [Bool.eq_iff_iff]
  simp only [Bool.and_eq_true, beq_iff_eq, bs_toList, decide_eq_true_eq, Bool.and_true, and_true]
  constructor
  · intro h
    obtain ⟨h0, h1, h2, h3⟩ := h
    obtain ⟨⟩ := x; obtain ⟨⟩ := y
    simp only at *
    rw [h0, h1, u64_inj (Int.ofNat.inj h2), u64_inj (Int.ofNat.inj h3)]
  · intro h; subst h; exact ⟨rfl, rfl, rfl, rfl⟩
theorem opens_9 : OpensL Try.prog 9 layStr 1 (fun a => a.length < 9223372036854775808) := OpensL.string Try.underlying9 (by kernel_rfl)
theorem opens_24 : OpensL Try.prog 24 layU64 1 (fun _ => True) := OpensL.u64 Try.underlying24 (by kernel_rfl)
set_option maxRecDepth 100000 in
theorem opens_26 : OpensL Try.prog 26 (α := Vl) (fun _ y cs => cs = KVl.cells y) 3 (fun y => y.val.length < 9223372036854775808) := by
  refine OpensL.struct (fs := [(9, 0), (24, 1), (24, 2)]) (L := (layP layStr (layP layU64 layU64))) (mk := fun (a, b, c) => ⟨a, b, c⟩) ?_ ?_ (by kernel_rfl) (by kernel_rfl) (OpensLF.cons (by decide) (by decide) opens_9 (OpensLF.cons (by decide) (by decide) opens_24 (OpensLF.one opens_24)))
  · rintro h ⟨a, b, c⟩ cs ⟨_, _, rfl, rfl, ⟨_, _, rfl, rfl, rfl⟩⟩
    rfl
  · rintro ⟨a, b, c⟩ ⟨k0, k1, k2⟩
    exact k0
theorem opens_5 : OpensL Try.prog 5 layU8 1 (fun _ => True) := OpensL.u8 Try.underlying5 (by kernel_rfl)
theorem opens_3 : OpensL Try.prog 3 layI64 1 (fun _ => True) := OpensL.i64 Try.underlying3 (by kernel_rfl)
set_option maxRecDepth 100000 in
theorem opens_47 : OpensL Try.prog 47 (α := AcI) (fun _ y cs => cs = KAcI.cells y) 7 (fun y => y.ky.length < 9223372036854775808 ∧ y.to.length < 9223372036854775808 ∧ y.va.length < 9223372036854775808) := by
  refine OpensL.struct (fs := [(5, 0), (9, 1), (9, 2), (26, 3), (3, 6)]) (L := (layP layU8 (layP layStr (layP layStr (layP (fun _ y cs => cs = KVl.cells y) layI64))))) (mk := fun (d, ky, to, v, mo) => ⟨d, ky, to, v.val, v.ver, v.lea, mo⟩) ?_ ?_ (by kernel_rfl) (by kernel_rfl) (OpensLF.cons (by decide) (by decide) opens_5 (OpensLF.cons (by decide) (by decide) opens_9 (OpensLF.cons (by decide) (by decide) opens_9 (OpensLF.cons (by decide) (by decide) opens_26 (OpensLF.one opens_3)))))
  · rintro h ⟨d, ky, to, v, mo⟩ cs ⟨_, _, rfl, rfl, ⟨_, _, rfl, rfl, ⟨_, _, rfl, rfl, ⟨_, _, rfl, rfl, rfl⟩⟩⟩⟩
    rfl
  · rintro ⟨d, ky, to, v, mo⟩ ⟨k0, k1, k2, k3, k4⟩
    exact ⟨k1, k2, k3⟩
theorem opens_40 : OpensL Try.prog 40 (laySl (fun _ y cs => cs = KAcI.cells y) 7) 1 (fun l => l.length < 9223372036854775808 ∧ ∀ x ∈ l, (fun y => y.ky.length < 9223372036854775808 ∧ y.to.length < 9223372036854775808 ∧ y.va.length < 9223372036854775808) x) := OpensL.slice Try.underlying40 (by kernel_rfl) (by decide) opens_47
variable {h base : H} {L : List Seg} {R : List Nat}
theorem awake15_ran (W : Mem h h [] []) : Cll tab0 16 [] h (fun v h2 => v = .bool true ∧ Mem h h2 [] []) := ⟨_, h, awake_run h, rfl, W⟩
def stepL (LL : List (List It)) (a : AcI) : List (List It) := if a.d.toNat = 0 then putL LL ⟨a.ky, a.va, a.vn, a.ls⟩ else if a.d.toNat = 1 then delL LL a.ky else LL
def madeL (l : List AcI) : List (List It) := l.foldl stepL []
theorem put_lenB {LL : List (List It)} {it : It} {b : Nat} (h : Inv LL) (hn : LL.flatten.length ≤ b) : (putL LL it).flatten.length ≤ b + 1 := by
  rw [(flat_put h).1]; have := (putF_len (it := it) h.2).2; omega
theorem del_lenB {LL : List (List It)} {key : List UInt8} {b : Nat} (h : Inv LL) (hn : LL.flatten.length ≤ b) : (delL LL key).flatten.length ≤ b + 1 := by
  rw [(flat_del h).1]; have : (delF LL.flatten key).length ≤ LL.flatten.length := List.length_filter_le ..; omega
theorem step_inv {LL : List (List It)} {a : AcI} {b : Nat} (h : Inv LL) (hn : LL.flatten.length ≤ b) : Inv (stepL LL a) ∧ (stepL LL a).flatten.length ≤ b + 1 := by
  unfold stepL
  split
  · exact ⟨(flat_put h).2, put_lenB h hn⟩
  · split
    · exact ⟨(flat_del h).2, del_lenB h hn⟩
    · exact ⟨h, by omega⟩
theorem made_inv (l : List AcI) : Inv (madeL l) ∧ (madeL l).flatten.length ≤ l.length := by
  have : ∀ (l : List AcI) (LL : List (List It)) (b : Nat), Inv LL → LL.flatten.length ≤ b → Inv (l.foldl stepL LL) ∧ (l.foldl stepL LL).flatten.length ≤ b + l.length := by
    intro l
    induction l with
    | nil => intro LL b h hn; exact ⟨h, hn⟩
    | cons a l ih =>
      intro LL b h hn
      obtain ⟨q1, q2⟩ := step_inv (a := a) h hn
      obtain ⟨r1, r2⟩ := ih _ _ q1 q2
      exact ⟨r1, by rw [List.foldl_cons, List.length_cons]; omega⟩
  have q := this l [] 0 inv_nil (Nat.le_refl _)
  exact ⟨q.1, by rw [Nat.zero_add] at q; exact q.2⟩
theorem made_snoc {l : List AcI} {i : Nat} {a : AcI} (h : l[i]? = some a) : madeL (l.take (i + 1)) = stepL (madeL (l.take i)) a := by
  unfold madeL; rw [List.take_add_one, h]; simp
theorem range_all {F : List It} (h : F.length ≤ 1099511627776) : rangeF F [] [] (1099511627776 : Int) = F := by
  unfold rangeF geF
  have e1 : F.filter (fun x => !decide (kL x.ky [])) = F := filter_all fun x _ => by rw [decide_eq_false kL_nil]; rfl
  have e2 : F.filter (fun x => decide (okTo [] x)) = F := filter_all fun x _ => decide_eq_true (Or.inl rfl)
  rw [e1, e2, List.take_of_length_le (by omega)]
theorem great15_ran (W : Mem h h [] []) {V : Value} {l : List AcI} (A : KAcI.Sl h V l) (hbig : l.length < 9223372036854775808) : Cll tab0 17 [V] h (fun v h2 => ∃ g, v = .bool g ∧ (g = false → l.length ≤ 200) ∧ Mem h h2 [] []) := by
  obtain ⟨Pl, nl, rfl⟩ := A.shape
  refine Cll.code rfl rfl ?_
  refine WC.env [(0, _)] rfl ?_
  refine G (J (C rfl rfl (D [(0, _)] rfl ?_)))
  refine G (G (J (C rfl rfl (C rfl (op_lenVS A rfl) ?_))))
  refine WS.gtrN (a := (l).length) (b := 200) rfl rfl rfl (fun e7 => ?_) (fun e7 => ?_)
  ·
   refine D [(0, _), (7, _)] rfl ?_
   refine WC.condT rfl (G (J (C rfl rfl (D [(2, _)] rfl ?_))))
   refine WC.ret (⟨[_], (res_tmp rfl res_nil), ?_⟩)
   exact ⟨true, rfl, fun q => (nomatch q), W.bare.take 0⟩
  ·
   refine D [(0, _), (7, _)] rfl ?_
   refine WC.condF rfl (WC.skip (G (J (C rfl rfl (D [(0, _), (3, _)] rfl ?_)))))
   refine G (G (J (C rfl rfl (D [(0, _), (3, _), (4, _)] rfl ?_))))
   refine WC.block ?_
   obtain ⟨L1, eL3, M2⟩ := Mem.name W.bare
   refine WC.loop (σ := Nat × Nat) (fun ((i, n)) => [(0, (.slice Pl l.length nl)), (3, (.int .i64 ((n : Nat) : Int))), (4, (.int .i64 ((i : Nat) : Int)))]) (fun ((i, n)) hh => Mem h hh (L1) [] ∧ i ≤ l.length ∧ n ≤ 60000 * i) (fun ((i, n)) => l.length - i) (0, 0) rfl ⟨M2, ?_⟩ ?_
   · exact ⟨by omega, by omega⟩
   ·rintro ⟨i, n⟩ h4 ⟨M5, ⟨hi, hn⟩⟩
    replace eL3 := eL3.symm; subst eL3
    refine WC.env [(0, _), (3, _), (4, _)] rfl ?_
    refine G (G (J (C rfl rfl (C rfl rfl (C rfl (op_lenVS A rfl) ?_)))))
    refine WS.lssN (a := i) (b := (l).length) rfl rfl rfl (fun e11 => ?_) (fun e11 => ?_)
    ·
     refine D [(0, _), (3, _), (4, _), (11, _)] rfl ?_
     refine WC.condT rfl (WC.skip (G (WC.block (G (G (J (C rfl rfl (C rfl rfl ?_))))))))
     obtain ⟨y16, hy16⟩ : ∃ y, (l)[i]? = some y := ⟨_, List.getElem?_eq_getElem (show i < (l).length by first | omega | (simp only [List.length_drop, List.length_take, List.length_append, List.length_cons, List.length_nil, U]; omega) | (simp only [List.length_drop, List.length_take, List.length_append, List.length_cons, List.length_nil, U] at *; omega))⟩
     refine WS.iaVS A i hy16 rfl rfl rfl rfl ?_
     intro b16_ o16_ ha16
     refine C rfl rfl (C rfl (op_ldH rfl (At.ld (k := 1) (ha16.mono M5.sub) rfl)) (C rfl (op_lenS (l := y16.ky) rfl) ?_))
     refine WS.gtrN (a := (y16.ky).length) (b := 20000) rfl rfl rfl (fun e20 => ?_) (fun e20 => ?_)
     ·
      refine C rfl rfl (WS.off rfl (WS.off rfl (WS.off rfl (WS.off rfl (WS.off rfl (WS.off rfl (WS.off rfl (C rfl rfl (C rfl rfl ?_)))))))))
      refine WS.off rfl (WS.off rfl (WS.off rfl (WS.off rfl (WS.off rfl (WS.off rfl (WS.off rfl (WS.off rfl (C rfl rfl (D [(0, _), (3, _), (4, _), (39, _)] rfl ?_)))))))))
      refine WC.condT rfl (G (J (C rfl rfl (D [(2, _)] rfl ?_))))
      refine WC.ret (⟨[_], (res_tmp rfl res_nil), ?_⟩)
      exact ⟨true, rfl, fun q => (nomatch q), M5.bare.take 0⟩
     ·
      refine C rfl rfl (C rfl rfl (C rfl rfl ?_))
      refine WS.iaVS A i hy16 rfl rfl rfl rfl ?_
      intro b24_ o24_ ha24
      refine C rfl rfl (C rfl (op_ldH rfl (At.ld (k := 2) (ha24.mono M5.sub) rfl)) (C rfl (op_lenS (l := y16.to) rfl) ?_))
      refine WS.gtrN (a := (y16.to).length) (b := 20000) rfl rfl rfl (fun e28 => ?_) (fun e28 => ?_)
      ·
       refine C rfl rfl (C rfl rfl (WS.off rfl (WS.off rfl (WS.off rfl (WS.off rfl (WS.off rfl (WS.off rfl (WS.off rfl (WS.off rfl ?_)))))))))
       refine C rfl rfl (D [(0, _), (3, _), (4, _), (39, _)] rfl ?_)
       refine WC.condT rfl (G (J (C rfl rfl (D [(2, _)] rfl ?_))))
       refine WC.ret (⟨[_], (res_tmp rfl res_nil), ?_⟩)
       exact ⟨true, rfl, fun q => (nomatch q), M5.bare.take 0⟩
      ·
       refine C rfl rfl (C rfl rfl (C rfl rfl (C rfl rfl ?_)))
       refine WS.iaVS A i hy16 rfl rfl rfl rfl ?_
       intro b33_ o33_ ha33
       refine C rfl rfl (C rfl rfl (C rfl (op_ldH rfl (At.ld (k := 3) (ha33.mono M5.sub) rfl)) (C rfl (op_lenS (l := y16.va) rfl) ?_)))
       refine WS.gtrN (a := (y16.va).length) (b := 20000) rfl rfl rfl (fun e38 => ?_) (fun e38 => ?_)
       ·
        refine C rfl rfl (D [(0, _), (3, _), (4, _), (39, _)] rfl ?_)
        refine WC.condT rfl (G (J (C rfl rfl (D [(2, _)] rfl ?_))))
        refine WC.ret (⟨[_], (res_tmp rfl res_nil), ?_⟩)
        exact ⟨true, rfl, fun q => (nomatch q), M5.bare.take 0⟩
       ·
        refine C rfl rfl (D [(0, _), (3, _), (4, _), (39, _)] rfl ?_)
        refine WC.condF rfl (WC.skip (WC.draw M5 [] rfl ?_))
        intro rb6 h7 M8
        refine C rfl rfl (C rfl rfl (C rfl rfl ?_))
        refine WS.iaVS A i hy16 rfl rfl rfl rfl ?_
        intro b43_ o43_ ha43
        refine C rfl rfl (C rfl (op_ldH rfl (At.ld (k := 1) (ha43.mono M8.sub) rfl)) (C rfl (op_lenS (l := y16.ky) rfl) (WS.opV (.int .i64 (((n + (y16.ky).length) : Nat) : Int)) rfl rfl (add_i64 (a := n) (b := (y16.ky).length) (by omega)) (C rfl rfl (C rfl rfl ?_)))))
        refine WS.iaVS A i hy16 rfl rfl rfl rfl ?_
        intro b50_ o50_ ha50
        refine C rfl rfl (C rfl (op_ldH rfl (At.ld (k := 2) (ha50.mono M8.sub) rfl)) (C rfl (op_lenS (l := y16.to) rfl) (WS.opV (.int .i64 ((((n + (y16.ky).length) + (y16.to).length) : Nat) : Int)) rfl rfl (add_i64 (a := (n + (y16.ky).length)) (b := (y16.to).length) (by omega)) (C rfl rfl (C rfl rfl ?_)))))
        refine WS.iaVS A i hy16 rfl rfl rfl rfl ?_
        intro b57_ o57_ ha57
        refine C rfl rfl (C rfl rfl (C rfl (op_ldH rfl (At.ld (k := 3) (ha57.mono M8.sub) rfl)) (C rfl (op_lenS (l := y16.va) rfl) (WS.opV (.int .i64 (((((n + (y16.ky).length) + (y16.to).length) + (y16.va).length) : Nat) : Int)) rfl rfl (add_i64 (a := ((n + (y16.ky).length) + (y16.to).length)) (b := (y16.va).length) (by omega)) (C rfl rfl (D [(0, _), (3, _), (4, _)] rfl ?_))))))
        refine J (C rfl rfl (WS.opV (.int .i64 (((i + 1) : Nat) : Int)) rfl rfl (add_i64 (a := i) (b := 1) (by omega)) (C rfl rfl (D [(0, _), (3, _), (4, _)] rfl ?_))))
        refine ⟨(i + 1, (((n + (y16.ky).length) + (y16.to).length) + (y16.va).length)), rfl, ⟨(M8.bare.bare.take 0), ?_⟩, ?_⟩
        · exact ⟨by omega, by omega⟩
        · simp only []; omega
    ·
     refine D [(0, _), (3, _), (4, _), (11, _)] rfl ?_
     refine WC.condF rfl (WC.exit ?_)
     refine G (J (C rfl rfl ?_))
     refine WS.gtrN (a := n) (b := 20000) rfl rfl rfl (fun e64 => ?_) (fun e64 => ?_)
     ·
      refine C rfl rfl (D [(2, _)] rfl ?_)
      refine WC.ret (⟨[_], (res_tmp rfl res_nil), ?_⟩)
      exact ⟨true, rfl, fun q => (nomatch q), M5.bare.take 0⟩
     ·
      refine C rfl rfl (D [(2, _)] rfl ?_)
      refine WC.ret (⟨[_], (res_tmp rfl res_nil), ?_⟩)
      exact ⟨false, rfl, fun _ => by omega, M5.bare.take 0⟩
theorem made_ran (W : Mem h h [] []) {V : Value} {l : List AcI} (A : KAcI.Sl h V l) (hsml : l.length ≤ 200) : Cll tab0 25 [V] h (fun v h2 => ∃ p S, PgSt p (madeL l) S ∧ v = .pointer (some ⟨p, 0, none⟩) ∧ Mem h h2 [S] []) := by
  obtain ⟨Pl, nl, rfl⟩ := A.shape
  refine Cll.code rfl rfl ?_
  refine WC.env [(0, _)] rfl ?_
  refine G (J (C rfl rfl (D [(0, _)] rfl ?_)))
  refine G (J (WS.call rfl rfl rfl (New_st W.bare) ?_))
  rintro _ h1 ⟨p5, S3, G4, rfl, M2⟩
  replace M2 : Mem _ _ (S3 :: []) _ := M2
  refine C rfl rfl (D [(0, _), (3, _)] rfl ?_)
  refine G (G (J (C rfl rfl (D [(0, _), (3, _), (4, _)] rfl ?_))))
  refine WC.block ?_
  obtain ⟨L5, eL7, M6⟩ := Mem.name1 (M2.bare.focus 0 rfl)
  refine WC.loop (σ := Seg × Nat) (fun ((S_, i)) => [(0, (.slice Pl l.length nl)), (3, (.pointer (some ⟨p5, 0, none⟩))), (4, (.int .i64 ((i : Nat) : Int)))]) (fun ((S_, i)) hh => Mem h hh (S_ :: L5) [] ∧ PgSt p5 (madeL (l.take i)) S_ ∧ i ≤ l.length) (fun ((S_, i)) => l.length - i) (S3, 0) rfl ⟨M6, ?_⟩ ?_
  · exact ⟨by assumption, by omega⟩
  ·rintro ⟨S_, i⟩ h8 ⟨M9, ⟨G_, hi⟩⟩
   replace eL7 := eL7.symm; subst eL7
   refine WC.env [(0, _), (3, _), (4, _)] rfl ?_
   have hN_ : (madeL (l.take i)).flatten.length ≤ i := Nat.le_trans (made_inv (l.take i)).2 (by rw [List.length_take]; omega)
   refine G (G (J (C rfl rfl (C rfl rfl (C rfl (op_lenVS A rfl) ?_)))))
   refine WS.lssN (a := i) (b := (l).length) rfl rfl rfl (fun e9 => ?_) (fun e9 => ?_)
   ·
    refine D [(0, _), (3, _), (4, _), (9, _)] rfl ?_
    refine WC.condT rfl (WC.skip (G (WC.block (G (J (C rfl rfl (C rfl rfl ?_)))))))
    obtain ⟨y14, hy14⟩ : ∃ y, (l)[i]? = some y := ⟨_, List.getElem?_eq_getElem (show i < (l).length by first | omega | (simp only [List.length_drop, List.length_take, List.length_append, List.length_cons, List.length_nil, U]; omega) | (simp only [List.length_drop, List.length_take, List.length_append, List.length_cons, List.length_nil, U] at *; omega))⟩
    refine WS.iaVS A i hy14 rfl rfl rfl rfl ?_
    intro b14_ o14_ ha14
    refine C rfl rfl (C rfl (op_ldH rfl (At.ld0 (ha14.mono M9.sub) rfl)) (D [(0, _), (3, _), (4, _), (16, _)] rfl ?_))
    refine WC.block (G (J (WS.eqlN (a := (y14.d).toNat) (b := 0) rfl rfl rfl (fun e18 => ?_) (fun e18 => ?_))))
    ·
     refine C rfl rfl (D [(0, _), (3, _), (4, _), (16, _), (17, _)] rfl ?_)
     refine WC.condT rfl (WC.draw M9 [] rfl ?_)
     intro rb10 h11 M12
     refine C rfl rfl (C rfl rfl (C rfl rfl ?_))
     refine WS.iaVS A i hy14 rfl rfl rfl rfl ?_
     intro b22_ o22_ ha22
     refine C rfl rfl (C rfl (op_ldH rfl (At.ld (k := 1) (ha22.mono M12.sub) rfl)) (C rfl rfl (C rfl rfl ?_)))
     refine WS.iaVS A i hy14 rfl rfl rfl rfl ?_
     intro b27_ o27_ ha27
     refine C rfl rfl (C rfl (op_ldN rfl (At.ldsub (ha27.mono M12.sub) (cs2 := [_, _, _]) rfl (Nat.le_of_ble_eq_true rfl))) ?_)
     refine WS.call rfl rfl rfl (Put_ran (key := y14.ky) (v := (⟨y14.va, y14.vn, y14.ls⟩ : Vl)) G_ (M12.bare.focus 0 rfl) (made_inv (l.take i)).1 (Nat.le_trans hN_ (by omega))) ?_
     rintro _ h13 ⟨rfl, S15, G16, M14⟩
     replace M14 : Mem _ _ (S15 :: []) _ := M14
     have I17 : Inv (putL (madeL (l.take i)) (⟨y14.ky, y14.va, y14.vn, y14.ls⟩ : It)) := (flat_put (made_inv (l.take i)).1).2
     have N18 := put_lenB (it := (⟨y14.ky, y14.va, y14.vn, y14.ls⟩ : It)) (made_inv (l.take i)).1 hN_
     refine D [(0, _), (3, _), (4, _)] rfl ?_
     refine J (C rfl rfl (WS.opV (.int .i64 (((i + 1) : Nat) : Int)) rfl rfl (add_i64 (a := i) (b := 1) (by omega)) (C rfl rfl (D [(0, _), (3, _), (4, _)] rfl ?_))))
     refine ⟨(S15, i + 1), rfl, ⟨((M14.bare.bare.focus 0 rfl).take 1), ?_⟩, ?_⟩
     · exact ⟨by rw [made_snoc hy14]; unfold stepL; first | (rw [if_pos e18]; exact G16) | (rw [if_neg e18, if_pos e32]; exact G16) | (rw [if_neg e18, if_neg e32]; exact G16), by omega⟩
     · simp only []; omega
    ·
     refine C rfl rfl (D [(0, _), (3, _), (4, _), (16, _), (17, _)] rfl ?_)
     refine WC.condF rfl (G (J (WS.eqlN (a := (y14.d).toNat) (b := 1) rfl rfl rfl (fun e32 => ?_) (fun e32 => ?_))))
     ·
      refine C rfl rfl (D [(0, _), (3, _), (4, _), (31, _)] rfl ?_)
      refine WC.condT rfl (J (C rfl rfl (C rfl rfl (C rfl rfl ?_))))
      refine WS.iaVS A i hy14 rfl rfl rfl rfl ?_
      intro b36_ o36_ ha36
      refine C rfl rfl (C rfl (op_ldH rfl (At.ld (k := 1) (ha36.mono M9.sub) rfl)) ?_)
      refine WS.call rfl rfl rfl (Delete_ran (key := y14.ky) G_ (M9.bare.focus 0 rfl) (made_inv (l.take i)).1 (Nat.le_trans hN_ (by omega))) ?_
      rintro _ h19 ⟨rfl, S21, G22, M20⟩
      replace M20 : Mem _ _ (S21 :: []) _ := M20
      have I23 : Inv (delL (madeL (l.take i)) y14.ky) := (flat_del (made_inv (l.take i)).1).2
      have N24 := del_lenB (key := y14.ky) (made_inv (l.take i)).1 hN_
      refine D [(0, _), (3, _), (4, _)] rfl ?_
      refine J (C rfl rfl (WS.opV (.int .i64 (((i + 1) : Nat) : Int)) rfl rfl (add_i64 (a := i) (b := 1) (by omega)) (C rfl rfl (D [(0, _), (3, _), (4, _)] rfl ?_))))
      refine ⟨(S21, i + 1), rfl, ⟨((M20.bare.focus 0 rfl).take 1), ?_⟩, ?_⟩
      · exact ⟨by rw [made_snoc hy14]; unfold stepL; first | (rw [if_pos e18]; exact G22) | (rw [if_neg e18, if_pos e32]; exact G22) | (rw [if_neg e18, if_neg e32]; exact G22), by omega⟩
      · simp only []; omega
     ·
      refine C rfl rfl (D [(0, _), (3, _), (4, _), (31, _)] rfl ?_)
      refine WC.condF rfl (WC.skip (J (C rfl rfl (WS.opV (.int .i64 (((i + 1) : Nat) : Int)) rfl rfl (add_i64 (a := i) (b := 1) (by omega)) (C rfl rfl (D [(0, _), (3, _), (4, _)] rfl ?_))))))
      refine ⟨(S_, i + 1), rfl, ⟨((M9.bare.focus 0 rfl).take 1), ?_⟩, ?_⟩
      · exact ⟨by rw [made_snoc hy14]; unfold stepL; first | (rw [if_pos e18]; exact G_) | (rw [if_neg e18, if_pos e32]; exact G_) | (rw [if_neg e18, if_neg e32]; exact G_), by omega⟩
      · simp only []; omega
   ·
    refine D [(0, _), (3, _), (4, _), (9, _)] rfl ?_
    refine WC.condF rfl (WC.exit ?_)
    refine G (J (C rfl rfl (C rfl rfl (D [(2, _)] rfl ?_))))
    refine WC.ret (⟨[_], (res_tmp rfl res_nil), ?_⟩)
    rw [List.take_of_length_le (by omega)] at G_
    exact ⟨p5, S_, G_, rfl, ((M9.bare.focus 0 rfl).take 1)⟩
theorem alike_ran (W : Mem h h [] []) {V V2 : Value} {l m : List It} (A : KIt.Sl h V l) (A2 : KIt.Sl h V2 m) (hl : l.length ≤ 1000000) : Cll tab0 26 [V, V2] h (fun v h2 => v = .bool (decide (l = m)) ∧ Mem h h2 [] []) := by
  obtain ⟨Pl, nl, rfl⟩ := A.shape
  obtain ⟨Pm, nm, rfl⟩ := A2.shape
  refine Cll.code rfl rfl ?_
  refine WC.env [(0, _), (1, _)] rfl ?_
  refine G (J (C rfl rfl (D [(0, _), (1, _)] rfl ?_)))
  refine G (G (J (C rfl rfl (C rfl (op_lenVS A rfl) (C rfl rfl (C rfl (op_lenVS A2 rfl) ?_))))))
  refine WS.neqN (a := (l).length) (b := (m).length) rfl rfl rfl (fun e10 => ?_) (fun e10 => ?_)
  ·
   refine D [(0, _), (1, _), (10, _)] rfl ?_
   refine WC.condT rfl (G (J (C rfl rfl (D [(4, _)] rfl ?_))))
   refine WC.ret (⟨[_], (res_tmp rfl res_nil), ?_⟩)
   refine ⟨?_, W.bare.take 0⟩
   rw [decide_eq_false]; rfl
   intro q; subst q
   first
   | omega
   | (rw [hy19] at hy23; cases hy23; exact e25 rfl)
  ·
   refine D [(0, _), (1, _), (10, _)] rfl ?_
   refine WC.condF rfl (WC.skip (G (G (J (C rfl rfl (D [(0, _), (1, _), (5, _)] rfl ?_))))))
   refine WC.block ?_
   obtain ⟨L1, eL3, M2⟩ := Mem.name W.bare
   refine WC.loop (σ := Nat) (fun (i) => [(0, (.slice Pl l.length nl)), (1, (.slice Pm m.length nm)), (5, (.int .i64 ((i : Nat) : Int)))]) (fun (i) hh => Mem h hh (L1) [] ∧ i ≤ l.length ∧ ∀ k, k < i → l[k]? = m[k]?) (fun (i) => l.length - i) (0) rfl ⟨M2, ?_⟩ ?_
   · exact ⟨by omega, fun k q => by omega⟩
   ·rintro i h4 ⟨M5, ⟨hi, hE⟩⟩
    replace eL3 := eL3.symm; subst eL3
    refine WC.env [(0, _), (1, _), (5, _)] rfl ?_
    refine G (G (J (C rfl rfl (C rfl rfl (C rfl (op_lenVS A rfl) ?_)))))
    refine WS.lssN (a := i) (b := (l).length) rfl rfl rfl (fun e14 => ?_) (fun e14 => ?_)
    ·
     refine D [(0, _), (1, _), (5, _), (14, _)] rfl ?_
     refine WC.condT rfl (WC.skip (G (WC.block (G (WC.draw M5 [] rfl ?_)))))
     intro rb6 h7 M8
     refine C rfl rfl (C rfl rfl ?_)
     obtain ⟨y19, hy19⟩ : ∃ y, (l)[i]? = some y := ⟨_, List.getElem?_eq_getElem (show i < (l).length by first | omega | (simp only [List.length_drop, List.length_take, List.length_append, List.length_cons, List.length_nil, U]; omega) | (simp only [List.length_drop, List.length_take, List.length_append, List.length_cons, List.length_nil, U] at *; omega))⟩
     refine WS.iaVS A i hy19 rfl rfl rfl rfl ?_
     intro b19_ o19_ ha19
     refine C rfl (op_ldAt rfl (ha19.mono M8.sub) rfl) (C rfl rfl (C rfl rfl ?_))
     obtain ⟨y23, hy23⟩ : ∃ y, (m)[i]? = some y := ⟨_, List.getElem?_eq_getElem (show i < (m).length by first | omega | (simp only [List.length_drop, List.length_take, List.length_append, List.length_cons, List.length_nil, U]; omega) | (simp only [List.length_drop, List.length_take, List.length_append, List.length_cons, List.length_nil, U] at *; omega))⟩
     refine WS.iaVS A2 i hy23 rfl rfl rfl rfl ?_
     intro b23_ o23_ ha23
     refine C rfl (op_ldAt rfl (ha23.mono M8.sub) rfl) ?_
     refine WS.eqqDn (p := y19 = y23) rfl rfl rfl (It_eqV _ _) (fun e25 => ?_) (fun e25 => ?_)
     ·
      refine D [(0, _), (1, _), (5, _), (25, _)] rfl ?_
      refine WC.condT rfl (G (J (C rfl rfl (D [(4, _)] rfl ?_))))
      refine WC.ret (⟨[_], (res_tmp rfl res_nil), ?_⟩)
      refine ⟨?_, M8.bare.bare.take 0⟩
      rw [decide_eq_false]; rfl
      intro q; subst q
      first
      | omega
      | (rw [hy19] at hy23; cases hy23; exact e25 rfl)
     ·
      refine D [(0, _), (1, _), (5, _), (25, _)] rfl ?_
      refine WC.condF rfl (WC.skip (J (C rfl rfl (WS.opV (.int .i64 (((i + 1) : Nat) : Int)) rfl rfl (add_i64 (a := i) (b := 1) (by omega)) (C rfl rfl (D [(0, _), (1, _), (5, _)] rfl ?_))))))
      refine ⟨i + 1, rfl, ⟨(M8.bare.bare.take 0), ?_⟩, ?_⟩
      · exact ⟨by omega, fun k q => if c : k = i then (by subst c; rw [hy19, hy23, e25]) else hE k (by omega)⟩
      · simp only []; omega
    ·
     refine D [(0, _), (1, _), (5, _), (14, _)] rfl ?_
     refine WC.condF rfl (WC.exit ?_)
     refine G (J (C rfl rfl (D [(4, _)] rfl ?_)))
     refine WC.ret (⟨[_], (res_tmp rfl res_nil), ?_⟩)
     exact ⟨by rw [decide_eq_true (List.ext_getElem? fun k => by by_cases c : k < i; (exact hE k c); (rw [List.getElem?_eq_none (by omega), List.getElem?_eq_none (by omega)]))]; rfl, M5.bare.take 0⟩
end Go.Proofs.Ytfnhhelbegnopaa.Wt
namespace Go.Proofs.Ytfnhhelbegnopaa.Wt
open Go Go.Proofs.Ytfnhhelbegnopaa.Am Go.Proofs.Ytfnhhelbegnopaa.IrAll
set_option linter.unusedVariables false
set_option linter.unusedSimpArgs false
variable {h base : H} {L : List Seg} {R : List Nat}
theorem get_iff {F : List It} {key : List UInt8} {x : It} (h : SrtI F) : getF F key = some x ↔ x ∈ F ∧ x.ky = key := by
  unfold getF
  constructor
  · intro e
    have h1 := List.mem_of_find?_eq_some e
    have h2 := List.find?_some e
    exact ⟨h1, of_decide_eq_true h2⟩
  · rintro ⟨h1, h2⟩
    obtain ⟨A, B, rfl⟩ := List.append_of_mem h1
    have h3 := (srt_app.1 h).2.2
    rw [List.find?_append, List.find?_eq_none.2 (fun z hz => by
      have := h3 z hz x (List.mem_cons_self ..)
      simp; intro q; rw [q, h2] at this; exact kL_irr this), Option.none_or, List.find?_cons_of_pos (p := fun x : It => decide (x.ky = key)) (by simpa using h2)]
theorem mem_put {F : List It} {it x : It} : x ∈ putF F it ↔ x = it ∨ (x ∈ F ∧ x.ky ≠ it.ky) := by
  unfold putF
  simp only [List.mem_append, List.mem_cons, List.mem_filter, decide_eq_true_eq]
  constructor
  · rintro (⟨h1, h2⟩ | h | ⟨h1, h2⟩)
    · exact .inr ⟨h1, fun q => by rw [q] at h2; exact kL_irr h2⟩
    · exact .inl h
    · exact .inr ⟨h1, fun q => by rw [q] at h2; exact kL_irr h2⟩
  · rintro (h | ⟨h1, h2⟩)
    · exact .inr (.inl h)
    · by_cases c : kL x.ky it.ky
      · exact .inl ⟨h1, c⟩
      · refine .inr (.inr ⟨h1, ?_⟩)
        apply Classical.byContradiction
        intro q; exact h2 (kL_tot c q)
theorem mem_del {F : List It} {key : List UInt8} {x : It} : x ∈ delF F key ↔ x ∈ F ∧ x.ky ≠ key := by
  unfold delF; simp
end Go.Proofs.Ytfnhhelbegnopaa.Wt
namespace Go.Proofs.Ytfnhhelbegnopaa.Wt
open Go Go.Proofs.Ytfnhhelbegnopaa.Am Go.Proofs.Ytfnhhelbegnopaa.IrAll
set_option linter.unusedVariables false
set_option linter.unusedSimpArgs false
variable {h base : H} {L : List Seg} {R : List Nat}
def ok2 (fr to : List UInt8) (x : It) : Bool := !decide (kL x.ky fr) && decide (okTo to x)
theorem rangeF_ok2 (F : List It) (fr to : List UInt8) (most : Int) : rangeF F fr to most = (F.filter (ok2 fr to)).take most.toNat := by
  unfold rangeF geF
  rw [List.filter_filter]
  congr 2
  funext x
  unfold ok2; rw [Bool.and_comm]
end Go.Proofs.Ytfnhhelbegnopaa.Wt
namespace Go.Proofs.Ytfnhhelbegnopaa.Wt
open Go Go.Proofs.Ytfnhhelbegnopaa.Am Go.Proofs.Ytfnhhelbegnopaa.IrAll
open Go.Proofs.Ytfnhhelbegnopaa.Am.WS renaming op → C
open Go.Proofs.Ytfnhhelbegnopaa.Am.WC renaming seq → D
open Go.Proofs.Ytfnhhelbegnopaa.Am.WS renaming nil → G
open List renaming length_append → J
open Go.Proofs.Ytfnhhelbegnopaa.Am.WS renaming call → U
open Go.Proofs.Ytfnhhelbegnopaa.Am.WC renaming run → X
set_option linter.unusedVariables false
set_option linter.unusedSimpArgs false
variable {h base : H} {L : List Seg} {R : List Nat}
theorem ext_srt : ∀ {A B : List It}, SrtI A → SrtI B → (∀ x, x ∈ A ↔ x ∈ B) → A = B := by
  intro A
  induction A with
  | nil =>
    intro B _ _ h
    cases B with
    | nil => rfl
    | cons b B => exact absurd ((h b).2 (List.mem_cons_self ..)) (by simp)
  | cons a A ih =>
    intro B hA hB h
    cases B with
    | nil => exact absurd ((h a).1 (List.mem_cons_self ..)) (by simp)
    | cons b B =>
      have hA2 := srt_cons.1 hA
      have hB2 := srt_cons.1 hB
      have e : a = b := by
        rcases List.mem_cons.1 ((h a).1 (List.mem_cons_self ..)) with q | q
        · exact q
        · rcases List.mem_cons.1 ((h b).2 (List.mem_cons_self ..)) with r | r
          · exact r.symm
          · exact absurd (hB2.1 a q) (kL_asym (hA2.1 b r))
      subst e
      rw [ih hA2.2 hB2.2 fun x => ?_]
      constructor
      · intro hx
        rcases List.mem_cons.1 ((h x).1 (List.mem_cons_of_mem _ hx)) with q | q
        · subst q; exact absurd (hA2.1 x hx) kL_irr
        · exact q
      · intro hx
        rcases List.mem_cons.1 ((h x).2 (List.mem_cons_of_mem _ hx)) with q | q
        · subst q; exact absurd (hB2.1 x hx) kL_irr
        · exact q
def QI (F : List It) (e : It) (k : Nat) (LL : List (List It)) : Prop := Inv LL ∧ ∀ x, x ∈ LL.flatten ↔ x ∈ F.drop k ∨ (x = e ∧ ∀ y ∈ F.drop k, y.ky ≠ e.ky)
theorem qi_zero (F : List It) (e : It) : QI F e F.length (putL [] e) := by
  refine ⟨(flat_put inv_nil).2, fun x => ?_⟩
  rw [(flat_put inv_nil).1, List.drop_length]
  simp [putF]
theorem qi_step {F : List It} {e y : It} {j : Nat} {LL : List (List It)} (h : QI F e (j + 1) LL) (hs : SrtI F) (hy : F[j]? = some y) : QI F e j (putL LL y) := by
  obtain ⟨h1, h2⟩ := h
  have hd : F.drop j = y :: F.drop (j + 1) := by rw [← (List.getElem?_eq_some_iff.1 hy).2, List.getElem_cons_drop]
  have hs2 : SrtI (y :: F.drop (j + 1)) := by rw [← hd]; exact List.Pairwise.sublist (List.drop_sublist _ _) hs
  have hlt := (srt_cons.1 hs2).1
  refine ⟨(flat_put h1).2, fun x => ?_⟩
  rw [(flat_put h1).1, mem_put, h2, hd]
  constructor
  · rintro (rfl | ⟨q | ⟨q, r⟩, z⟩)
    · exact .inl (List.mem_cons_self ..)
    · exact .inl (List.mem_cons_of_mem _ q)
    · refine .inr ⟨q, fun w hw => ?_⟩
      rcases List.mem_cons.1 hw with rfl | hw
      · intro u; rw [q] at z; exact z u.symm
      · exact r w hw
  · rintro (q | ⟨q, r⟩)
    · rcases List.mem_cons.1 q with rfl | q
      · exact .inl rfl
      · exact .inr ⟨.inl q, fun u => by have := hlt x q; rw [u] at this; exact kL_irr this⟩
    · exact .inr ⟨.inr ⟨q, fun w hw => r w (List.mem_cons_of_mem _ hw)⟩, fun u => r y (List.mem_cons_self ..) (by rw [← u, q])⟩
theorem qi_there {F : List It} {e : It} {LL : List (List It)} (h : QI F e 0 LL) (hs : SrtI F) (hg : (getV F e.ky).2 = true) : LL.flatten = F := by
  refine ext_srt h.1.2 hs fun x => ?_
  rw [h.2, List.drop_zero]
  constructor
  · rintro (q | ⟨q, r⟩)
    · exact q
    · exfalso
      unfold getV at hg
      cases z : getF F e.ky with
      | none => rw [z] at hg; cases hg
      | some w => exact r w ((get_iff hs).1 z).1 ((get_iff hs).1 z).2
  · exact .inl
theorem qi_del {F : List It} {e : It} {LL : List (List It)} (h : QI F e 0 LL) (hs : SrtI F) (hg : (getV F e.ky).2 = false) : (delL LL e.ky).flatten = F := by
  have hn : ∀ y ∈ F, y.ky ≠ e.ky := fun y hy q => by
    unfold getV at hg
    rw [(get_iff hs).2 ⟨hy, q⟩] at hg; cases hg
  refine ext_srt (flat_del h.1).2.2 hs fun x => ?_
  rw [(flat_del h.1).1, mem_del, h.2, List.drop_zero]
  constructor
  · rintro ⟨q | ⟨q, r⟩, z⟩
    · exact q
    · exact absurd (by rw [q]) z
  · intro q; exact ⟨.inl q, hn x q⟩
theorem rangeF_len (F : List It) (fr to : List UInt8) (most : Int) : (rangeF F fr to most).length ≤ F.length := by
  rw [rangeF_ok2, List.length_take]; have := List.length_filter_le (ok2 fr to) F; omega
theorem mul2 {n : Nat} (h : n ≤ 1000000) : Value.int .i64 (IntKind.i64.wrap ((2 : Int) * ((n : Nat) : Int))) = .int .i64 ((2 * n : Nat) : Int) := by
  congr 1; rw [IntKind.wrap_i64]; omega
theorem sizes_in {A B : List (List It)} (hA : Inv A) (hB : Inv B) {k y : Nat} (hy : (A.map List.length ++ B.map List.length)[k]? = some y) : 1 ≤ y ∧ y ≤ 8 := by
  rcases List.mem_append.1 (List.mem_of_getElem? hy) with q | q
  · obtain ⟨g, hg, rfl⟩ := List.mem_map.1 q
    have := hA.1 g hg; exact ⟨List.length_pos_iff.2 this.1, this.2⟩
  · obtain ⟨g, hg, rfl⟩ := List.mem_map.1 q
    have := hB.1 g hg; exact ⟨List.length_pos_iff.2 this.1, this.2⟩
theorem sum_take {l : List Nat} {k y : Nat} (hy : l[k]? = some y) : (l.take (k + 1)).sum = (l.take k).sum + y := by
  rw [List.take_add_one, hy]; simp
theorem sum_take_le (l : List Nat) (k : Nat) : (l.take k).sum ≤ l.sum := by
  have : l.sum = (l.take k).sum + (l.drop k).sum := by rw [← List.sum_append, List.take_append_drop]
  omega
set_option maxRecDepth 8000 in
set_option maxHeartbeats 2000000 in
theorem law_PagesSame (W : Mem h h [] []) {l : List AcI} {fr to : List UInt8} {mo : Int64} {u0 u1 u2 u3 : Value} (l0 : laySl (fun _ y cs => cs = KAcI.cells y) 7 h l [u0]) (l1 : layStr h fr [u1]) (l2 : layStr h to [u2]) (l3 : layI64 h mo [u3]) (k0 : l.length < 9223372036854775808 ∧ ∀ x ∈ l, x.ky.length < 9223372036854775808 ∧ x.to.length < 9223372036854775808 ∧ x.va.length < 9223372036854775808) (k1 : fr.length < 9223372036854775808) (k2 : to.length < 9223372036854775808) (k3 : True) : Cll tab0 5 [u0, u1, u2, u3] h (fun v _ => v = .bool true) := by
  have hbig := k0.1
  obtain ⟨V0, hV, S0⟩ := l0
  cases hV
  have l1 : [u1] = [_] := l1
  cases l1
  have l2 : [u2] = [_] := l2
  cases l2
  have l3 : [u3] = [_] := l3
  cases l3
  have A : KAcI.Sl h u0 l := SlL.sl S0
  obtain ⟨P, c, rfl⟩ := A.shape
  refine Cll.code rfl rfl ?_
  refine WC.env [(0, _), (1, _), (2, _), (3, _)] rfl ?_
  refine D (X (C rfl rfl (G [(0, _), (1, _), (2, _), (3, _)] rfl ?_)))
  refine D (D (X (C rfl rfl ?_)))
  refine U rfl rfl rfl (great15_ran W.here (A.mono W.sub) hbig) ?_
  rintro _ h1 ⟨g19, rfl, hg19, N2⟩
  have M3 := W.trans N2
  refine C rfl rfl ?_
  cases hb1 : g19
  ·
   refine C rfl rfl (C rfl (op_lenS (l := fr) rfl) ?_)
   refine WS.gtrN (a := (fr).length) (b := 20000) rfl rfl rfl (fun e23 => ?_) (fun e23 => ?_)
   ·
    refine C rfl rfl (C rfl rfl (WS.off rfl (WS.off rfl (WS.off rfl (C rfl rfl (G [(0, _), (1, _), (2, _), (3, _), (29, _)] rfl ?_))))))
    refine WC.condT rfl (D (X (U rfl rfl rfl (awake15_ran M3.here ) ?_)))
    rintro _ h4 ⟨rfl, N5⟩
    have M6 := M3.trans N5
    refine C rfl rfl (G [(8, _)] rfl ?_)
    refine WC.ret (⟨[_], (res_tmp rfl res_nil), ?_⟩)
    rfl
   ·
    refine C rfl rfl (C rfl rfl (C rfl rfl (C rfl (op_lenS (l := to) rfl) ?_)))
    refine WS.gtrN (a := (to).length) (b := 20000) rfl rfl rfl (fun e28 => ?_) (fun e28 => ?_)
    ·
     refine C rfl rfl (G [(0, _), (1, _), (2, _), (3, _), (29, _)] rfl ?_)
     refine WC.condT rfl (D (X (U rfl rfl rfl (awake15_ran M3.here ) ?_)))
     rintro _ h7 ⟨rfl, N8⟩
     have M9 := M3.trans N8
     refine C rfl rfl (G [(8, _)] rfl ?_)
     refine WC.ret (⟨[_], (res_tmp rfl res_nil), ?_⟩)
     rfl
    ·
     refine C rfl rfl (G [(0, _), (1, _), (2, _), (3, _), (29, _)] rfl ?_)
     refine WC.condF rfl (WC.skip (D (X ?_)))
     have hsml : l.length ≤ 200 := hg19 (by assumption)
     have hFl := Nat.le_trans (made_inv l).2 hsml
     have hFs := (made_inv l).1.2
     refine C rfl rfl ?_
     refine U rfl rfl rfl (made_ran M3.here (A.mono M3.sub) hsml) ?_
     rintro _ h10 ⟨p32, S13, G14, rfl, N11⟩
     have M12 := M3.trans N11
     replace M12 : Mem _ _ (S13 :: []) _ := M12
     refine C rfl rfl (G [(1, _), (2, _), (3, _), (9, _)] rfl ?_)
     refine D (X (C rfl rfl ?_))
     refine U rfl rfl rfl (Range_st (fr := []) (to := []) (most := (1099511627776 : Int)) G14 (M12.bare.focus 0 rfl) (made_inv l).1 (Nat.le_trans (made_inv l).2 (by omega))) ?_
     rintro V19 h15 ⟨S17, O18, M16⟩
     rw [range_all (Nat.le_trans (made_inv l).2 (by omega))] at O18
     obtain ⟨P20, rfl⟩ := Row.Own.shape O18
     replace M16 : Mem _ _ (S17 :: S13 :: []) _ := M16
     refine C rfl rfl (G [(1, _), (2, _), (3, _), (9, _), (10, _)] rfl ?_)
     refine D (X (U rfl rfl rfl (New_st M16.bare) ?_))
     rintro _ h21 ⟨p35, S23, G24, rfl, M22⟩
     replace M22 : Mem _ _ (S23 :: S17 :: S13 :: []) _ := M22
     refine C rfl rfl (G [(1, _), (2, _), (3, _), (9, _), (10, _), (11, _)] rfl ?_)
     refine D (X (C rfl rfl (WS.opV (.agg #[(.string (bs ([]))), (.int .u64 (0 : Int)), (.int .u64 (0 : Int))]) rfl rfl rfl ?_)))
     refine U rfl rfl rfl (Put_ran (key := [101, 120, 116, 114, 97]) (v := (⟨[], 0, 0⟩ : Vl)) G24 (M22.bare.focus 0 rfl) inv_nil (Nat.le_trans (Nat.zero_le 0) (by omega))) ?_
     rintro _ h25 ⟨rfl, S27, G28, M26⟩
     replace M26 : Mem _ _ (S27 :: S17 :: S13 :: []) _ := M26
     have I29 : Inv (putL ([]) (⟨[101, 120, 116, 114, 97], [], 0, 0⟩ : It)) := (flat_put inv_nil).2
     have N30 := put_lenB (it := (⟨[101, 120, 116, 114, 97], [], 0, 0⟩ : It)) inv_nil (Nat.zero_le 0)
     refine G [(1, _), (2, _), (3, _), (9, _), (10, _), (11, _)] rfl ?_
     refine D (D (X (C rfl rfl (C rfl (op_lenVO O18 rfl) (WS.opV (.int .i64 ((((madeL l).flatten.length : Nat) : Int) - 1)) rfl rfl (sub1 (by omega)) (C rfl rfl (G [(1, _), (2, _), (3, _), (9, _), (10, _), (11, _), (12, _)] rfl ?_)))))))
     refine WC.block ?_
     obtain ⟨L31, eL33, M32⟩ := Mem.name1 (M26.bare.focus 0 rfl)
     refine WC.loop (σ := Nat × List (List It) × Seg) (fun ((k, Lq, S_)) => [(1, (.string (bs fr))), (2, (.string (bs to))), (3, (.int .i64 mo.toInt)), (9, (.pointer (some ⟨p32, 0, none⟩))), (10, (.slice P20 ((madeL l).flatten).length (2 * ((madeL l).flatten).length))), (11, (.pointer (some ⟨p35, 0, none⟩))), (12, (.int .i64 ((k : Int) - 1)))]) (fun ((k, Lq, S_)) hh => Mem h hh (S_ :: L31) [] ∧ PgSt p35 Lq S_ ∧ QI (madeL l).flatten (⟨[101, 120, 116, 114, 97], [], 0, 0⟩ : It) k Lq ∧ Lq.flatten.length ≤ 1 + (200 - k) ∧ k ≤ (madeL l).flatten.length) (fun ((k, Lq, S_)) => k) ((madeL l).flatten.length, putL ([]) (⟨[101, 120, 116, 114, 97], [], 0, 0⟩ : It), S27) rfl ⟨M32, ?_⟩ ?_
     · exact ⟨by assumption, qi_zero _ _, by show 1 ≤ _; omega, by omega⟩
     ·rintro ⟨k, Lq, S_⟩ h34 ⟨M35, ⟨G_, hQ, hNq, hk⟩⟩
      replace eL33 := eL33.symm; subst eL33
      refine WC.env [(1, _), (2, _), (3, _), (9, _), (10, _), (11, _), (12, _)] rfl ?_
      refine D (D (X (C rfl rfl ?_)))
      refine WS.geq (a := ((k : Int) - 1)) (b := (0 : Int)) rfl rfl rfl (fun e43 => ?_) (fun e43 => ?_)
      ·
       obtain ⟨j, rfl⟩ : ∃ j, k = j + 1 := ⟨k - 1, by omega⟩
       refine G [(1, _), (2, _), (3, _), (9, _), (10, _), (11, _), (12, _), (43, _)] rfl ?_
       refine WC.condT rfl (WC.skip (D (WC.block (WC.draw M35 [] rfl ?_))))
       intro rb36 h37 M38
       refine C rfl rfl (C rfl rfl (WS.opV (.int .i64 ((j : Nat) : Int)) rfl rfl (by congr 1; omega) ?_))
       obtain ⟨y49, hy49⟩ : ∃ y, ((madeL l).flatten)[j]? = some y := ⟨_, List.getElem?_eq_getElem (show j < ((madeL l).flatten).length by first | omega | (simp only [List.length_drop, List.length_take, J, List.length_cons, List.length_nil, List.length_singleton]; omega) | (simp only [List.length_drop, List.length_take, J, List.length_cons, List.length_nil, List.length_singleton] at *; omega))⟩
       refine WS.iaVS (Row.Own.sl O18 (Mem.owni M38 1 rfl)) j hy49 rfl rfl rfl rfl ?_
       intro b49_ o49_ ha49
       refine C rfl rfl (C rfl (op_ldH rfl (At.ld0 ha49 rfl)) (C rfl rfl (WS.opV (.int .i64 ((j : Nat) : Int)) rfl rfl (by congr 1; omega) ?_)))
       refine WS.iaVS (Row.Own.sl O18 (Mem.owni M38 1 rfl)) j hy49 rfl rfl rfl rfl ?_
       intro b54_ o54_ ha54
       refine C rfl rfl (C rfl (op_ldN rfl (At.ldsub ha54 (cs2 := [_, _, _]) rfl (Nat.le_of_ble_eq_true rfl))) ?_)
       refine U rfl rfl rfl (Put_ran (key := y49.ky) (v := (⟨y49.va, y49.vn, y49.ls⟩ : Vl)) G_ (M38.bare.focus 0 rfl) hQ.1 (Nat.le_trans hNq (by omega))) ?_
       rintro _ h39 ⟨rfl, S41, G42, M40⟩
       replace M40 : Mem _ _ (S41 :: S17 :: S13 :: []) _ := M40
       have I43 : Inv (putL Lq (⟨y49.ky, y49.va, y49.vn, y49.ls⟩ : It)) := (flat_put hQ.1).2
       have N44 := put_lenB (it := (⟨y49.ky, y49.va, y49.vn, y49.ls⟩ : It)) hQ.1 hNq
       refine G [(1, _), (2, _), (3, _), (9, _), (10, _), (11, _), (12, _)] rfl ?_
       refine X (WS.opV (.int .i64 ((j : Nat) : Int)) rfl rfl (by congr 1; omega) (WS.opV (.int .i64 ((j : Int) - 1)) rfl rfl (sub1 (by omega)) (C rfl rfl (G [(1, _), (2, _), (3, _), (9, _), (10, _), (11, _), (12, _)] rfl ?_))))
       refine ⟨(j, putL Lq (⟨y49.ky, y49.va, y49.vn, y49.ls⟩ : It), S41), rfl, ⟨((((M40.bare.bare.focus 2 rfl).focus 2 rfl).focus 2 rfl).take 3), ?_⟩, ?_⟩
       · exact ⟨G42, qi_step hQ hFs hy49, Nat.le_trans N44 (by omega), by omega⟩
       · simp only []; omega
      ·
       refine G [(1, _), (2, _), (3, _), (9, _), (10, _), (11, _), (12, _), (43, _)] rfl ?_
       refine WC.condF rfl (WC.exit ?_)
       refine D (X ?_)
       obtain rfl : k = 0 := by omega
       refine C rfl rfl ?_
       refine U rfl rfl rfl (Get_st (key := [101, 120, 116, 114, 97]) G14 (M35.bare.focus 2 rfl) (made_inv l).1 (Nat.le_trans (made_inv l).2 (by omega))) ?_
       rintro _ h45 ⟨rfl, M46⟩
       replace M46 : Mem _ _ (S13 :: S_ :: S17 :: []) _ := M46
       refine C rfl rfl (C rfl rfl (C rfl rfl ?_))
       refine WS.new M46 rfl ?_
       intro p47 h48 M49
       refine WS.st1 (M49.focus 0 rfl) [_, _, _] [_, _, _] rfl rfl rfl rfl rfl (Nat.le_of_ble_eq_true rfl) (Nat.le_of_ble_eq_true rfl) rfl rfl ?_
       intro h50 M51
       replace M51 : Mem _ _ ([(p47, _)] :: S13 :: S_ :: S17 :: []) _ := M51
       refine C rfl rfl (G [(1, _), (2, _), (3, _), (9, _), (10, _), (11, _), (14, _)] rfl ?_)
       refine D (D (X (C rfl rfl ?_)))
       cases hb2 : (getV (madeL l).flatten ([101, 120, 116, 114, 97])).2
       ·
        refine WS.opV (.bool true) rfl rfl rfl (G [(1, _), (2, _), (3, _), (9, _), (10, _), (11, _), (64, _)] rfl ?_)
        refine WC.condT rfl (X (C rfl rfl ?_))
        refine U rfl rfl rfl (Delete_ran (key := [101, 120, 116, 114, 97]) G_ (M51.bare.focus 2 rfl) hQ.1 (Nat.le_trans hNq (by omega))) ?_
        rintro _ h52 ⟨rfl, S54, G55, M53⟩
        replace M53 : Mem _ _ (S54 :: [(p47, _)] :: S13 :: S17 :: []) _ := M53
        have I56 : Inv (delL Lq ([101, 120, 116, 114, 97])) := (flat_del hQ.1).2
        have N57 := del_lenB (key := [101, 120, 116, 114, 97]) hQ.1 hNq
        refine G [(1, _), (2, _), (3, _), (9, _), (10, _), (11, _)] rfl ?_
        refine D (D (X ?_))
        have hqF : (delL Lq ([101, 120, 116, 114, 97])).flatten = (madeL l).flatten := by first | exact qi_there hQ hFs (by assumption) | exact qi_del hQ hFs (by assumption)
        have hqI : Inv (delL Lq ([101, 120, 116, 114, 97])) := I56
        have hqP := pages_le hqI
        rw [hqF] at hqP
        have hpP := pages_le (made_inv l).1
        refine C rfl rfl (C rfl (op_lenVO O18 rfl) (C rfl rfl ?_))
        refine U rfl rfl rfl (Len_st G14 (M53.bare.focus 2 rfl)) ?_
        rintro _ h58 ⟨rfl, M59⟩
        replace M59 : Mem _ _ (S13 :: S54 :: [(p47, _)] :: S17 :: []) _ := M59
        refine WS.neqN (a := ((madeL l).flatten).length) (b := (madeL l).flatten.length) rfl rfl rfl (fun e71 => ?_) (fun e71 => ?_)
        ·
         exact absurd rfl e71
        ·
         refine C rfl rfl (C rfl rfl ?_)
         refine U rfl rfl rfl (Len_st G14 (M59.bare.focus 0 rfl)) ?_
         rintro _ h60 ⟨rfl, M61⟩
         replace M61 : Mem _ _ (S13 :: S54 :: [(p47, _)] :: S17 :: []) _ := M61
         refine C rfl rfl ?_
         refine U rfl rfl rfl (Len_st G55 (M61.bare.focus 1 rfl)) ?_
         rintro _ h62 ⟨rfl, M63⟩
         replace M63 : Mem _ _ (S54 :: S13 :: [(p47, _)] :: S17 :: []) _ := M63
         refine WS.neqN (a := (madeL l).flatten.length) (b := (delL Lq ([101, 120, 116, 114, 97])).flatten.length) rfl rfl rfl (fun e77 => ?_) (fun e77 => ?_)
         ·
          exact absurd (by rw [hqF]) e77
         ·
          refine C rfl rfl (C rfl rfl (C rfl rfl (C rfl rfl ?_)))
          refine U rfl rfl rfl (Range_st (fr := []) (to := []) (most := (1099511627776 : Int)) G55 (M63.bare.focus 0 rfl) I56 (Nat.le_trans N57 (by omega))) ?_
          rintro V68 h64 ⟨S66, O67, M65⟩
          rw [range_all (Nat.le_trans N57 (by omega))] at O67
          obtain ⟨P69, rfl⟩ := Row.Own.shape O67
          replace M65 : Mem _ _ (S66 :: S54 :: S13 :: [(p47, _)] :: S17 :: []) _ := M65
          refine U rfl rfl rfl (alike_ran M65.here (Row.Own.sl O18 (Mem.owni M65 4 rfl)) (Row.Own.sl O67 (Mem.owni M65 0 rfl)) (Nat.le_trans (made_inv l).2 (by omega))) ?_
          rintro _ h70 ⟨rfl, N71⟩
          have M72 := M65.trans N71
          cases hb3 : (decide ((madeL l).flatten = (delL Lq ([101, 120, 116, 114, 97])).flatten))
          ·
           exact absurd hqF.symm (of_decide_eq_false hb3)
          ·
           refine WS.opV (.bool false) rfl rfl rfl (C rfl rfl (C rfl rfl (C rfl rfl (C rfl rfl (C rfl rfl (C rfl rfl ?_))))))
           refine U rfl rfl rfl (Range_st (fr := fr) (to := to) (most := mo.toInt) G14 (M72.bare.focus 2 rfl) (made_inv l).1 (Nat.le_trans (made_inv l).2 (by omega))) ?_
           rintro V77 h73 ⟨S75, O76, M74⟩
           obtain ⟨P78, rfl⟩ := Row.Own.shape O76
           replace M74 : Mem _ _ (S75 :: S13 :: S66 :: S54 :: [(p47, _)] :: S17 :: []) _ := M74
           refine C rfl rfl (C rfl rfl (C rfl rfl (C rfl rfl ?_)))
           refine U rfl rfl rfl (Range_st (fr := fr) (to := to) (most := mo.toInt) G55 (M74.bare.focus 3 rfl) I56 (Nat.le_trans N57 (by omega))) ?_
           rintro V83 h79 ⟨S81, O82, M80⟩
           obtain ⟨P84, rfl⟩ := Row.Own.shape O82
           replace M80 : Mem _ _ (S81 :: S54 :: S75 :: S13 :: S66 :: [(p47, _)] :: S17 :: []) _ := M80
           refine U rfl rfl rfl (alike_ran M80.here (Row.Own.sl O76 (Mem.owni M80 2 rfl)) (Row.Own.sl O82 (Mem.owni M80 0 rfl)) (Nat.le_trans (Nat.le_trans (rangeF_len _ _ _ _) (made_inv l).2) (by omega))) ?_
           rintro _ h85 ⟨rfl, N86⟩
           have M87 := M80.trans N86
           cases hb4 : (decide ((rangeF (madeL l).flatten fr to mo.toInt) = (rangeF (delL Lq ([101, 120, 116, 114, 97])).flatten fr to mo.toInt)))
           ·
            exact absurd (by rw [hqF]) (of_decide_eq_false hb4)
           ·
            refine WS.opV (.bool false) rfl rfl rfl (C rfl rfl (G [(9, _), (10, _), (11, _), (99, _)] rfl ?_))
            refine WC.condF rfl (WC.skip (D (X (C rfl rfl ?_))))
            refine U rfl rfl rfl (Sizes_st  G14 (M87.bare.focus 3 rfl) (made_inv l).1 (Nat.le_trans (made_inv l).2 (by omega))) ?_
            rintro V92 h88 ⟨S90, O91, M89⟩
            obtain ⟨P93, rfl⟩ := Row.Own.shape O91
            replace M89 : Mem _ _ (S90 :: S13 :: S81 :: S54 :: S75 :: S66 :: [(p47, _)] :: S17 :: []) _ := M89
            refine C rfl rfl ?_
            refine U rfl rfl rfl (Sizes_st  G55 (M89.bare.focus 3 rfl) I56 (Nat.le_trans N57 (by omega))) ?_
            rintro V98 h94 ⟨S96, O97, M95⟩
            obtain ⟨P99, rfl⟩ := Row.Own.shape O97
            replace M95 : Mem _ _ (S96 :: S54 :: S90 :: S13 :: S81 :: S75 :: S66 :: [(p47, _)] :: S17 :: []) _ := M95
            refine WS.app (l := ((madeL l).map List.length)) (m := ((delL Lq ([101, 120, 116, 114, 97])).map List.length)) (O91) (M95.focus 2 rfl) (Row.Src.sl (Row.Own.sl O97 (Mem.owni M95 0 rfl))) rfl (by simp only [J, List.length_map]; omega) (by simp only [J, List.length_map]; omega) rfl rfl rfl ?_
            intro V100 S101 h102 O103 M104
            obtain ⟨P105, rfl⟩ := Row.Own.shape O103
            refine C rfl rfl (G [(10, _), (15, _)] rfl ?_)
            refine D (X (C rfl rfl (G [(10, _), (15, _), (16, _)] rfl ?_)))
            refine D (D (X (C rfl rfl (G [(10, _), (15, _), (16, _), (17, _)] rfl ?_))))
            refine WC.block ?_
            have htot : ((((madeL l).map List.length) ++ ((delL Lq ([101, 120, 116, 114, 97])).map List.length))).sum = 2 * (madeL l).flatten.length := by rw [List.sum_append, ← List.length_flatten, ← List.length_flatten, hqF]; omega
            have hstl := sum_take_le ((((madeL l).map List.length) ++ ((delL Lq ([101, 120, 116, 114, 97])).map List.length)))
            obtain ⟨L106, eL108, M107⟩ := Mem.name M104.bare
            refine WC.loop (σ := Nat × Nat) (fun ((n, k)) => [(10, (.slice P20 ((madeL l).flatten).length (2 * ((madeL l).flatten).length))), (15, (.slice P105 ((((madeL l).map List.length) ++ ((delL Lq ([101, 120, 116, 114, 97])).map List.length))).length (2 * ((((madeL l).map List.length) ++ ((delL Lq ([101, 120, 116, 114, 97])).map List.length))).length))), (16, (.int .i64 ((n : Nat) : Int))), (17, (.int .i64 ((k : Nat) : Int)))]) (fun ((n, k)) hh => Mem h hh (L106) [] ∧ n = (((((madeL l).map List.length) ++ ((delL Lq ([101, 120, 116, 114, 97])).map List.length))).take k).sum ∧ k ≤ ((((madeL l).map List.length) ++ ((delL Lq ([101, 120, 116, 114, 97])).map List.length))).length) (fun ((n, k)) => ((((madeL l).map List.length) ++ ((delL Lq ([101, 120, 116, 114, 97])).map List.length))).length - k) (0, 0) rfl ⟨M107, ?_⟩ ?_
            · exact ⟨by simp, by omega⟩
            ·rintro ⟨n, k⟩ h109 ⟨M110, ⟨hn, hk⟩⟩
             replace eL108 := eL108.symm; subst eL108
             refine WC.env [(10, _), (15, _), (16, _), (17, _)] rfl ?_
             have hstk := hstl k
             have hlen : ((((madeL l).map List.length) ++ ((delL Lq ([101, 120, 116, 114, 97])).map List.length))).length ≤ 400 := by simp only [J, List.length_map]; omega
             refine D (D (X (C rfl rfl (C rfl rfl (C rfl (op_lenVO O103 rfl) ?_)))))
             refine WS.lssN (a := k) (b := ((((madeL l).map List.length) ++ ((delL Lq ([101, 120, 116, 114, 97])).map List.length))).length) rfl rfl rfl (fun e108 => ?_) (fun e108 => ?_)
             ·
              refine G [(10, _), (15, _), (16, _), (17, _), (108, _)] rfl ?_
              refine WC.condT rfl (WC.skip (D (WC.block (D (D (X (C rfl rfl (C rfl rfl ?_))))))))
              obtain ⟨y113, hy113⟩ : ∃ y, ((((madeL l).map List.length) ++ ((delL Lq ([101, 120, 116, 114, 97])).map List.length)))[k]? = some y := ⟨_, List.getElem?_eq_getElem (show k < ((((madeL l).map List.length) ++ ((delL Lq ([101, 120, 116, 114, 97])).map List.length))).length by first | omega | (simp only [List.length_drop, List.length_take, J, List.length_cons, List.length_nil, List.length_singleton]; omega) | (simp only [List.length_drop, List.length_take, J, List.length_cons, List.length_nil, List.length_singleton] at *; omega))⟩
              have hy8 := sizes_in (made_inv l).1 hqI hy113
              refine WS.iaVS (Row.Own.sl O103 (Mem.owni M110 0 rfl)) k hy113 rfl rfl rfl rfl ?_
              intro b113_ o113_ ha113
              refine C rfl (op_ldH rfl (At.ld0 ha113 rfl)) ?_
              refine WS.lssN (a := y113) (b := 1) rfl rfl rfl (fun e115 => ?_) (fun e115 => ?_)
              ·
               exact absurd e115 (by omega)
              ·
               refine C rfl rfl (C rfl rfl (C rfl rfl ?_))
               refine WS.iaVS (Row.Own.sl O103 (Mem.owni M110 0 rfl)) k hy113 rfl rfl rfl rfl ?_
               intro b119_ o119_ ha119
               refine C rfl (op_ldH rfl (At.ld0 ha119 rfl)) ?_
               refine WS.gtrN (a := y113) (b := 8) rfl rfl rfl (fun e121 => ?_) (fun e121 => ?_)
               ·
                exact absurd e121 (by omega)
               ·
                refine C rfl rfl (G [(10, _), (15, _), (16, _), (17, _), (122, _)] rfl ?_)
                refine WC.condF rfl (WC.skip (X (C rfl rfl (C rfl rfl (C rfl rfl ?_)))))
                refine WS.iaVS (Row.Own.sl O103 (Mem.owni M110 0 rfl)) k hy113 rfl rfl rfl rfl ?_
                intro b126_ o126_ ha126
                refine C rfl (op_ldH rfl (At.ld0 ha126 rfl)) (WS.opV (.int .i64 (((n + y113) : Nat) : Int)) rfl rfl (add_i64 (a := n) (b := y113) (by omega)) (C rfl rfl (G [(10, _), (15, _), (16, _), (17, _)] rfl ?_)))
                refine X (C rfl rfl (WS.opV (.int .i64 (((k + 1) : Nat) : Int)) rfl rfl (add_i64 (a := k) (b := 1) (by omega)) (C rfl rfl (G [(10, _), (15, _), (16, _), (17, _)] rfl ?_))))
                refine ⟨((n + y113), k + 1), rfl, ⟨((((((((((M110.bare.focus 8 rfl).focus 8 rfl).focus 8 rfl).focus 8 rfl).focus 8 rfl).focus 8 rfl).focus 8 rfl).focus 8 rfl).focus 8 rfl).take 9), ?_⟩, ?_⟩
                · exact ⟨by rw [sum_take hy113, hn], by omega⟩
                · simp only []; omega
             ·
              refine G [(10, _), (15, _), (16, _), (17, _), (108, _)] rfl ?_
              refine WC.condF rfl (WC.exit ?_)
              refine D (X ?_)
              have hsum : n = 2 * (madeL l).flatten.length := by rw [hn, List.take_of_length_le (by omega), htot]
              refine C rfl rfl (C rfl rfl (C rfl (op_lenVO O18 rfl) (WS.opV (.int .i64 ((2 * (madeL l).flatten.length : Nat) : Int)) rfl rfl (mul2 (by omega)) ?_)))
              refine WS.eqlN (a := n) (b := (2 * (madeL l).flatten.length)) rfl rfl rfl (fun e133 => ?_) (fun e133 => ?_)
              ·
               refine C rfl rfl ?_
               refine U rfl rfl rfl (awake15_ran M110.here ) ?_
               rintro _ h111 ⟨rfl, N112⟩
               have M113 := M110.trans N112
               refine C rfl rfl (C rfl rfl (G [(8, _)] rfl ?_))
               refine WC.ret (⟨[_], (res_tmp rfl res_nil), ?_⟩)
               rfl
              ·
               exact absurd hsum e133
       ·
        refine WS.opV (.bool false) rfl rfl rfl (G [(1, _), (2, _), (3, _), (9, _), (10, _), (11, _), (64, _)] rfl ?_)
        refine WC.condF rfl (WC.skip (D (D (X ?_))))
        have hqF : (Lq).flatten = (madeL l).flatten := by first | exact qi_there hQ hFs (by assumption) | exact qi_del hQ hFs (by assumption)
        have hqI : Inv (Lq) := hQ.1
        have hqP := pages_le hqI
        rw [hqF] at hqP
        have hpP := pages_le (made_inv l).1
        refine C rfl rfl (C rfl (op_lenVO O18 rfl) (C rfl rfl ?_))
        refine U rfl rfl rfl (Len_st G14 (M51.bare.focus 1 rfl)) ?_
        rintro _ h114 ⟨rfl, M115⟩
        replace M115 : Mem _ _ (S13 :: [(p47, _)] :: S_ :: S17 :: []) _ := M115
        refine WS.neqN (a := ((madeL l).flatten).length) (b := (madeL l).flatten.length) rfl rfl rfl (fun e71 => ?_) (fun e71 => ?_)
        ·
         exact absurd rfl e71
        ·
         refine C rfl rfl (C rfl rfl ?_)
         refine U rfl rfl rfl (Len_st G14 (M115.bare.focus 0 rfl)) ?_
         rintro _ h116 ⟨rfl, M117⟩
         replace M117 : Mem _ _ (S13 :: [(p47, _)] :: S_ :: S17 :: []) _ := M117
         refine C rfl rfl ?_
         refine U rfl rfl rfl (Len_st G_ (M117.bare.focus 2 rfl)) ?_
         rintro _ h118 ⟨rfl, M119⟩
         replace M119 : Mem _ _ (S_ :: S13 :: [(p47, _)] :: S17 :: []) _ := M119
         refine WS.neqN (a := (madeL l).flatten.length) (b := (Lq).flatten.length) rfl rfl rfl (fun e77 => ?_) (fun e77 => ?_)
         ·
          exact absurd (by rw [hqF]) e77
         ·
          refine C rfl rfl (C rfl rfl (C rfl rfl (C rfl rfl ?_)))
          refine U rfl rfl rfl (Range_st (fr := []) (to := []) (most := (1099511627776 : Int)) G_ (M119.bare.focus 0 rfl) hQ.1 (Nat.le_trans hNq (by omega))) ?_
          rintro V124 h120 ⟨S122, O123, M121⟩
          rw [range_all (Nat.le_trans hNq (by omega))] at O123
          obtain ⟨P125, rfl⟩ := Row.Own.shape O123
          replace M121 : Mem _ _ (S122 :: S_ :: S13 :: [(p47, _)] :: S17 :: []) _ := M121
          refine U rfl rfl rfl (alike_ran M121.here (Row.Own.sl O18 (Mem.owni M121 4 rfl)) (Row.Own.sl O123 (Mem.owni M121 0 rfl)) (Nat.le_trans (made_inv l).2 (by omega))) ?_
          rintro _ h126 ⟨rfl, N127⟩
          have M128 := M121.trans N127
          cases hb5 : (decide ((madeL l).flatten = (Lq).flatten))
          ·
           exact absurd hqF.symm (of_decide_eq_false hb5)
          ·
           refine WS.opV (.bool false) rfl rfl rfl (C rfl rfl (C rfl rfl (C rfl rfl (C rfl rfl (C rfl rfl (C rfl rfl ?_))))))
           refine U rfl rfl rfl (Range_st (fr := fr) (to := to) (most := mo.toInt) G14 (M128.bare.focus 2 rfl) (made_inv l).1 (Nat.le_trans (made_inv l).2 (by omega))) ?_
           rintro V133 h129 ⟨S131, O132, M130⟩
           obtain ⟨P134, rfl⟩ := Row.Own.shape O132
           replace M130 : Mem _ _ (S131 :: S13 :: S122 :: S_ :: [(p47, _)] :: S17 :: []) _ := M130
           refine C rfl rfl (C rfl rfl (C rfl rfl (C rfl rfl ?_)))
           refine U rfl rfl rfl (Range_st (fr := fr) (to := to) (most := mo.toInt) G_ (M130.bare.focus 3 rfl) hQ.1 (Nat.le_trans hNq (by omega))) ?_
           rintro V139 h135 ⟨S137, O138, M136⟩
           obtain ⟨P140, rfl⟩ := Row.Own.shape O138
           replace M136 : Mem _ _ (S137 :: S_ :: S131 :: S13 :: S122 :: [(p47, _)] :: S17 :: []) _ := M136
           refine U rfl rfl rfl (alike_ran M136.here (Row.Own.sl O132 (Mem.owni M136 2 rfl)) (Row.Own.sl O138 (Mem.owni M136 0 rfl)) (Nat.le_trans (Nat.le_trans (rangeF_len _ _ _ _) (made_inv l).2) (by omega))) ?_
           rintro _ h141 ⟨rfl, N142⟩
           have M143 := M136.trans N142
           cases hb6 : (decide ((rangeF (madeL l).flatten fr to mo.toInt) = (rangeF (Lq).flatten fr to mo.toInt)))
           ·
            exact absurd (by rw [hqF]) (of_decide_eq_false hb6)
           ·
            refine WS.opV (.bool false) rfl rfl rfl (C rfl rfl (G [(9, _), (10, _), (11, _), (99, _)] rfl ?_))
            refine WC.condF rfl (WC.skip (D (X (C rfl rfl ?_))))
            refine U rfl rfl rfl (Sizes_st  G14 (M143.bare.focus 3 rfl) (made_inv l).1 (Nat.le_trans (made_inv l).2 (by omega))) ?_
            rintro V148 h144 ⟨S146, O147, M145⟩
            obtain ⟨P149, rfl⟩ := Row.Own.shape O147
            replace M145 : Mem _ _ (S146 :: S13 :: S137 :: S_ :: S131 :: S122 :: [(p47, _)] :: S17 :: []) _ := M145
            refine C rfl rfl ?_
            refine U rfl rfl rfl (Sizes_st  G_ (M145.bare.focus 3 rfl) hQ.1 (Nat.le_trans hNq (by omega))) ?_
            rintro V154 h150 ⟨S152, O153, M151⟩
            obtain ⟨P155, rfl⟩ := Row.Own.shape O153
            replace M151 : Mem _ _ (S152 :: S_ :: S146 :: S13 :: S137 :: S131 :: S122 :: [(p47, _)] :: S17 :: []) _ := M151
            refine WS.app (l := ((madeL l).map List.length)) (m := ((Lq).map List.length)) (O147) (M151.focus 2 rfl) (Row.Src.sl (Row.Own.sl O153 (Mem.owni M151 0 rfl))) rfl (by simp only [J, List.length_map]; omega) (by simp only [J, List.length_map]; omega) rfl rfl rfl ?_
            intro V156 S157 h158 O159 M160
            obtain ⟨P161, rfl⟩ := Row.Own.shape O159
            refine C rfl rfl (G [(10, _), (15, _)] rfl ?_)
            refine D (X (C rfl rfl (G [(10, _), (15, _), (16, _)] rfl ?_)))
            refine D (D (X (C rfl rfl (G [(10, _), (15, _), (16, _), (17, _)] rfl ?_))))
            refine WC.block ?_
            have htot : ((((madeL l).map List.length) ++ ((Lq).map List.length))).sum = 2 * (madeL l).flatten.length := by rw [List.sum_append, ← List.length_flatten, ← List.length_flatten, hqF]; omega
            have hstl := sum_take_le ((((madeL l).map List.length) ++ ((Lq).map List.length)))
            obtain ⟨L162, eL164, M163⟩ := Mem.name M160.bare
            refine WC.loop (σ := Nat × Nat) (fun ((n, k)) => [(10, (.slice P20 ((madeL l).flatten).length (2 * ((madeL l).flatten).length))), (15, (.slice P161 ((((madeL l).map List.length) ++ ((Lq).map List.length))).length (2 * ((((madeL l).map List.length) ++ ((Lq).map List.length))).length))), (16, (.int .i64 ((n : Nat) : Int))), (17, (.int .i64 ((k : Nat) : Int)))]) (fun ((n, k)) hh => Mem h hh (L162) [] ∧ n = (((((madeL l).map List.length) ++ ((Lq).map List.length))).take k).sum ∧ k ≤ ((((madeL l).map List.length) ++ ((Lq).map List.length))).length) (fun ((n, k)) => ((((madeL l).map List.length) ++ ((Lq).map List.length))).length - k) (0, 0) rfl ⟨M163, ?_⟩ ?_
            · exact ⟨by simp, by omega⟩
            ·rintro ⟨n, k⟩ h165 ⟨M166, ⟨hn, hk⟩⟩
             replace eL164 := eL164.symm; subst eL164
             refine WC.env [(10, _), (15, _), (16, _), (17, _)] rfl ?_
             have hstk := hstl k
             have hlen : ((((madeL l).map List.length) ++ ((Lq).map List.length))).length ≤ 400 := by simp only [J, List.length_map]; omega
             refine D (D (X (C rfl rfl (C rfl rfl (C rfl (op_lenVO O159 rfl) ?_)))))
             refine WS.lssN (a := k) (b := ((((madeL l).map List.length) ++ ((Lq).map List.length))).length) rfl rfl rfl (fun e108 => ?_) (fun e108 => ?_)
             ·
              refine G [(10, _), (15, _), (16, _), (17, _), (108, _)] rfl ?_
              refine WC.condT rfl (WC.skip (D (WC.block (D (D (X (C rfl rfl (C rfl rfl ?_))))))))
              obtain ⟨y113, hy113⟩ : ∃ y, ((((madeL l).map List.length) ++ ((Lq).map List.length)))[k]? = some y := ⟨_, List.getElem?_eq_getElem (show k < ((((madeL l).map List.length) ++ ((Lq).map List.length))).length by first | omega | (simp only [List.length_drop, List.length_take, J, List.length_cons, List.length_nil, List.length_singleton]; omega) | (simp only [List.length_drop, List.length_take, J, List.length_cons, List.length_nil, List.length_singleton] at *; omega))⟩
              have hy8 := sizes_in (made_inv l).1 hqI hy113
              refine WS.iaVS (Row.Own.sl O159 (Mem.owni M166 0 rfl)) k hy113 rfl rfl rfl rfl ?_
              intro b113_ o113_ ha113
              refine C rfl (op_ldH rfl (At.ld0 ha113 rfl)) ?_
              refine WS.lssN (a := y113) (b := 1) rfl rfl rfl (fun e115 => ?_) (fun e115 => ?_)
              ·
               exact absurd e115 (by omega)
              ·
               refine C rfl rfl (C rfl rfl (C rfl rfl ?_))
               refine WS.iaVS (Row.Own.sl O159 (Mem.owni M166 0 rfl)) k hy113 rfl rfl rfl rfl ?_
               intro b119_ o119_ ha119
               refine C rfl (op_ldH rfl (At.ld0 ha119 rfl)) ?_
               refine WS.gtrN (a := y113) (b := 8) rfl rfl rfl (fun e121 => ?_) (fun e121 => ?_)
               ·
                exact absurd e121 (by omega)
               ·
                refine C rfl rfl (G [(10, _), (15, _), (16, _), (17, _), (122, _)] rfl ?_)
                refine WC.condF rfl (WC.skip (X (C rfl rfl (C rfl rfl (C rfl rfl ?_)))))
                refine WS.iaVS (Row.Own.sl O159 (Mem.owni M166 0 rfl)) k hy113 rfl rfl rfl rfl ?_
                intro b126_ o126_ ha126
                refine C rfl (op_ldH rfl (At.ld0 ha126 rfl)) (WS.opV (.int .i64 (((n + y113) : Nat) : Int)) rfl rfl (add_i64 (a := n) (b := y113) (by omega)) (C rfl rfl (G [(10, _), (15, _), (16, _), (17, _)] rfl ?_)))
                refine X (C rfl rfl (WS.opV (.int .i64 (((k + 1) : Nat) : Int)) rfl rfl (add_i64 (a := k) (b := 1) (by omega)) (C rfl rfl (G [(10, _), (15, _), (16, _), (17, _)] rfl ?_))))
                refine ⟨((n + y113), k + 1), rfl, ⟨((((((((((M166.bare.focus 8 rfl).focus 8 rfl).focus 8 rfl).focus 8 rfl).focus 8 rfl).focus 8 rfl).focus 8 rfl).focus 8 rfl).focus 8 rfl).take 9), ?_⟩, ?_⟩
                · exact ⟨by rw [sum_take hy113, hn], by omega⟩
                · simp only []; omega
             ·
              refine G [(10, _), (15, _), (16, _), (17, _), (108, _)] rfl ?_
              refine WC.condF rfl (WC.exit ?_)
              refine D (X ?_)
              have hsum : n = 2 * (madeL l).flatten.length := by rw [hn, List.take_of_length_le (by omega), htot]
              refine C rfl rfl (C rfl rfl (C rfl (op_lenVO O18 rfl) (WS.opV (.int .i64 ((2 * (madeL l).flatten.length : Nat) : Int)) rfl rfl (mul2 (by omega)) ?_)))
              refine WS.eqlN (a := n) (b := (2 * (madeL l).flatten.length)) rfl rfl rfl (fun e133 => ?_) (fun e133 => ?_)
              ·
               refine C rfl rfl ?_
               refine U rfl rfl rfl (awake15_ran M166.here ) ?_
               rintro _ h167 ⟨rfl, N168⟩
               have M169 := M166.trans N168
               refine C rfl rfl (C rfl rfl (G [(8, _)] rfl ?_))
               refine WC.ret (⟨[_], (res_tmp rfl res_nil), ?_⟩)
               rfl
              ·
               exact absurd hsum e133
  ·
   refine WS.off rfl (WS.off rfl (WS.off rfl (C rfl rfl (C rfl rfl (WS.off rfl (WS.off rfl (WS.off rfl (C rfl rfl (G [(0, _), (1, _), (2, _), (3, _), (29, _)] rfl ?_)))))))))
   refine WC.condT rfl (D (X (U rfl rfl rfl (awake15_ran M3.here ) ?_)))
   rintro _ h170 ⟨rfl, N171⟩
   have M172 := M3.trans N171
   refine C rfl rfl (G [(8, _)] rfl ?_)
   refine WC.ret (⟨[_], (res_tmp rfl res_nil), ?_⟩)
   rfl
end Go.Proofs.Ytfnhhelbegnopaa.Wt
